/- Texts of one proof, put together: T23, T24, TO, B0. -/
import Derived.Test.YtejgddephbaenaaGreatM5
import Derived.Test.YtejgddephbaenaaGreatM4
import Derived.Test.YtejgddephbaenaaGreatM3
import Derived.Test.YtejgddephbaenaaGreatRows
import Derived.ProofKit
import Derived.Below
import Derived.ChangeSame
import Derived.Handed
import Derived.KernelRfl
namespace Go.VL
open Go.RowKit
set_option maxRecDepth 20000
set_option maxHeartbeats 8000000
theorem fop_ok {op : BinOp} {k : FloatKind} {x y : Option Nat} : okF k (fop op k x y) := fun c h => by
  cases x with
  | none => cases h
  | some a => cases y with
    | none => cases h
    | some b => exact fbin_num (op := op) (a := a) (b := b) (by cases op <;> first | exact h | cases h)
theorem sumL_s {xs : List (Option Nat)} {n : Nat} (h1 : 1 ≤ n) (h : n < xs.length) : fop .add .f32 (sumL (xs.take n)) xs[n] = sumL (xs.take (n + 1)) := by
  obtain ⟨i, rfl⟩ : ∃ i, n = i + 1 := ⟨n - 1, by omega⟩
  exact (sumL_take h).symm
theorem sm_step (g : Ca) {n : Nat} (h1 : 1 ≤ n) (h : n < 16) : fop .add .f32 (sumL ((l16 g).take n)) (g ⟨n, h⟩) = sumL ((l16 g).take (n + 1)) := by
  rw [← sumL_s h1 (by rw [l16_len]; exact h), l16_get g h]
/-- The cars on a road. -/
def carsR (r : Rd) : Option Nat := fop .mul .f32 (sumL (l16 r.1)) r.2.2.2
def carsT (t : Tw) : Option Nat := sumL (t.1.map carsR)
def carsW (t : Tw) : Option Nat := if townOk t then carsT t else some 0
def codeW (t : Tw) : Int := if townOk t then 0 else 1
theorem sumL_ok : ∀ {xs : List (Option Nat)}, (∀ x ∈ xs, okF .f32 x) → okF .f32 (sumL xs)
  | [], _ => okF_fOf 0
  | x :: r, h => by
    unfold sumL
    have h0 := h x (by simp)
    clear h
    induction r generalizing x with
    | nil => exact h0
    | cons y r ih => exact ih _ fop_ok
theorem carsW_ok (t : Tw) : okF .f32 (carsW t) := by
  unfold carsW
  split
  · exact sumL_ok fun x hx => by
      obtain ⟨r, -, rfl⟩ := List.mem_map.1 hx
      exact fop_ok
  · exact okF_fOf 0
theorem cl_snoc {rs : List Rd} {i : Nat} (h : i < rs.length) : (rs.map carsR).take i ++ [carsR rs[i]] = (rs.map carsR).take (i + 1) := by
  rw [List.take_succ_eq_append_getElem (by simpa using h), List.getElem_map]
theorem cs_0 {rs : List Rd} (h : 0 < rs.length) : carsR rs[0] = sumL ((rs.map carsR).take (0 + 1)) := by
  rw [show (0 + 1) = 1 from rfl, sumL_1 (by simpa using h), List.getElem_map]
theorem cs_s {rs : List Rd} {i : Nat} (h1 : 1 ≤ i) (h : i < rs.length) : fop .add .f32 (sumL ((rs.map carsR).take i)) (carsR rs[i]) = sumL ((rs.map carsR).take (i + 1)) := by
  rw [← sumL_s h1 (by simpa using h), List.getElem_map]
/-- The best share of a road. -/
def bestR (r : Rd) : Option Nat := fop .quo .f32 r.2.2.1 (fop .add .f32 r.2.1 r.2.2.1)
def gbq (r : Rd) (i : Nat) : Bool := ford .f32 (r.1 ⟨15 - i, by omega⟩) (bestR r) == some .gt
def qf (p : Nat → Bool) : Nat → Nat → Nat
  | 0, m => m
  | f + 1, m => if p m = true then qf p f (m + 1) else m
theorem qf_t {p : Nat → Bool} {i : Nat} (h : i < 16) (hp : p i = true) : qf p (16 - (i + 1)) (i + 1) = qf p (16 - i) i := by
  rw [show 16 - i = (16 - (i + 1)) + 1 by omega]
  conv => rhs; unfold qf
  rw [if_pos hp]
theorem qf_f {p : Nat → Bool} {i : Nat} (h : i < 16) (hp : ¬ p i = true) : qf p (16 - i) i = i := by
  rw [show 16 - i = (16 - (i + 1)) + 1 by omega]
  unfold qf
  rw [if_neg hp]
theorem qf_le {p : Nat → Bool} : ∀ f m, qf p f m ≤ m + f
  | 0, m => Nat.le_refl _
  | f + 1, m => by
    unfold qf
    split
    · have := qf_le (p := p) f (m + 1)
      omega
    · omega
/-- How long the queue of a road is. -/
def qn (r : Rd) : Nat := qf (gbq r) 16 0
def qnI (r : Rd) : Int := qn r
theorem qnI_eq (r : Rd) : qnI r = (qn r : Int) := rfl
theorem qn_le (r : Rd) : qn r ≤ 16 := by have := qf_le (p := gbq r) 16 0; unfold qn; omega
abbrev rl (r : Rd) : List (Option Nat) := l16 r.1 ++ [r.2.1, r.2.2.1, r.2.2.2]
theorem rl_len (r : Rd) : (rl r).length = 19 := rfl
theorem rl_ld (r : Rd) {i : Nat} (h : i < 16) (h' : i < (rl r).length) : mkV false (sub (fe ((rl r)[i]'h')) 0 1) = some (.c (.f .f32 (r.1 ⟨i, h⟩))) := by
  have e : (rl r)[i]'h' = r.1 ⟨i, h⟩ := by
    rw [List.getElem_append_left (by rw [l16_len]; exact h), l16_get r.1 h]
  rw [e]
  rfl
/-- Where the longest queue is, and how long it is. -/
def lq (q : Nat → Int) : Nat → Int × Int
  | 0 => (0, -1)
  | i + 1 => if q i > (lq q i).2 then ((i : Int), q i) else lq q i
theorem lq_t {q : Nat → Int} {i : Nat} (h : q i > (lq q i).2) : lq q (i + 1) = ((i : Int), q i) := by
  rw [lq, if_pos h]
theorem lq_f {q : Nat → Int} {i : Nat} (h : ¬ q i > (lq q i).2) : lq q (i + 1) = lq q i := by
  rw [lq, if_neg h]
def qT (t : Tw) (i : Nat) : Int := qnI (t.1.getD i zR)
theorem qT_at {t : Tw} {i : Nat} (h : i < t.1.length) : qnI t.1[i] = qT t i := by
  unfold qT
  rw [gd h]
def lqW (t : Tw) : Int × Int := if townOk t then lq (qT t) t.1.length else (0, 0)
theorem road_at {t : Tw} (ht : townOk t) {i : Nat} (h : i < t.1.length) : roadOk t.1[i] := by
  have h1 := (ht.2.1.2.1 i h).1
  rwa [gd h] at h1
theorem cSumS (r : Rd) : PureC X 62 [.c (.vw false (rdc r) 0)] (.c (.f .f32 (sumL (l16 r.1)))) := by
  refine PureC.of_body (drawD_ok X) (fun _ _ => Go.Proofs.Tryz.call62 _ _) Go.Proofs.Tryz.func62 rfl (n := 23) rfl ?_
  refine w_seq ?_
  refine w_reg rfl ?_
  refine v_assign (c := .f _ _) rfl ?_
  refine v_nil ?_
  refine q_n ?_
  refine w_seq ?_
  refine w_reg rfl ?_
  refine v_move rfl ?_
  refine v_nil_vw rfl ?_
  refine v_fa_vw (off' := 0) lay73 rfl rfl rfl ?_
  refine v_idx_av_e (k := 1) (0) lay71 lay26 rfl rfl rfl (rfl) (by decide) ?_
  refine v_load_vw_e (.c (.f .f32 (r.1 ⟨0, by decide⟩))) lay26 rfl (by show 0 + 0 * 1 + 1 ≤ 19; decide) (rd_ld7 r (by decide)) ?_
  refine v_assign rfl ?_
  refine v_nil ?_
  refine q_n ?_
  refine w_seq ?_
  refine w_seq ?_
  refine w_reg rfl ?_
  refine v_assign (c := .v (.int .i64 1)) rfl ?_
  refine v_nil ?_
  refine q_n ?_
  refine w_block ?_
  refine w_loop (fun k sl H => ∃ n : Nat, k = 16 - n ∧ 1 ≤ n ∧ n ≤ 16 ∧ sl = sls [(0, .c (.vw false (rdc r) 0)), (3, .c (.f .f32 (sumL ((l16 r.1).take n)))), (4, cI n)] ∧ H = []) ?_ ?_
  · refine ⟨_, _, _, ?_, 1, rfl, by decide, by decide, rfl, rfl⟩
    exact turn0 ⟨tr_vw, tr_f, tr_v, trivial⟩
  rintro k sl H ⟨n, rfl, h0, hn, rfl, rfl⟩
  refine w_seq ?_
  refine w_seq ?_
  refine w_reg rfl ?_
  refine v_move rfl ?_
  refine v_lss lay3 rfl rfl (fun h1 => ?_) (fun h1 => ?_)
  rotate_left
  · refine v_nil ?_
    refine q_n ?_
    refine w_f rfl ?_
    refine w_exit ?_
    refine q_e ?_
    refine q_e ?_
    refine q_hit ?_
    refine q_n ?_
    refine w_seq ?_
    refine w_reg rfl ?_
    refine v_move rfl ?_
    refine v_assign rfl ?_
    refine v_nil ?_
    refine q_n ?_
    refine w_ret ?_
    refine r_r rfl ?_
    obtain rfl : n = 16 := by omega
    exact tr_f
  have hn1 : n < 16 := by omega
  refine v_nil ?_
  refine q_n ?_
  refine w_t rfl ?_
  refine w_skip ?_
  refine q_n ?_
  refine w_seq ?_
  refine w_block ?_
  refine w_reg rfl ?_
  refine v_move rfl ?_
  refine v_move rfl ?_
  refine v_move rfl ?_
  refine v_nil_vw rfl ?_
  refine v_fa_vw (off' := 0) lay73 rfl rfl rfl ?_
  refine v_idx_av_e (k := 1) (n) lay71 lay26 rfl rfl rfl (rfl) (hn1) ?_
  refine v_load_vw_e (.c (.f .f32 (r.1 ⟨n, hn1⟩))) lay26 rfl (by show 0 + n * 1 + 1 ≤ 19; omega) (rd_ld7 r hn1) ?_
  refine v_bin (c := .f _ _) lay26 rfl rfl rfl ?_
  refine v_assign rfl ?_
  refine v_nil ?_
  refine q_bn ?_
  refine q_n ?_
  refine w_reg rfl ?_
  refine v_move rfl ?_
  refine v_add lay3 rfl rfl (i64r (by omega)) ?_
  refine v_assign rfl ?_
  refine v_nil ?_
  refine q_n ?_
  refine ⟨_, _, _, ?_, ⟨n + 1, rfl, by omega, by omega, rfl, rfl⟩, by omega⟩
  exact turn0 ⟨tr_vw, by rw [← sm_step r.1 h0 hn1]; exact tr_f, tr_v, trivial⟩
theorem cCarsI (r : Rd) : PureC X 63 [.agg (rdc r)] (.c (.f .f32 (carsR r))) := by
  refine PureC.of_body (drawD_ok X) (fun _ _ => Go.Proofs.Tryz.call63 _ _) Go.Proofs.Tryz.func63 rfl (n := 9) rfl ?_
  refine w_seq ?_
  refine w_reg rfl ?_
  refine v_box (m := 0) (H' := [_]) lay73 rfl rfl rfl ?_
  refine v_assign (c := .f _ _) rfl ?_
  refine v_nil ?_
  refine q_n ?_
  refine w_seq ?_
  refine w_draw [0, 1, 3, 0, 8, 31, 63] [⟨0, 0, []⟩, ⟨1, 0, []⟩, ⟨2, 0, []⟩, ⟨3, 0, []⟩, ⟨4, 0, []⟩, ⟨5, 0, []⟩, ⟨6, 0, []⟩] rfl rfl ?_
  refine d_q rfl rfl rfl rfl rfl ?_
  refine v_fa_pt (off' := 0) lay73 rfl rfl rfl ?_
  refine v_nil ?_
  refine d_q rfl rfl rfl rfl rfl ?_
  refine v_slice_arr (k := 1) lay71 lay26 rfl rfl rfl rfl (by decide) (Nat.le_of_ble_eq_true rfl) ?_
  refine v_nil ?_
  refine d_call (cSum (l16 r.1) (Nat.le_of_ble_eq_true rfl) (Nat.le_of_ble_eq_true rfl)) rfl rfl rfl rfl rfl (.cons (vw_part (xs := l16 r.1) fe_sc rfl rfl rfl (Nat.le_of_ble_eq_true rfl)) .nil) ?_
  refine d_q rfl rfl rfl rfl rfl ?_
  refine v_fa_pt (off' := 18) lay73 rfl rfl rfl ?_
  refine v_nil ?_
  refine d_q rfl rfl rfl rfl rfl ?_
  refine v_load_pt (.c _) lay26 rfl rfl rfl rfl ?_
  refine v_nil ?_
  refine d_q rfl rfl rfl rfl rfl ?_
  refine v_bin (c := .f _ _) lay26 rfl rfl rfl ?_
  refine v_nil ?_
  refine d_q rfl rfl rfl rfl rfl ?_
  refine v_assign rfl ?_
  refine v_nil ?_
  refine d_nil ?_
  refine q_n ?_
  refine w_ret ?_
  refine r_r rfl ?_
  exact tr_f
theorem cSumN (xs : List (Option Nat)) {n : Nat} (hn : n = xs.length) (hx : n ≤ 2 ^ 40) (h0 : 0 < n) : PureC X 64 [.c (.sl false n 1 (flat fe xs))] (.c (.f .f32 (sumL xs))) := by
  subst hn
  exact cSum xs hx h0
theorem cCarsS (t : Tw) (hB : tB (2 ^ 20) t) (hF : tF t) : PureC X 16 [.agg (twf false t)] (.tup [.c (.f .f32 (carsW t)), cI (codeW t)]) := by
  refine PureC.of_body (drawD_ok X) (fun _ _ => Go.Proofs.Tryz.call16 _ _) Go.Proofs.Tryz.func16 rfl (n := 35) rfl ?_
  refine w_seq ?_
  refine w_reg rfl ?_
  refine v_box (m := 0) (H' := [_]) lay35 rfl rfl rfl ?_
  refine v_assign (c := .f _ _) rfl ?_
  refine v_assign (c := .v (.int .i64 0)) rfl ?_
  refine v_nil ?_
  refine q_n ?_
  refine w_seq ?_
  refine w_seq ?_
  refine w_reg rfl ?_
  refine v_callb (cTwS t hB hF) rfl rfl (.cons (vw_pt rfl (.cons (.sl (fun h => by cases h)) (.cons (.sl (fun h => by cases h)) (.cons (.sl (fun h => by cases h)) (.cons (.sl (fun h => by cases h)) (.cons .v (.cons .f (.cons .f .nil)))))))) .nil) (fun h1 => ?_) (fun h1 => ?_)
  rotate_left
  · refine v_not true rfl rfl ?_
    refine v_nil ?_
    refine q_n ?_
    refine w_t rfl ?_
    refine w_seq ?_
    refine w_reg rfl ?_
    refine v_assign (c := .f _ _) rfl ?_
    refine v_assign (c := .v (.int .i64 1)) rfl ?_
    refine v_nil ?_
    refine q_n ?_
    refine w_ret (q_r ?_)
    refine r_r rfl ?_
    exact a_tup (.cons (by unfold carsW; rw [if_neg h1]; exact tr_f) (.cons (by unfold codeW; rw [if_neg h1]; exact tr_v) .nil))
  refine v_not false rfl rfl ?_
  refine v_nil ?_
  refine q_n ?_
  refine w_f rfl ?_
  refine w_skip ?_
  refine q_n ?_
  refine w_seq ?_
  refine w_reg rfl ?_
  refine v_assign (c := .f _ _) rfl ?_
  refine v_nil ?_
  refine q_n ?_
  refine w_seq ?_
  refine w_seq ?_
  refine w_reg rfl ?_
  refine v_assign (c := .v (.int .i64 0)) rfl ?_
  refine v_nil ?_
  refine q_n ?_
  refine w_block ?_
  refine w_loop (fun k sl H => ∃ i : Nat, k = t.1.length - i ∧ i ≤ t.1.length ∧ sl = sls [(1, .c (.pt 0 0)), (4, .c (.f .f32 (sumL ((t.1.map carsR).take i)))), (5, cI i)] ∧ H = [⟨twf false t, 35, true⟩]) ?_ ?_
  · refine ⟨_, _, _, ?_, 0, rfl, Nat.zero_le _, rfl, rfl⟩
    exact turn [some 0] rfl rfl rfl ⟨⟨_, rfl, .cons tr_sl (.cons tr_sl (.cons tr_sl (.cons tr_sl (.cons tr_v (.cons tr_f (.cons tr_f .nil))))))⟩, trivial⟩ ⟨tr_pt rfl, tr_f, tr_v, trivial⟩
  rintro k sl H ⟨i, rfl, hi, rfl, rfl⟩
  refine w_seq ?_
  refine w_seq ?_
  refine w_reg rfl ?_
  refine v_move rfl ?_
  refine v_fa_pt (off' := 0) lay35 rfl rfl rfl ?_
  refine v_load_pt (.c _) lay31 rfl rfl rfl rfl ?_
  refine v_len_sl lay31 rfl ?_
  refine v_lss lay3 rfl rfl (fun h2 => ?_) (fun h2 => ?_)
  rotate_left
  · refine v_nil ?_
    refine q_n ?_
    refine w_f rfl ?_
    refine w_exit ?_
    refine q_e ?_
    refine q_e ?_
    refine q_hit ?_
    refine q_n ?_
    refine w_seq ?_
    refine w_reg rfl ?_
    refine v_move rfl ?_
    refine v_assign rfl ?_
    refine v_assign (c := .v (.int .i64 0)) rfl ?_
    refine v_nil ?_
    refine q_n ?_
    refine w_ret ?_
    refine r_r rfl ?_
    obtain rfl : i = t.1.length := by omega
    rw [List.take_of_length_le (show (t.1.map carsR).length ≤ t.1.length by simp)]
    exact a_tup (.cons (by unfold carsW carsT; rw [if_pos h1]; exact tr_f) (.cons (by unfold codeW; rw [if_pos h1]; exact tr_v) .nil))
  have hi1 : i < t.1.length := by omega
  refine v_nil ?_
  refine q_n ?_
  refine w_t rfl ?_
  refine w_skip ?_
  refine q_n ?_
  refine w_seq ?_
  refine w_block ?_
  refine w_seq ?_
  refine w_draw [0, 1, 0, 7, 15, 0, 32, 0, 224, 480, 992, 2047, 4095] [⟨0, 0, []⟩, ⟨1, 0, []⟩, ⟨2, 0, []⟩, ⟨3, 0, []⟩, ⟨4, 0, []⟩, ⟨5, 0, []⟩, ⟨6, 0, []⟩, ⟨7, 0, []⟩, ⟨8, 0, []⟩, ⟨9, 0, []⟩, ⟨10, 0, []⟩, ⟨11, 0, []⟩, ⟨12, 0, []⟩] rfl rfl ?_
  refine d_q rfl rfl rfl rfl rfl ?_
  refine v_fa_pt (off' := 0) lay35 rfl rfl rfl ?_
  refine v_nil ?_
  refine d_q rfl rfl rfl rfl rfl ?_
  refine v_load_pt (.c _) lay31 rfl rfl rfl rfl ?_
  refine v_nil ?_
  refine d_q rfl rfl rfl rfl rfl ?_
  refine v_move rfl ?_
  refine v_nil ?_
  refine d_q rfl rfl rfl rfl rfl ?_
  refine v_idx_e (k := 19) (i) rdc_len lay31 lay73 rfl rfl rfl (rfl) rfl (rfl) (hi1) ?_
  refine v_nil ?_
  refine d_call (cSumS _) rfl rfl rfl rfl rfl (.cons vw_vw .nil) ?_
  refine d_q rfl rfl rfl rfl rfl ?_
  refine v_fa_pt (off' := 0) lay35 rfl rfl rfl ?_
  refine v_nil ?_
  refine d_q rfl rfl rfl rfl rfl ?_
  refine v_load_pt (.c _) lay31 rfl rfl rfl rfl ?_
  refine v_nil ?_
  refine d_q rfl rfl rfl rfl rfl ?_
  refine v_move rfl ?_
  refine v_nil ?_
  refine d_q rfl rfl rfl rfl rfl ?_
  refine v_idx_e (k := 19) (i) rdc_len lay31 lay73 rfl rfl rfl (rfl) rfl (rfl) (hi1) ?_
  refine v_nil ?_
  refine d_q rfl rfl rfl rfl rfl ?_
  refine v_fa_vw (off' := 18) lay73 rfl rfl rfl ?_
  refine v_nil ?_
  refine d_q rfl rfl rfl rfl rfl ?_
  refine v_load_vw (.c (.f _ _)) lay26 rfl rfl rfl ?_
  refine v_nil ?_
  refine d_q rfl rfl rfl rfl rfl ?_
  refine v_bin (c := .f _ _) lay26 rfl rfl rfl ?_
  refine v_nil ?_
  refine d_q rfl rfl rfl rfl rfl ?_
  refine v_assign rfl ?_
  refine v_nil ?_
  refine d_nil ?_
  refine q_n ?_
  refine w_seq ?_
  refine w_reg rfl ?_
  refine v_move rfl ?_
  refine v_eql lay3 rfl rfl (fun h5 => ?_) (fun h5 => ?_)
  · refine v_nil ?_
    refine q_n ?_
    refine w_t rfl ?_
    refine w_reg rfl ?_
    refine v_move rfl ?_
    refine v_assign rfl ?_
    refine v_nil ?_
    refine q_bn ?_
    refine q_n ?_
    refine w_reg rfl ?_
    refine v_move rfl ?_
    refine v_add lay3 rfl rfl (i64r (by have q1 := hB.1; omega)) ?_
    refine v_assign rfl ?_
    refine v_nil ?_
    refine q_n ?_
    obtain rfl : i = 0 := by omega
    refine ⟨_, _, _, ?_, ⟨0 + 1, rfl, by omega, rfl, rfl⟩, by omega⟩
    rw [← cs_0 hi1]
    exact turn [some 0] rfl rfl rfl ⟨⟨_, rfl, .cons tr_sl (.cons tr_sl (.cons tr_sl (.cons tr_sl (.cons tr_v (.cons tr_f (.cons tr_f .nil))))))⟩, trivial⟩ ⟨tr_pt rfl, tr_f, tr_v, trivial⟩
  refine v_nil ?_
  refine q_n ?_
  refine w_f rfl ?_
  refine w_reg rfl ?_
  refine v_move rfl ?_
  refine v_move rfl ?_
  refine v_bin (c := .f _ _) lay26 rfl rfl rfl ?_
  refine v_assign rfl ?_
  refine v_nil ?_
  refine q_bn ?_
  refine q_n ?_
  refine w_reg rfl ?_
  refine v_move rfl ?_
  refine v_add lay3 rfl rfl (i64r (by have q1 := hB.1; omega)) ?_
  refine v_assign rfl ?_
  refine v_nil ?_
  refine q_n ?_
  refine ⟨_, _, _, ?_, ⟨i + 1, rfl, by omega, rfl, rfl⟩, by omega⟩
  rw [← cs_s (by omega) hi1]
  exact turn [some 0] rfl rfl rfl ⟨⟨_, rfl, .cons tr_sl (.cons tr_sl (.cons tr_sl (.cons tr_sl (.cons tr_v (.cons tr_f (.cons tr_f .nil))))))⟩, trivial⟩ ⟨tr_pt rfl, tr_f, tr_v, trivial⟩
theorem cCarsT (t : Tw) (hB : tB (2 ^ 20) t) (hF : tF t) : PureC X 17 [.agg (twf false t)] (.tup [.c (.f .f32 (carsW t)), cI (codeW t)]) := by
  refine PureC.of_body (drawD_ok X) (fun _ _ => Go.Proofs.Tryz.call17 _ _) Go.Proofs.Tryz.func17 rfl (n := 26) rfl ?_
  refine w_seq ?_
  refine w_reg rfl ?_
  refine v_box (m := 0) (H' := [_]) lay35 rfl rfl rfl ?_
  refine v_assign (c := .f _ _) rfl ?_
  refine v_assign (c := .v (.int .i64 0)) rfl ?_
  refine v_nil ?_
  refine q_n ?_
  refine w_seq ?_
  refine w_seq ?_
  refine w_reg rfl ?_
  refine v_load_pt (.agg [_, _, _, _, _, _, _]) lay35 rfl rfl rfl rfl ?_
  refine v_callb (cVtI2 t hB hF) rfl rfl (.cons (vw_agg (.cons vw_sl (.cons vw_sl (.cons vw_sl (.cons vw_sl (.cons vw_v (.cons vw_f (.cons vw_f .nil)))))))) .nil) (fun h1 => ?_) (fun h1 => ?_)
  rotate_left
  · refine v_not true rfl rfl ?_
    refine v_nil ?_
    refine q_n ?_
    refine w_t rfl ?_
    refine w_seq ?_
    refine w_reg rfl ?_
    refine v_assign (c := .f _ _) rfl ?_
    refine v_assign (c := .v (.int .i64 1)) rfl ?_
    refine v_nil ?_
    refine q_n ?_
    refine w_ret (q_r ?_)
    refine r_r rfl ?_
    exact a_tup (.cons (by unfold carsW; rw [if_neg h1]; exact tr_f) (.cons (by unfold codeW; rw [if_neg h1]; exact tr_v) .nil))
  refine v_not false rfl rfl ?_
  refine v_nil ?_
  refine q_n ?_
  refine w_f rfl ?_
  refine w_skip ?_
  refine q_n ?_
  refine w_seq ?_
  refine w_reg rfl ?_
  refine v_lit (flat fe []) (H' := [_, _]) lay23 lay26 rfl rfl ⟨by decide, by decide⟩ rfl rfl ?_
  refine v_assign rfl ?_
  refine v_nil ?_
  refine q_n ?_
  refine w_seq ?_
  refine w_seq ?_
  refine w_reg rfl ?_
  refine v_fa_pt (off' := 0) lay35 rfl rfl rfl ?_
  refine v_load_pt (.c _) lay31 rfl rfl rfl rfl ?_
  refine v_len_sl lay31 rfl ?_
  refine v_move (c := .v (.int .i64 0)) rfl ?_
  refine v_nil ?_
  refine q_n ?_
  refine w_block ?_
  refine w_loop (fun k sl H => ∃ i : Nat, k = t.1.length - i ∧ i ≤ t.1.length ∧ sl = sls [(4, .c (.mu 0 0 i 1)), (12, .c (rds false t.1)), (13, cI t.1.length), (14, cI i)] ∧ H = [⟨flat fe ((t.1.map carsR).take i), 26, true⟩]) ?_ ?_
  · refine ⟨_, _, _, ?_, 0, rfl, Nat.zero_le _, rfl, rfl⟩
    exact turn [some 1] rfl rfl rfl ⟨⟨_, rfl, trc_flat fe_sc (xs := []) rfl⟩, trivial⟩ ⟨tr_mun rfl rfl, tr_sl, tr_v, tr_v, trivial⟩
  rintro k sl H ⟨i, rfl, hi, rfl, rfl⟩
  refine w_seq ?_
  refine w_reg rfl ?_
  refine v_lss lay3 rfl rfl (fun h2 => ?_) (fun h2 => ?_)
  rotate_left
  · obtain rfl : i = t.1.length := by omega
    have hb8 := h1.1.1
    refine v_nil ?_
    refine q_n ?_
    refine w_seq ?_
    refine w_f rfl ?_
    refine w_exit ?_
    refine q_e ?_
    refine q_e ?_
    refine q_hit ?_
    refine q_n ?_
    refine w_seq ?_
    refine w_reg rfl ?_
    refine v_move rfl ?_
    refine v_call (cSumN ((t.1.map carsR).take t.1.length) (n := t.1.length) (by rw [List.length_take, List.length_map]; omega) (by omega) (by omega)) rfl rfl rfl (.cons (vw_mu2 fe_sc fe_len rfl (by first | (simp; done) | (simp; omega))) .nil) ?_
    refine v_assign rfl ?_
    refine v_assign (c := .v (.int .i64 0)) rfl ?_
    refine v_nil ?_
    refine q_n ?_
    refine w_ret ?_
    refine r_r rfl ?_
    rw [List.take_of_length_le (show (t.1.map carsR).length ≤ t.1.length by simp)]
    exact a_tup (.cons (by unfold carsW carsT; rw [if_pos h1]; exact tr_f) (.cons (by unfold codeW; rw [if_pos h1]; exact tr_v) .nil))
  have hi1 : i < t.1.length := by omega
  refine v_nil ?_
  refine q_n ?_
  refine w_seq ?_
  refine w_t rfl ?_
  refine w_skip ?_
  refine q_n ?_
  refine w_seq ?_
  refine w_block ?_
  refine w_seq ?_
  refine w_reg rfl ?_
  refine v_idx_e (k := 19) (i) rdc_len lay31 lay73 rfl rfl rfl (rfl) rfl (rfl) (hi1) ?_
  refine v_load_vw (.agg [.f _ _, .f _ _, .f _ _, .f _ _, .f _ _, .f _ _, .f _ _, .f _ _, .f _ _, .f _ _, .f _ _, .f _ _, .f _ _, .f _ _, .f _ _, .f _ _, .f _ _, .f _ _, .f _ _]) lay73 rfl rfl rfl ?_
  refine v_alloc (m := 1) (H' := [_, ⟨[.f _ _, .f _ _, .f _ _, .f _ _, .f _ _, .f _ _, .f _ _, .f _ _, .f _ _, .f _ _, .f _ _, .f _ _, .f _ _, .f _ _, .f _ _, .f _ _, .f _ _, .f _ _, .f _ _], 73, true⟩]) lay73 rfl rfl ?_
  refine v_store (H' := [_, ⟨[_, _, _, _, _, _, _, _, _, _, _, _, _, _, _, _, _, _, _], 73, true⟩]) lay73 rfl rfl rfl rfl rfl rfl ?_
  refine v_nil ?_
  refine q_n ?_
  refine w_reg rfl ?_
  refine v_move rfl ?_
  refine v_load_pt (.agg [_, _, _, _, _, _, _, _, _, _, _, _, _, _, _, _, _, _, _]) lay73 rfl rfl rfl rfl ?_
  refine v_call (cCarsI _) rfl rfl rfl (.cons (vw_agg (.cons vw_f (.cons vw_f (.cons vw_f (.cons vw_f (.cons vw_f (.cons vw_f (.cons vw_f (.cons vw_f (.cons vw_f (.cons vw_f (.cons vw_f (.cons vw_f (.cons vw_f (.cons vw_f (.cons vw_f (.cons vw_f (.cons vw_f (.cons vw_f (.cons vw_f .nil)))))))))))))))))))) .nil) ?_
  refine v_lit (flat fe [_]) (H' := [_, _, _]) lay23 lay26 rfl rfl ⟨by decide, by decide⟩ rfl rfl ?_
  refine v_app_flat (H' := [_, _, _, _]) fe_sc fe_len lay23 lay26 rfl rfl (by simp; omega) rfl rfl (by simp) rfl rfl (by unfold maxLen; simp only []; have q1 := hB.1; omega) rfl rfl ?_
  refine v_assign rfl ?_
  refine v_nil ?_
  refine q_bn ?_
  refine q_n ?_
  refine w_reg rfl ?_
  refine v_add lay3 rfl rfl (i64r (by have q1 := hB.1; omega)) ?_
  refine v_move rfl ?_
  refine v_nil ?_
  refine q_n ?_
  refine ⟨_, _, _, ?_, ⟨i + 1, rfl, by omega, rfl, rfl⟩, by omega⟩
  exact turn [some 3] rfl rfl rfl ⟨⟨_, rfl, trc_flat fe_sc (congrArg (flat fe) (cl_snoc hi1))⟩, trivial⟩ ⟨tr_mun rfl (by simp), tr_sl, tr_v, tr_v, trivial⟩
theorem cBestS (r : Rd) : PureC X 127 [.c (.vw false (rdc r) 0)] (.c (.f .f32 (bestR r))) := by
  refine PureC.of_body (drawD_ok X) (fun _ _ => Go.Proofs.Tryz.call127 _ _) Go.Proofs.Tryz.func127 rfl (n := 17) rfl ?_
  refine w_seq ?_
  refine w_reg rfl ?_
  refine v_assign (c := .f _ _) rfl ?_
  refine v_nil ?_
  refine q_n ?_
  refine w_seq ?_
  refine w_draw [0, 1, 3, 7, 0, 16, 48, 112, 0, 256, 768, 1792, 4080, 8191, 16383] [⟨0, 0, []⟩, ⟨1, 0, []⟩, ⟨2, 0, []⟩, ⟨3, 0, []⟩, ⟨4, 0, []⟩, ⟨5, 0, []⟩, ⟨6, 0, []⟩, ⟨7, 0, []⟩, ⟨8, 0, []⟩, ⟨9, 0, []⟩, ⟨10, 0, []⟩, ⟨11, 0, []⟩, ⟨12, 0, []⟩, ⟨13, 0, []⟩, ⟨14, 0, []⟩] rfl rfl ?_
  refine d_q rfl rfl rfl rfl rfl ?_
  refine v_move rfl ?_
  refine v_nil ?_
  refine d_q rfl rfl rfl rfl rfl ?_
  refine v_nil_vw rfl ?_
  refine v_nil ?_
  refine d_q rfl rfl rfl rfl rfl ?_
  refine v_fa_vw (off' := 17) lay73 rfl rfl rfl ?_
  refine v_nil ?_
  refine d_q rfl rfl rfl rfl rfl ?_
  refine v_load_vw (.c (.f _ _)) lay26 rfl rfl rfl ?_
  refine v_nil ?_
  refine d_q rfl rfl rfl rfl rfl ?_
  refine v_move rfl ?_
  refine v_nil ?_
  refine d_q rfl rfl rfl rfl rfl ?_
  refine v_nil_vw rfl ?_
  refine v_nil ?_
  refine d_q rfl rfl rfl rfl rfl ?_
  refine v_fa_vw (off' := 16) lay73 rfl rfl rfl ?_
  refine v_nil ?_
  refine d_q rfl rfl rfl rfl rfl ?_
  refine v_load_vw (.c (.f _ _)) lay26 rfl rfl rfl ?_
  refine v_nil ?_
  refine d_q rfl rfl rfl rfl rfl ?_
  refine v_move rfl ?_
  refine v_nil ?_
  refine d_q rfl rfl rfl rfl rfl ?_
  refine v_nil_vw rfl ?_
  refine v_nil ?_
  refine d_q rfl rfl rfl rfl rfl ?_
  refine v_fa_vw (off' := 17) lay73 rfl rfl rfl ?_
  refine v_nil ?_
  refine d_q rfl rfl rfl rfl rfl ?_
  refine v_load_vw (.c (.f _ _)) lay26 rfl rfl rfl ?_
  refine v_nil ?_
  refine d_q rfl rfl rfl rfl rfl ?_
  refine v_bin (c := .f _ _) lay26 rfl rfl rfl ?_
  refine v_nil ?_
  refine d_q rfl rfl rfl rfl rfl ?_
  refine v_bin (c := .f _ _) lay26 rfl rfl rfl ?_
  refine v_nil ?_
  refine d_q rfl rfl rfl rfl rfl ?_
  refine v_assign rfl ?_
  refine v_nil ?_
  refine d_nil ?_
  refine q_n ?_
  refine w_ret ?_
  refine r_r rfl ?_
  exact tr_f
theorem cBestI (r : Rd) : PureC X 128 [.agg (rdc r)] (.c (.f .f32 (bestR r))) := by
  refine PureC.of_body (drawD_ok X) (fun _ _ => Go.Proofs.Tryz.call128 _ _) Go.Proofs.Tryz.func128 rfl (n := 11) rfl ?_
  refine w_seq ?_
  refine w_reg rfl ?_
  refine v_box (m := 0) (H' := [_]) lay73 rfl rfl rfl ?_
  refine v_assign (c := .f _ _) rfl ?_
  refine v_nil ?_
  refine q_n ?_
  refine w_seq ?_
  refine w_reg rfl ?_
  refine v_fa_pt (off' := 17) lay73 rfl rfl rfl ?_
  refine v_load_pt (.c _) lay26 rfl rfl rfl rfl ?_
  refine v_fa_pt (off' := 16) lay73 rfl rfl rfl ?_
  refine v_load_pt (.c _) lay26 rfl rfl rfl rfl ?_
  refine v_fa_pt (off' := 17) lay73 rfl rfl rfl ?_
  refine v_load_pt (.c _) lay26 rfl rfl rfl rfl ?_
  refine v_bin (c := .f _ _) lay26 rfl rfl rfl ?_
  refine v_bin (c := .f _ _) lay26 rfl rfl rfl ?_
  refine v_assign rfl ?_
  refine v_nil ?_
  refine q_n ?_
  refine w_ret ?_
  refine r_r rfl ?_
  exact tr_f
theorem cQueS (r : Rd) (hr : rW r) (ho : roadOk r) : PureC X 65 [.agg (rdc r)] (.tup [cI (qnI r), cI 0]) := by
  refine PureC.of_body (drawD_ok X) (fun _ _ => Go.Proofs.Tryz.call65 _ _) Go.Proofs.Tryz.func65 rfl (n := 25) rfl ?_
  refine w_seq ?_
  refine w_reg rfl ?_
  refine v_box (m := 0) (H' := [_]) lay73 rfl rfl rfl ?_
  refine v_assign (c := .v (.int .i64 0)) rfl ?_
  refine v_assign (c := .v (.int .i64 0)) rfl ?_
  refine v_nil ?_
  refine q_n ?_
  refine w_seq ?_
  refine w_seq ?_
  refine w_reg rfl ?_
  refine v_callb (cRdS r hr) rfl rfl (.cons (vw_pt rfl (.cons .f (.cons .f (.cons .f (.cons .f (.cons .f (.cons .f (.cons .f (.cons .f (.cons .f (.cons .f (.cons .f (.cons .f (.cons .f (.cons .f (.cons .f (.cons .f (.cons .f (.cons .f (.cons .f .nil)))))))))))))))))))) .nil) (fun h1 => ?_) (fun h1 => ?_)
  rotate_left
  · exact absurd ho h1
  refine v_not false rfl rfl ?_
  refine v_nil ?_
  refine q_n ?_
  refine w_f rfl ?_
  refine w_skip ?_
  refine q_n ?_
  refine w_seq ?_
  refine w_reg rfl ?_
  refine v_call (cBestS _) rfl rfl rfl (.cons (vw_pt rfl (.cons .f (.cons .f (.cons .f (.cons .f (.cons .f (.cons .f (.cons .f (.cons .f (.cons .f (.cons .f (.cons .f (.cons .f (.cons .f (.cons .f (.cons .f (.cons .f (.cons .f (.cons .f (.cons .f .nil)))))))))))))))))))) .nil) ?_
  refine v_assign rfl ?_
  refine v_nil ?_
  refine q_n ?_
  refine w_seq ?_
  refine w_reg rfl ?_
  refine v_assign (c := .v (.int .i64 0)) rfl ?_
  refine v_nil ?_
  refine q_n ?_
  refine w_seq ?_
  refine w_seq ?_
  refine w_reg rfl ?_
  refine v_assign (c := .v (.int .i64 15)) rfl ?_
  refine v_nil ?_
  refine q_n ?_
  refine w_block ?_
  refine w_loop (fun k sl H => ∃ i : Nat, k = 16 - i ∧ i ≤ 16 ∧ qf (gbq r) (16 - i) i = qn r ∧ sl = sls [(1, .c (.pt 0 0)), (4, .c (.f .f32 (bestR r))), (5, cI i), (6, cI (15 - (i : Int)))] ∧ H = [⟨rdc r, 73, true⟩]) ?_ ?_
  · refine ⟨_, _, _, ?_, 0, rfl, Nat.zero_le _, rfl, rfl, rfl⟩
    exact turn [some 0] rfl rfl rfl ⟨⟨_, rfl, .stay (fun c hc => stays_fz (fz_sc (List.all_eq_true.1 (rdc_sc _) c hc)))⟩, trivial⟩ ⟨tr_pt rfl, tr_f, tr_v, tr_v, trivial⟩
  rintro k sl H ⟨i, rfl, hi, hp, rfl, rfl⟩
  refine w_seq ?_
  refine w_seq ?_
  refine w_reg rfl ?_
  refine v_move rfl ?_
  refine v_geq lay3 rfl rfl (fun h2 => ?_) (fun h2 => ?_)
  rotate_left
  · refine v_move rfl ?_
    refine v_guard_off rfl rfl rfl ?_
    refine v_guard_off rfl rfl rfl ?_
    refine v_guard_off rfl rfl rfl ?_
    refine v_guard_off rfl rfl rfl ?_
    refine v_guard_off rfl rfl rfl ?_
    refine v_guard_off rfl rfl rfl ?_
    refine v_pick_f (v := .v (.bool false)) rfl rfl ?_
    refine v_nil ?_
    refine q_n ?_
    refine w_f rfl ?_
    refine w_exit ?_
    refine q_e ?_
    refine q_e ?_
    refine q_hit ?_
    refine q_n ?_
    refine w_seq ?_
    refine w_reg rfl ?_
    refine v_move rfl ?_
    refine v_assign rfl ?_
    refine v_assign (c := .v (.int .i64 0)) rfl ?_
    refine v_nil ?_
    refine q_n ?_
    refine w_ret ?_
    refine r_r rfl ?_
    obtain rfl : i = 16 := by omega
    exact a_tup (.cons (tr_i (by rw [qnI_eq, ← hp]; rfl)) (.cons tr_v .nil))
  have hi1 : i < 16 := by omega
  refine v_move rfl ?_
  refine v_guard_on rfl rfl ?_
  refine v_move rfl ?_
  refine v_guard_on rfl rfl ?_
  refine v_fa_pt (off' := 0) lay73 rfl rfl rfl ?_
  refine v_guard_on rfl rfl ?_
  refine v_idx_arr_e (k := 1) (15 - i) lay71 lay26 rfl rfl rfl (by omega) (by omega) ?_
  refine v_guard_on rfl rfl ?_
  refine v_load_flat_e (enc := fe) (ys := rl r) (15 - i) 0 (.c (.f .f32 (r.1 ⟨15 - i, (by omega)⟩))) fe_len lay26 rfl rfl (by omega) (by rw [rl_len]; omega) (by decide) (rl_ld r (by omega) _) ?_
  refine v_guard_on rfl rfl ?_
  refine v_move rfl ?_
  refine v_guard_on rfl rfl ?_
  refine v_binb lay26 rfl rfl rfl (fun h3 => ?_) (fun h3 => ?_)
  rotate_left
  · have hgt : ¬ gbq r i = true := by rw [show gbq r i = false from h3]; decide
    refine v_pick_t rfl rfl ?_
    refine v_nil ?_
    refine q_n ?_
    refine w_f rfl ?_
    refine w_exit ?_
    refine q_e ?_
    refine q_e ?_
    refine q_hit ?_
    refine q_n ?_
    refine w_seq ?_
    refine w_reg rfl ?_
    refine v_move rfl ?_
    refine v_assign rfl ?_
    refine v_assign (c := .v (.int .i64 0)) rfl ?_
    refine v_nil ?_
    refine q_n ?_
    refine w_ret ?_
    refine r_r rfl ?_
    rw [qf_f hi1 hgt] at hp
    exact a_tup (.cons (tr_i (by rw [qnI_eq, ← hp])) (.cons tr_v .nil))
  have hgt : gbq r i = true := h3
  refine v_pick_t rfl rfl ?_
  refine v_nil ?_
  refine q_n ?_
  refine w_t rfl ?_
  refine w_skip ?_
  refine q_n ?_
  refine w_seq ?_
  refine w_block ?_
  refine w_reg rfl ?_
  refine v_move rfl ?_
  refine v_add lay2 rfl rfl (i64r (by omega)) ?_
  refine v_assign rfl ?_
  refine v_nil ?_
  refine q_bn ?_
  refine q_n ?_
  refine w_reg rfl ?_
  refine v_move rfl ?_
  refine v_sub lay3 rfl rfl (i64r (by omega)) ?_
  refine v_assign rfl ?_
  refine v_nil ?_
  refine q_n ?_
  refine ⟨_, _, _, ?_, ⟨i + 1, rfl, by omega, (qf_t hi1 hgt).trans hp, rfl, rfl⟩, by omega⟩
  exact turn [some 0] rfl rfl rfl ⟨⟨_, rfl, .stay (fun c hc => stays_fz (fz_sc (List.all_eq_true.1 (rdc_sc _) c hc)))⟩, trivial⟩ ⟨tr_pt rfl, tr_f, tr_v, tr_i (by push_cast; omega), trivial⟩
theorem cQueI (r : Rd) : PureC X 66 [.agg (rdc r)] (cI (qnI r)) := by
  refine PureC.of_body (drawD_ok X) (fun _ _ => Go.Proofs.Tryz.call66 _ _) Go.Proofs.Tryz.func66 rfl (n := 21) rfl ?_
  refine w_seq ?_
  refine w_reg rfl ?_
  refine v_box (m := 0) (H' := [_]) lay73 rfl rfl rfl ?_
  refine v_assign (c := .v (.int .i64 0)) rfl ?_
  refine v_nil ?_
  refine q_n ?_
  refine w_seq ?_
  refine w_reg rfl ?_
  refine v_load_pt (.agg [_, _, _, _, _, _, _, _, _, _, _, _, _, _, _, _, _, _, _]) lay73 rfl rfl rfl rfl ?_
  refine v_call (cBestI _) rfl rfl rfl (.cons (vw_agg (.cons vw_f (.cons vw_f (.cons vw_f (.cons vw_f (.cons vw_f (.cons vw_f (.cons vw_f (.cons vw_f (.cons vw_f (.cons vw_f (.cons vw_f (.cons vw_f (.cons vw_f (.cons vw_f (.cons vw_f (.cons vw_f (.cons vw_f (.cons vw_f (.cons vw_f .nil)))))))))))))))))))) .nil) ?_
  refine v_assign (c := .v (.int .i64 0)) rfl ?_
  refine v_assign rfl ?_
  refine v_nil ?_
  refine q_n ?_
  refine w_seq ?_
  refine w_block ?_
  refine w_loop (fun k sl H => ∃ i : Nat, k = 16 - i ∧ i ≤ 16 ∧ qf (gbq r) (16 - i) i = qn r ∧ sl = sls [(1, .c (.pt 0 0)), (3, cI i), (4, .c (.f .f32 (bestR r)))] ∧ H = [⟨rdc r, 73, true⟩]) ?_ ?_
  · refine ⟨_, _, _, ?_, 0, rfl, Nat.zero_le _, rfl, rfl, rfl⟩
    exact turn [some 0] rfl rfl rfl ⟨⟨_, rfl, .stay (fun c hc => stays_fz (fz_sc (List.all_eq_true.1 (rdc_sc _) c hc)))⟩, trivial⟩ ⟨tr_pt rfl, tr_v, tr_f, trivial⟩
  rintro k sl H ⟨i, rfl, hi, hp, rfl, rfl⟩
  refine w_seq ?_
  refine w_seq ?_
  refine w_reg rfl ?_
  refine v_move rfl ?_
  refine v_lss lay2 rfl rfl (fun h1 => ?_) (fun h1 => ?_)
  rotate_left
  · refine v_move rfl ?_
    refine v_guard_off rfl rfl rfl ?_
    refine v_guard_off rfl rfl rfl ?_
    refine v_guard_off rfl rfl rfl ?_
    refine v_guard_off rfl rfl rfl ?_
    refine v_guard_off rfl rfl rfl ?_
    refine v_guard_off rfl rfl rfl ?_
    refine v_guard_off rfl rfl rfl ?_
    refine v_pick_f (v := .v (.bool false)) rfl rfl ?_
    refine v_nil ?_
    refine q_n ?_
    refine w_f rfl ?_
    refine w_exit ?_
    refine q_e ?_
    refine q_e ?_
    refine q_hit ?_
    refine q_n ?_
    refine w_seq ?_
    refine w_reg rfl ?_
    refine v_move rfl ?_
    refine v_assign rfl ?_
    refine v_nil ?_
    refine q_n ?_
    refine w_ret ?_
    refine r_r rfl ?_
    obtain rfl : i = 16 := by omega
    exact a_i (by rw [qnI_eq, ← hp]; rfl)
  have hi1 : i < 16 := by omega
  refine v_move rfl ?_
  refine v_guard_on rfl rfl ?_
  refine v_move rfl ?_
  refine v_guard_on rfl rfl ?_
  refine v_sub lay2 rfl rfl (i64r (by omega)) ?_
  refine v_guard_on rfl rfl ?_
  refine v_fa_pt (off' := 0) lay73 rfl rfl rfl ?_
  refine v_guard_on rfl rfl ?_
  refine v_idx_arr_e (k := 1) (15 - i) lay71 lay26 rfl rfl rfl (by omega) (by omega) ?_
  refine v_guard_on rfl rfl ?_
  refine v_load_flat_e (enc := fe) (ys := rl r) (15 - i) 0 (.c (.f .f32 (r.1 ⟨15 - i, (by omega)⟩))) fe_len lay26 rfl rfl (by omega) (by rw [rl_len]; omega) (by decide) (rl_ld r (by omega) _) ?_
  refine v_guard_on rfl rfl ?_
  refine v_move rfl ?_
  refine v_guard_on rfl rfl ?_
  refine v_binb lay26 rfl rfl rfl (fun h2 => ?_) (fun h2 => ?_)
  rotate_left
  · have hgt : ¬ gbq r i = true := by rw [show gbq r i = false from h2]; decide
    refine v_pick_t rfl rfl ?_
    refine v_nil ?_
    refine q_n ?_
    refine w_f rfl ?_
    refine w_exit ?_
    refine q_e ?_
    refine q_e ?_
    refine q_hit ?_
    refine q_n ?_
    refine w_seq ?_
    refine w_reg rfl ?_
    refine v_move rfl ?_
    refine v_assign rfl ?_
    refine v_nil ?_
    refine q_n ?_
    refine w_ret ?_
    refine r_r rfl ?_
    rw [qf_f hi1 hgt] at hp
    exact a_i (by rw [qnI_eq, ← hp])
  have hgt : gbq r i = true := h2
  refine v_pick_t rfl rfl ?_
  refine v_nil ?_
  refine q_n ?_
  refine w_t rfl ?_
  refine w_skip ?_
  refine q_n ?_
  refine w_block ?_
  refine w_reg rfl ?_
  refine v_move rfl ?_
  refine v_add lay2 rfl rfl (i64r (by omega)) ?_
  refine v_assign rfl ?_
  refine v_nil ?_
  refine q_bn ?_
  refine q_n ?_
  refine ⟨_, _, _, ?_, ⟨i + 1, rfl, by omega, (qf_t hi1 hgt).trans hp, rfl, rfl⟩, by omega⟩
  exact turn [some 0] rfl rfl rfl ⟨⟨_, rfl, .stay (fun c hc => stays_fz (fz_sc (List.all_eq_true.1 (rdc_sc _) c hc)))⟩, trivial⟩ ⟨tr_pt rfl, tr_v, tr_f, trivial⟩
theorem cLqS (t : Tw) (hB : tB (2 ^ 20) t) (hF : tF t) : PureC X 19 [.agg (twf false t)] (.tup [cI (lqW t).1, cI (lqW t).2, cI (codeW t)]) := by
  refine PureC.of_body (drawD_ok X) (fun _ _ => Go.Proofs.Tryz.call19 _ _) Go.Proofs.Tryz.func19 rfl (n := 35) rfl ?_
  refine w_seq ?_
  refine w_reg rfl ?_
  refine v_box (m := 0) (H' := [_]) lay35 rfl rfl rfl ?_
  refine v_assign (c := .v (.int .i64 0)) rfl ?_
  refine v_assign (c := .v (.int .i64 0)) rfl ?_
  refine v_assign (c := .v (.int .i64 0)) rfl ?_
  refine v_nil ?_
  refine q_n ?_
  refine w_seq ?_
  refine w_seq ?_
  refine w_reg rfl ?_
  refine v_callb (cTwS t hB hF) rfl rfl (.cons (vw_pt rfl (.cons (.sl (fun h => by cases h)) (.cons (.sl (fun h => by cases h)) (.cons (.sl (fun h => by cases h)) (.cons (.sl (fun h => by cases h)) (.cons .v (.cons .f (.cons .f .nil)))))))) .nil) (fun h1 => ?_) (fun h1 => ?_)
  rotate_left
  · refine v_not true rfl rfl ?_
    refine v_nil ?_
    refine q_n ?_
    refine w_t rfl ?_
    refine w_seq ?_
    refine w_reg rfl ?_
    refine v_assign (c := .v (.int .i64 0)) rfl ?_
    refine v_assign (c := .v (.int .i64 0)) rfl ?_
    refine v_assign (c := .v (.int .i64 1)) rfl ?_
    refine v_nil ?_
    refine q_n ?_
    refine w_ret (q_r ?_)
    refine r_r rfl ?_
    exact a_tup (.cons (tr_i (by unfold lqW; rw [if_neg h1])) (.cons (tr_i (by unfold lqW; rw [if_neg h1])) (.cons (by unfold codeW; rw [if_neg h1]; exact tr_v) .nil)))
  refine v_not false rfl rfl ?_
  refine v_nil ?_
  refine q_n ?_
  refine w_f rfl ?_
  refine w_skip ?_
  refine q_n ?_
  refine w_seq ?_
  refine w_reg rfl ?_
  refine v_assign (c := .v (.int .i64 0)) rfl ?_
  refine v_nil ?_
  refine q_n ?_
  refine w_seq ?_
  refine w_reg rfl ?_
  refine v_assign (c := .v (.int .i64 (-1))) rfl ?_
  refine v_nil ?_
  refine q_n ?_
  refine w_seq ?_
  refine w_seq ?_
  refine w_reg rfl ?_
  refine v_assign (c := .v (.int .i64 0)) rfl ?_
  refine v_nil ?_
  refine q_n ?_
  refine w_block ?_
  refine w_loop (fun k sl H => ∃ i : Nat, k = t.1.length - i ∧ i ≤ t.1.length ∧ sl = sls [(1, .c (.pt 0 0)), (5, cI (lq (qT t) i).1), (6, cI (lq (qT t) i).2), (7, cI i)] ∧ H = [⟨twf false t, 35, true⟩]) ?_ ?_
  · refine ⟨_, _, _, ?_, 0, rfl, Nat.zero_le _, rfl, rfl⟩
    exact turn [some 0] rfl rfl rfl ⟨⟨_, rfl, .cons tr_sl (.cons tr_sl (.cons tr_sl (.cons tr_sl (.cons tr_v (.cons tr_f (.cons tr_f .nil))))))⟩, trivial⟩ ⟨tr_pt rfl, tr_v, tr_v, tr_v, trivial⟩
  rintro k sl H ⟨i, rfl, hi, rfl, rfl⟩
  refine w_seq ?_
  refine w_seq ?_
  refine w_reg rfl ?_
  refine v_move rfl ?_
  refine v_fa_pt (off' := 0) lay35 rfl rfl rfl ?_
  refine v_load_pt (.c _) lay31 rfl rfl rfl rfl ?_
  refine v_len_sl lay31 rfl ?_
  refine v_lss lay3 rfl rfl (fun h2 => ?_) (fun h2 => ?_)
  rotate_left
  · refine v_nil ?_
    refine q_n ?_
    refine w_f rfl ?_
    refine w_exit ?_
    refine q_e ?_
    refine q_e ?_
    refine q_hit ?_
    refine q_n ?_
    refine w_seq ?_
    refine w_reg rfl ?_
    refine v_move rfl ?_
    refine v_move rfl ?_
    refine v_assign rfl ?_
    refine v_assign rfl ?_
    refine v_assign (c := .v (.int .i64 0)) rfl ?_
    refine v_nil ?_
    refine q_n ?_
    refine w_ret ?_
    refine r_r rfl ?_
    obtain rfl : i = t.1.length := by omega
    exact a_tup (.cons (tr_i (by unfold lqW; rw [if_pos h1])) (.cons (tr_i (by unfold lqW; rw [if_pos h1])) (.cons (by unfold codeW; rw [if_pos h1]; exact tr_v) .nil)))
  have hi1 : i < t.1.length := by omega
  refine v_nil ?_
  refine q_n ?_
  refine w_t rfl ?_
  refine w_skip ?_
  refine q_n ?_
  refine w_seq ?_
  refine w_block ?_
  refine w_seq ?_
  refine w_reg rfl ?_
  refine v_fa_pt (off' := 0) lay35 rfl rfl rfl ?_
  refine v_load_pt (.c _) lay31 rfl rfl rfl rfl ?_
  refine v_move rfl ?_
  refine v_idx_e (k := 19) (i) rdc_len lay31 lay73 rfl rfl rfl (rfl) rfl (rfl) (hi1) ?_
  refine v_load_vw (.agg [.f _ _, .f _ _, .f _ _, .f _ _, .f _ _, .f _ _, .f _ _, .f _ _, .f _ _, .f _ _, .f _ _, .f _ _, .f _ _, .f _ _, .f _ _, .f _ _, .f _ _, .f _ _, .f _ _]) lay73 rfl rfl rfl ?_
  refine v_call (cQueS _ (hF.1 _ (List.getElem_mem hi1)) (road_at h1 hi1)) rfl rfl rfl (.cons (vw_agg (.cons vw_f (.cons vw_f (.cons vw_f (.cons vw_f (.cons vw_f (.cons vw_f (.cons vw_f (.cons vw_f (.cons vw_f (.cons vw_f (.cons vw_f (.cons vw_f (.cons vw_f (.cons vw_f (.cons vw_f (.cons vw_f (.cons vw_f (.cons vw_f (.cons vw_f .nil)))))))))))))))))))) .nil) ?_
  refine v_move_t rfl ?_
  refine v_extract_c rfl rfl ?_
  refine v_extract_c rfl rfl ?_
  refine v_assign rfl ?_
  refine v_assign rfl ?_
  refine v_nil ?_
  refine q_n ?_
  refine w_seq ?_
  refine w_reg rfl ?_
  refine v_move rfl ?_
  refine v_move rfl ?_
  refine v_gtr lay2 rfl rfl (fun h4 => ?_) (fun h4 => ?_)
  rotate_left
  · refine v_nil ?_
    refine q_n ?_
    refine w_f rfl ?_
    refine w_skip ?_
    refine q_bn ?_
    refine q_n ?_
    refine w_reg rfl ?_
    refine v_move rfl ?_
    refine v_add lay3 rfl rfl (i64r (by have q1 := hB.1; omega)) ?_
    refine v_assign rfl ?_
    refine v_nil ?_
    refine q_n ?_
    have e := lq_f (q := qT t) (i := i) (by rw [← qT_at hi1]; exact h4)
    refine ⟨_, _, _, ?_, ⟨i + 1, rfl, by omega, rfl, rfl⟩, by omega⟩
    exact turn [some 0] rfl rfl rfl ⟨⟨_, rfl, .cons tr_sl (.cons tr_sl (.cons tr_sl (.cons tr_sl (.cons tr_v (.cons tr_f (.cons tr_f .nil))))))⟩, trivial⟩ ⟨tr_pt rfl, tr_i (by rw [e]), tr_i (by rw [e]), tr_v, trivial⟩
  refine v_nil ?_
  refine q_n ?_
  refine w_t rfl ?_
  refine w_seq ?_
  refine w_reg rfl ?_
  refine v_move rfl ?_
  refine v_assign rfl ?_
  refine v_nil ?_
  refine q_n ?_
  refine w_reg rfl ?_
  refine v_move rfl ?_
  refine v_assign rfl ?_
  refine v_nil ?_
  refine q_bn ?_
  refine q_n ?_
  refine w_reg rfl ?_
  refine v_move rfl ?_
  refine v_add lay3 rfl rfl (i64r (by have q1 := hB.1; omega)) ?_
  refine v_assign rfl ?_
  refine v_nil ?_
  refine q_n ?_
  have e := lq_t (q := qT t) (i := i) (by rw [← qT_at hi1]; exact h4)
  refine ⟨_, _, _, ?_, ⟨i + 1, rfl, by omega, rfl, rfl⟩, by omega⟩
  exact turn [some 0] rfl rfl rfl ⟨⟨_, rfl, .cons tr_sl (.cons tr_sl (.cons tr_sl (.cons tr_sl (.cons tr_v (.cons tr_f (.cons tr_f .nil))))))⟩, trivial⟩ ⟨tr_pt rfl, tr_i (by rw [e]), tr_i (by rw [e]; exact qT_at hi1), tr_v, trivial⟩
theorem cLqI (t : Tw) (hB : tB (2 ^ 20) t) (hF : tF t) : PureC X 20 [.agg (twf false t)] (.tup [cI (lqW t).1, cI (lqW t).2, cI (codeW t)]) := by
  refine PureC.of_body (drawD_ok X) (fun _ _ => Go.Proofs.Tryz.call20 _ _) Go.Proofs.Tryz.func20 rfl (n := 31) rfl ?_
  refine w_seq ?_
  refine w_reg rfl ?_
  refine v_box (m := 0) (H' := [_]) lay35 rfl rfl rfl ?_
  refine v_assign (c := .v (.int .i64 0)) rfl ?_
  refine v_assign (c := .v (.int .i64 0)) rfl ?_
  refine v_assign (c := .v (.int .i64 0)) rfl ?_
  refine v_nil ?_
  refine q_n ?_
  refine w_seq ?_
  refine w_seq ?_
  refine w_reg rfl ?_
  refine v_load_pt (.agg [_, _, _, _, _, _, _]) lay35 rfl rfl rfl rfl ?_
  refine v_callb (cVtI2 t hB hF) rfl rfl (.cons (vw_agg (.cons vw_sl (.cons vw_sl (.cons vw_sl (.cons vw_sl (.cons vw_v (.cons vw_f (.cons vw_f .nil)))))))) .nil) (fun h1 => ?_) (fun h1 => ?_)
  rotate_left
  · refine v_not true rfl rfl ?_
    refine v_nil ?_
    refine q_n ?_
    refine w_t rfl ?_
    refine w_seq ?_
    refine w_reg rfl ?_
    refine v_assign (c := .v (.int .i64 0)) rfl ?_
    refine v_assign (c := .v (.int .i64 0)) rfl ?_
    refine v_assign (c := .v (.int .i64 1)) rfl ?_
    refine v_nil ?_
    refine q_n ?_
    refine w_ret (q_r ?_)
    refine r_r rfl ?_
    exact a_tup (.cons (tr_i (by unfold lqW; rw [if_neg h1])) (.cons (tr_i (by unfold lqW; rw [if_neg h1])) (.cons (by unfold codeW; rw [if_neg h1]; exact tr_v) .nil)))
  refine v_not false rfl rfl ?_
  refine v_nil ?_
  refine q_n ?_
  refine w_f rfl ?_
  refine w_skip ?_
  refine q_n ?_
  refine w_seq ?_
  refine w_reg rfl ?_
  refine v_assign (c := .v (.int .i64 0)) rfl ?_
  refine v_assign (c := .v (.int .i64 (-1))) rfl ?_
  refine v_nil ?_
  refine q_n ?_
  refine w_seq ?_
  refine w_seq ?_
  refine w_reg rfl ?_
  refine v_fa_pt (off' := 0) lay35 rfl rfl rfl ?_
  refine v_load_pt (.c _) lay31 rfl rfl rfl rfl ?_
  refine v_len_sl lay31 rfl ?_
  refine v_move (c := .v (.int .i64 0)) rfl ?_
  refine v_nil ?_
  refine q_n ?_
  refine w_block ?_
  refine w_loop (fun k sl H => ∃ i : Nat, k = t.1.length - i ∧ i ≤ t.1.length ∧ sl = sls [(5, cI (lq (qT t) i).1), (6, cI (lq (qT t) i).2), (14, .c (rds false t.1)), (15, cI t.1.length), (16, cI i)] ∧ H = []) ?_ ?_
  · refine ⟨_, _, _, ?_, 0, rfl, Nat.zero_le _, rfl, rfl⟩
    exact turn0 ⟨tr_v, tr_v, tr_sl, tr_v, tr_v, trivial⟩
  rintro k sl H ⟨i, rfl, hi, rfl, rfl⟩
  refine w_seq ?_
  refine w_reg rfl ?_
  refine v_lss lay3 rfl rfl (fun h2 => ?_) (fun h2 => ?_)
  rotate_left
  · refine v_nil ?_
    refine q_n ?_
    refine w_seq ?_
    refine w_f rfl ?_
    refine w_exit ?_
    refine q_e ?_
    refine q_e ?_
    refine q_hit ?_
    refine q_n ?_
    refine w_seq ?_
    refine w_reg rfl ?_
    refine v_move rfl ?_
    refine v_move rfl ?_
    refine v_assign rfl ?_
    refine v_assign rfl ?_
    refine v_assign (c := .v (.int .i64 0)) rfl ?_
    refine v_nil ?_
    refine q_n ?_
    refine w_ret ?_
    refine r_r rfl ?_
    obtain rfl : i = t.1.length := by omega
    exact a_tup (.cons (tr_i (by unfold lqW; rw [if_pos h1])) (.cons (tr_i (by unfold lqW; rw [if_pos h1])) (.cons (by unfold codeW; rw [if_pos h1]; exact tr_v) .nil)))
  have hi1 : i < t.1.length := by omega
  refine v_nil ?_
  refine q_n ?_
  refine w_seq ?_
  refine w_t rfl ?_
  refine w_skip ?_
  refine q_n ?_
  refine w_seq ?_
  refine w_block ?_
  refine w_seq ?_
  refine w_reg rfl ?_
  refine v_move rfl ?_
  refine v_idx_e (k := 19) (i) rdc_len lay31 lay73 rfl rfl rfl (rfl) rfl (rfl) (hi1) ?_
  refine v_load_vw (.agg [.f _ _, .f _ _, .f _ _, .f _ _, .f _ _, .f _ _, .f _ _, .f _ _, .f _ _, .f _ _, .f _ _, .f _ _, .f _ _, .f _ _, .f _ _, .f _ _, .f _ _, .f _ _, .f _ _]) lay73 rfl rfl rfl ?_
  refine v_alloc (m := 0) (H' := [⟨[.f _ _, .f _ _, .f _ _, .f _ _, .f _ _, .f _ _, .f _ _, .f _ _, .f _ _, .f _ _, .f _ _, .f _ _, .f _ _, .f _ _, .f _ _, .f _ _, .f _ _, .f _ _, .f _ _], 73, true⟩]) lay73 rfl rfl ?_
  refine v_assign rfl ?_
  refine v_store (H' := [⟨[_, _, _, _, _, _, _, _, _, _, _, _, _, _, _, _, _, _, _], 73, true⟩]) lay73 rfl rfl rfl rfl rfl rfl ?_
  refine v_nil ?_
  refine q_n ?_
  refine w_seq ?_
  refine w_reg rfl ?_
  refine v_load_pt (.agg [_, _, _, _, _, _, _, _, _, _, _, _, _, _, _, _, _, _, _]) lay73 rfl rfl rfl rfl ?_
  refine v_call (cQueI _) rfl rfl rfl (.cons (vw_agg (.cons vw_f (.cons vw_f (.cons vw_f (.cons vw_f (.cons vw_f (.cons vw_f (.cons vw_f (.cons vw_f (.cons vw_f (.cons vw_f (.cons vw_f (.cons vw_f (.cons vw_f (.cons vw_f (.cons vw_f (.cons vw_f (.cons vw_f (.cons vw_f (.cons vw_f .nil)))))))))))))))))))) .nil) ?_
  refine v_assign rfl ?_
  refine v_nil ?_
  refine q_n ?_
  refine w_seq ?_
  refine w_reg rfl ?_
  refine v_move rfl ?_
  refine v_move rfl ?_
  refine v_gtr lay2 rfl rfl (fun h4 => ?_) (fun h4 => ?_)
  rotate_left
  · refine v_nil ?_
    refine q_n ?_
    refine w_f rfl ?_
    refine w_skip ?_
    refine q_bn ?_
    refine q_n ?_
    refine w_reg rfl ?_
    refine v_add lay3 rfl rfl (i64r (by have q1 := hB.1; omega)) ?_
    refine v_move rfl ?_
    refine v_nil ?_
    refine q_n ?_
    have e := lq_f (q := qT t) (i := i) (by rw [← qT_at hi1]; exact h4)
    refine ⟨_, _, _, ?_, ⟨i + 1, rfl, by omega, rfl, rfl⟩, by omega⟩
    exact turn [] rfl rfl rfl trivial ⟨tr_i (by rw [e]), tr_i (by rw [e]), tr_sl, tr_v, tr_v, trivial⟩
  refine v_nil ?_
  refine q_n ?_
  refine w_t rfl ?_
  refine w_reg rfl ?_
  refine v_move rfl ?_
  refine v_move rfl ?_
  refine v_assign rfl ?_
  refine v_assign rfl ?_
  refine v_nil ?_
  refine q_bn ?_
  refine q_n ?_
  refine w_reg rfl ?_
  refine v_add lay3 rfl rfl (i64r (by have q1 := hB.1; omega)) ?_
  refine v_move rfl ?_
  refine v_nil ?_
  refine q_n ?_
  have e := lq_t (q := qT t) (i := i) (by rw [← qT_at hi1]; exact h4)
  refine ⟨_, _, _, ?_, ⟨i + 1, rfl, by omega, rfl, rfl⟩, by omega⟩
  exact turn [] rfl rfl rfl trivial ⟨tr_i (by rw [e]), tr_i (by rw [e]; exact qT_at hi1), tr_sl, tr_v, tr_v, trivial⟩
theorem cLawCars (t : Tw) (hM : tB maxLen t) (hF : tF t) : PureC X 4 [.agg (twf false t)] (cB true) := by
  refine PureC.of_body (drawD_ok X) (fun _ _ => Go.Proofs.Tryz.call4 _ _) Go.Proofs.Tryz.func4 rfl (n := 43) rfl ?_
  refine w_seq ?_
  refine w_reg rfl ?_
  refine v_box (m := 0) (H' := [_]) lay28 rfl rfl rfl ?_
  refine v_assign (c := .v (.bool false)) rfl ?_
  refine v_nil ?_
  refine q_n ?_
  refine w_seq ?_
  refine w_reg rfl ?_
  refine v_assign (c := .v (.int .i64 1048576)) rfl ?_
  refine v_nil ?_
  refine q_n ?_
  refine w_seq ?_
  refine w_reg rfl ?_
  refine v_load_pt (.agg [_, _, _, _, _, _, _]) lay28 rfl rfl rfl rfl ?_
  refine v_move rfl ?_
  refine v_call (cSzTown _ _ (by decide) (by assumption)) rfl rfl rfl (.cons (vw_agg (.cons vw_sl (.cons vw_sl (.cons vw_sl (.cons vw_sl (.cons vw_v (.cons vw_f (.cons vw_f .nil)))))))) (.cons vw_v .nil)) ?_
  refine v_assign rfl ?_
  refine v_nil ?_
  refine q_n ?_
  refine w_seq ?_
  refine w_seq ?_
  refine w_reg rfl ?_
  refine v_move rfl ?_
  refine v_lss lay3 rfl rfl (fun h1 => ?_) (fun h1 => ?_)
  · refine v_nil ?_
    refine q_n ?_
    refine w_t rfl ?_
    refine w_seq ?_
    refine w_reg rfl ?_
    refine v_assign (c := .v (.bool true)) rfl ?_
    refine v_nil ?_
    refine q_n ?_
    refine w_ret (q_r ?_)
    refine r_r rfl ?_
    exact tr_v
  have hz1 := szT_le (by decide) h1
  have hB := hz1.1
  refine v_nil ?_
  refine q_n ?_
  refine w_f rfl ?_
  refine w_skip ?_
  refine q_n ?_
  refine w_seq ?_
  refine w_reg rfl ?_
  refine v_load_pt (.agg [_, _, _, _, _, _, _]) lay28 rfl rfl rfl rfl ?_
  refine v_call (cToTown _ hB) rfl rfl rfl (.cons (vw_agg (.cons vw_sl (.cons vw_sl (.cons vw_sl (.cons vw_sl (.cons vw_v (.cons vw_f (.cons vw_f .nil)))))))) .nil) ?_
  refine v_call (cCarsS t hB hF) rfl rfl rfl (.cons (vw_agg (.cons vw_sl (.cons vw_sl (.cons vw_sl (.cons vw_sl (.cons vw_v (.cons vw_f (.cons vw_f .nil)))))))) .nil) ?_
  refine v_move_t rfl ?_
  refine v_extract_c rfl rfl ?_
  refine v_extract_c rfl rfl ?_
  refine v_assign rfl ?_
  refine v_assign rfl ?_
  refine v_nil ?_
  refine q_n ?_
  refine w_seq ?_
  refine w_reg rfl ?_
  refine v_load_pt (.agg [_, _, _, _, _, _, _]) lay28 rfl rfl rfl rfl ?_
  refine v_call (cToTown _ hB) rfl rfl rfl (.cons (vw_agg (.cons vw_sl (.cons vw_sl (.cons vw_sl (.cons vw_sl (.cons vw_v (.cons vw_f (.cons vw_f .nil)))))))) .nil) ?_
  refine v_alloc (m := 1) (H' := [_, ⟨[.v _, .v _, .v _, .v _, .v _, .f _ _, .f _ _], 35, true⟩]) lay35 rfl rfl ?_
  refine v_store (H' := [_, ⟨[_, _, _, _, _, _, _], 35, true⟩]) lay35 rfl rfl rfl rfl rfl rfl ?_
  refine v_nil ?_
  refine q_n ?_
  refine w_seq ?_
  refine w_reg rfl ?_
  refine v_load_pt (.agg [_, _, _, _, _, _, _]) lay35 rfl rfl rfl rfl ?_
  refine v_call (cCarsT t hB hF) rfl rfl rfl (.cons (vw_agg (.cons vw_sl (.cons vw_sl (.cons vw_sl (.cons vw_sl (.cons vw_v (.cons vw_f (.cons vw_f .nil)))))))) .nil) ?_
  refine v_move_t rfl ?_
  refine v_extract_c rfl rfl ?_
  refine v_extract_c rfl rfl ?_
  refine v_assign rfl ?_
  refine v_assign rfl ?_
  refine v_nil ?_
  refine q_n ?_
  refine w_seq ?_
  refine w_seq ?_
  refine w_reg rfl ?_
  refine v_move rfl ?_
  refine v_conv_ff _ lay26 lay42 rfl (convF_single (carsW_ok t)) ?_
  refine v_move rfl ?_
  refine v_conv_ff _ lay26 lay42 rfl (convF_single (carsW_ok t)) ?_
  refine v_callb (cSF _ (wide_ok (carsW_ok t))) rfl rfl (.cons vw_f (.cons vw_f .nil)) (fun h2 => ?_) (fun h2 => ?_)
  rotate_left
  · exact absurd trivial h2
  refine v_not false rfl rfl ?_
  refine v_move rfl ?_
  refine v_guard_on rfl rfl ?_
  refine v_move rfl ?_
  refine v_guard_on rfl rfl ?_
  refine v_move rfl ?_
  refine v_guard_on rfl rfl ?_
  refine v_neq lay2 rfl rfl (fun h3 => ?_) (fun h3 => ?_)
  · exact absurd rfl h3
  refine v_pick_f rfl rfl ?_
  refine v_nil ?_
  refine q_n ?_
  refine w_f rfl ?_
  refine w_skip ?_
  refine q_n ?_
  refine w_seq ?_
  refine w_seq ?_
  refine w_draw [0, 0, 2, 7, 15] [⟨0, 0, []⟩, ⟨1, 0, []⟩, ⟨2, 0, []⟩, ⟨3, 0, []⟩, ⟨4, 0, []⟩] rfl rfl ?_
  refine d_q rfl rfl rfl rfl rfl ?_
  refine v_load_pt (.agg [_, _, _, _, _, _, _]) lay35 rfl rfl rfl rfl ?_
  refine v_nil ?_
  refine d_q rfl rfl rfl rfl rfl ?_
  refine v_load_pt (.agg [_, _, _, _, _, _, _]) lay28 rfl rfl rfl rfl ?_
  refine v_nil ?_
  refine d_call (cToTown _ hB) rfl rfl rfl rfl rfl (.cons (vw_agg (.cons vw_sl (.cons vw_sl (.cons vw_sl (.cons vw_sl (.cons vw_v (.cons vw_f (.cons vw_f .nil)))))))) .nil) ?_
  refine d_callb (cEqTown _ hB hF) rfl rfl rfl rfl (.cons (vw_agg (.cons vw_sl (.cons vw_sl (.cons vw_sl (.cons vw_sl (.cons vw_v (.cons vw_f (.cons vw_f .nil)))))))) (.cons (vw_agg (.cons vw_sl (.cons vw_sl (.cons vw_sl (.cons vw_sl (.cons vw_v (.cons vw_f (.cons vw_f .nil)))))))) .nil)) (fun h4 => ?_) (fun h4 => ?_)
  rotate_left
  · exact absurd trivial h4
  refine d_q rfl rfl rfl rfl rfl ?_
  refine v_not false rfl rfl ?_
  refine v_nil ?_
  refine d_nil ?_
  refine q_n ?_
  refine w_f rfl ?_
  refine w_skip ?_
  refine q_n ?_
  refine w_seq ?_
  refine w_reg rfl ?_
  refine v_assign (c := .v (.bool true)) rfl ?_
  refine v_nil ?_
  refine q_n ?_
  refine w_ret ?_
  refine r_r rfl ?_
  exact tr_v
theorem cLawQueue (t : Tw) (hM : tB maxLen t) (hF : tF t) : PureC X 5 [.agg (twf false t)] (cB true) := by
  refine PureC.of_body (drawD_ok X) (fun _ _ => Go.Proofs.Tryz.call5 _ _) Go.Proofs.Tryz.func5 rfl (n := 49) rfl ?_
  refine w_seq ?_
  refine w_reg rfl ?_
  refine v_box (m := 0) (H' := [_]) lay28 rfl rfl rfl ?_
  refine v_assign (c := .v (.bool false)) rfl ?_
  refine v_nil ?_
  refine q_n ?_
  refine w_seq ?_
  refine w_reg rfl ?_
  refine v_assign (c := .v (.int .i64 1048576)) rfl ?_
  refine v_nil ?_
  refine q_n ?_
  refine w_seq ?_
  refine w_reg rfl ?_
  refine v_load_pt (.agg [_, _, _, _, _, _, _]) lay28 rfl rfl rfl rfl ?_
  refine v_move rfl ?_
  refine v_call (cSzTown _ _ (by decide) (by assumption)) rfl rfl rfl (.cons (vw_agg (.cons vw_sl (.cons vw_sl (.cons vw_sl (.cons vw_sl (.cons vw_v (.cons vw_f (.cons vw_f .nil)))))))) (.cons vw_v .nil)) ?_
  refine v_assign rfl ?_
  refine v_nil ?_
  refine q_n ?_
  refine w_seq ?_
  refine w_seq ?_
  refine w_reg rfl ?_
  refine v_move rfl ?_
  refine v_lss lay3 rfl rfl (fun h1 => ?_) (fun h1 => ?_)
  · refine v_nil ?_
    refine q_n ?_
    refine w_t rfl ?_
    refine w_seq ?_
    refine w_reg rfl ?_
    refine v_assign (c := .v (.bool true)) rfl ?_
    refine v_nil ?_
    refine q_n ?_
    refine w_ret (q_r ?_)
    refine r_r rfl ?_
    exact tr_v
  have hz1 := szT_le (by decide) h1
  have hB := hz1.1
  refine v_nil ?_
  refine q_n ?_
  refine w_f rfl ?_
  refine w_skip ?_
  refine q_n ?_
  refine w_seq ?_
  refine w_reg rfl ?_
  refine v_load_pt (.agg [_, _, _, _, _, _, _]) lay28 rfl rfl rfl rfl ?_
  refine v_call (cToTown _ hB) rfl rfl rfl (.cons (vw_agg (.cons vw_sl (.cons vw_sl (.cons vw_sl (.cons vw_sl (.cons vw_v (.cons vw_f (.cons vw_f .nil)))))))) .nil) ?_
  refine v_call (cLqS t hB hF) rfl rfl rfl (.cons (vw_agg (.cons vw_sl (.cons vw_sl (.cons vw_sl (.cons vw_sl (.cons vw_v (.cons vw_f (.cons vw_f .nil)))))))) .nil) ?_
  refine v_move_t rfl ?_
  refine v_extract_c rfl rfl ?_
  refine v_extract_c rfl rfl ?_
  refine v_extract_c rfl rfl ?_
  refine v_assign rfl ?_
  refine v_assign rfl ?_
  refine v_assign rfl ?_
  refine v_nil ?_
  refine q_n ?_
  refine w_seq ?_
  refine w_reg rfl ?_
  refine v_load_pt (.agg [_, _, _, _, _, _, _]) lay28 rfl rfl rfl rfl ?_
  refine v_call (cToTown _ hB) rfl rfl rfl (.cons (vw_agg (.cons vw_sl (.cons vw_sl (.cons vw_sl (.cons vw_sl (.cons vw_v (.cons vw_f (.cons vw_f .nil)))))))) .nil) ?_
  refine v_alloc (m := 1) (H' := [_, ⟨[.v _, .v _, .v _, .v _, .v _, .f _ _, .f _ _], 35, true⟩]) lay35 rfl rfl ?_
  refine v_store (H' := [_, ⟨[_, _, _, _, _, _, _], 35, true⟩]) lay35 rfl rfl rfl rfl rfl rfl ?_
  refine v_nil ?_
  refine q_n ?_
  refine w_seq ?_
  refine w_reg rfl ?_
  refine v_load_pt (.agg [_, _, _, _, _, _, _]) lay35 rfl rfl rfl rfl ?_
  refine v_call (cLqI t hB hF) rfl rfl rfl (.cons (vw_agg (.cons vw_sl (.cons vw_sl (.cons vw_sl (.cons vw_sl (.cons vw_v (.cons vw_f (.cons vw_f .nil)))))))) .nil) ?_
  refine v_move_t rfl ?_
  refine v_extract_c rfl rfl ?_
  refine v_extract_c rfl rfl ?_
  refine v_extract_c rfl rfl ?_
  refine v_assign rfl ?_
  refine v_assign rfl ?_
  refine v_assign rfl ?_
  refine v_nil ?_
  refine q_n ?_
  refine w_seq ?_
  refine w_seq ?_
  refine w_reg rfl ?_
  refine v_move rfl ?_
  refine v_move rfl ?_
  refine v_neq lay2 rfl rfl (fun h2 => ?_) (fun h2 => ?_)
  · exact absurd rfl h2
  refine v_move rfl ?_
  refine v_guard_on rfl rfl ?_
  refine v_move rfl ?_
  refine v_guard_on rfl rfl ?_
  refine v_move rfl ?_
  refine v_guard_on rfl rfl ?_
  refine v_neq lay2 rfl rfl (fun h3 => ?_) (fun h3 => ?_)
  · exact absurd rfl h3
  refine v_pick_f rfl rfl ?_
  refine v_move rfl ?_
  refine v_guard_on rfl rfl ?_
  refine v_move rfl ?_
  refine v_guard_on rfl rfl ?_
  refine v_move rfl ?_
  refine v_guard_on rfl rfl ?_
  refine v_neq lay2 rfl rfl (fun h4 => ?_) (fun h4 => ?_)
  · exact absurd rfl h4
  refine v_pick_f rfl rfl ?_
  refine v_nil ?_
  refine q_n ?_
  refine w_f rfl ?_
  refine w_skip ?_
  refine q_n ?_
  refine w_seq ?_
  refine w_seq ?_
  refine w_draw [0, 0, 2, 7, 15] [⟨0, 0, []⟩, ⟨1, 0, []⟩, ⟨2, 0, []⟩, ⟨3, 0, []⟩, ⟨4, 0, []⟩] rfl rfl ?_
  refine d_q rfl rfl rfl rfl rfl ?_
  refine v_load_pt (.agg [_, _, _, _, _, _, _]) lay35 rfl rfl rfl rfl ?_
  refine v_nil ?_
  refine d_q rfl rfl rfl rfl rfl ?_
  refine v_load_pt (.agg [_, _, _, _, _, _, _]) lay28 rfl rfl rfl rfl ?_
  refine v_nil ?_
  refine d_call (cToTown _ hB) rfl rfl rfl rfl rfl (.cons (vw_agg (.cons vw_sl (.cons vw_sl (.cons vw_sl (.cons vw_sl (.cons vw_v (.cons vw_f (.cons vw_f .nil)))))))) .nil) ?_
  refine d_callb (cEqTown _ hB hF) rfl rfl rfl rfl (.cons (vw_agg (.cons vw_sl (.cons vw_sl (.cons vw_sl (.cons vw_sl (.cons vw_v (.cons vw_f (.cons vw_f .nil)))))))) (.cons (vw_agg (.cons vw_sl (.cons vw_sl (.cons vw_sl (.cons vw_sl (.cons vw_v (.cons vw_f (.cons vw_f .nil)))))))) .nil)) (fun h5 => ?_) (fun h5 => ?_)
  rotate_left
  · exact absurd trivial h5
  refine d_q rfl rfl rfl rfl rfl ?_
  refine v_not false rfl rfl ?_
  refine v_nil ?_
  refine d_nil ?_
  refine q_n ?_
  refine w_f rfl ?_
  refine w_skip ?_
  refine q_n ?_
  refine w_seq ?_
  refine w_reg rfl ?_
  refine v_assign (c := .v (.bool true)) rfl ?_
  refine v_nil ?_
  refine q_n ?_
  refine w_ret ?_
  refine r_r rfl ?_
  exact tr_v
end Go.VL
namespace Go.VL
open Go.RowKit
set_option maxRecDepth 20000
set_option maxHeartbeats 8000000
theorem tmod_in {a n : Int} (h : 1 ≤ n) : -n ≤ a.tmod n ∧ a.tmod n ≤ n := by
  have h1 := Int.tmod_lt_of_pos a (show 0 < n by omega)
  have h2 := Int.tmod_lt_of_pos (-a) (show 0 < n by omega)
  rw [Int.neg_tmod] at h2
  omega
/-- What is green at a tick of the round, and how long. -/
def atR : List Slo → Int → Int → Ph × Int
  | [], _, _ => (zg, 0)
  | s :: t, b, r => if r < s.2 then (s.1, s.2 - r) else if r - s.2 < b then (zg, b - (r - s.2)) else atR t b (r - s.2 - b)
theorem at_at {xs : List Slo} {b r : Int} {i : Nat} (h : i < xs.length) : atR (xs.drop i) b r = if r < xs[i].2 then (xs[i].1, xs[i].2 - r) else if r - xs[i].2 < b then (zg, b - (r - xs[i].2)) else atR (xs.drop (i + 1)) b (r - xs[i].2 - b) := by
  rw [List.drop_eq_getElem_cons h, atR]
def gr (xs : List Slo) (b : Int) (m : Nat) (r : Int) : Bool := (atR xs b r).1 ⟨m % 8, Nat.mod_lt _ (by decide)⟩
theorem gr_eq {xs : List Slo} {b : Int} {m : Nat} {r : Int} (hm : m < 8) : (atR xs b r).1 ⟨m, hm⟩ = gr xs b m r := by
  unfold gr
  exact congrArg _ (Fin.ext (Nat.mod_eq_of_lt hm).symm)
theorem ok_n {xs : List Slo} {b f : Int} (h : okP xs b f) {n : Nat} (hn : cyc xs b = n) : 1 ≤ n ∧ n ≤ 240 ∧ 0 ≤ f ∧ f < n ∧ xs.length ≤ 8 := by
  have h1 := okP_cyc h
  have h2 := h.2.2
  have h3 := h.1.1
  omega
theorem cyc_nat {xs : List Slo} {b f : Int} (h : okP xs b f) : ∃ n : Nat, cyc xs b = n := ⟨(cyc xs b).toNat, by have := okP_cyc h; omega⟩
abbrev b4c (g : Fin 4 → Bool) : List C := [.v (.bool (g 0)), .v (.bool (g 1)), .v (.bool (g 2)), .v (.bool (g 3))]
abbrev z4 : Fin 4 → Bool := fun _ => false
theorem b4_ld (g : Fin 4 → Bool) {i : Nat} (h : i < 4) (h' : i < (l4 g).length) : mkV false (sub (bo ((l4 g)[i]'h')) 0 1) = some (.c (.v (.bool (g ⟨i, h⟩)))) := by
  rw [l4_get g h]
  rfl
theorem mixF_putv {n : Nat} {α : Type} (g h : Fin n → α) {i : Nat} (hi : i < n) {b : α} (e : g ⟨i, hi⟩ = b) : putF (mixF i g h) i b = mixF (i + 1) g h := by
  subst e
  exact mixF_put g h hi
def plT (t : Tw) (j : Jo) : Pln := t.2.2.2.1.getD j.2.2.2.toNat ([], 0, 0)
/-- What a joint's plan lets go at a town's tick. -/
def phT (t : Tw) (j : Jo) : Ph := if j.2.2.2 < 0 then (fun _ => true) else (atR (plT t j).1 (plT t j).2.1 ((t.2.2.2.2.1 - (plT t j).2.2) % cyc (plT t j).1 (plT t j).2.1)).1
theorem ph_neg {t : Tw} {j : Jo} (h : j.2.2.2 < 0) : phT t j = fun _ => true := by
  unfold phT
  rw [if_pos h]
theorem ph_pos {t : Tw} {j : Jo} (h : ¬ j.2.2.2 < 0) (hq : j.2.2.2.toNat < t.2.2.2.1.length) {n : Nat} (hn : cyc (t.2.2.2.1[j.2.2.2.toNat]).1 (t.2.2.2.1[j.2.2.2.toNat]).2.1 = n) : phT t j = (atR (t.2.2.2.1[j.2.2.2.toNat]).1 (t.2.2.2.1[j.2.2.2.toNat]).2.1 ((t.2.2.2.2.1 - (t.2.2.2.1[j.2.2.2.toNat]).2.2) % n)).1 := by
  unfold phT
  rw [if_neg h, show plT t j = t.2.2.2.1[j.2.2.2.toNat] from gd hq, hn]
/-- Which ins of a joint may go. -/
def gIns (t : Tw) (j : Jo) : Fin 4 → Bool := fun i => decide (i.val < j.2.1.length) && phT t j ⟨i.val, by omega⟩
theorem gi_at {t : Tw} {j : Jo} {i : Nat} (h : i < j.2.1.length) (h4 : i < 4) : gIns t j ⟨i, h4⟩ = phT t j ⟨i, by omega⟩ := by
  unfold gIns
  simp [h]
theorem mix_g {t : Tw} {j : Jo} : mixF j.2.1.length (gIns t j) z4 = gIns t j := by
  funext i
  unfold mixF gIns z4
  by_cases h : i.val < j.2.1.length
  · simp [h]
  · simp [h]
/-- A joint of a valid town. -/
def jOk (t : Tw) (j : Jo) : Prop := (jPre j ∧ (-1 ≤ j.2.2.2 ∧ j.2.2.2 ≤ (t.2.2.2.1.length : Int) - 1)) ∧ (∀ p ∈ t.2.2.2.1, okP p.1 p.2.1 p.2.2) ∧ (0 ≤ t.2.2.2.2.1 ∧ t.2.2.2.2.1 ≤ 1000000000)
theorem jok_len {t : Tw} {j : Jo} (h : jOk t j) : j.2.1.length ≤ 4 ∧ j.2.2.1.length ≤ 4 := by
  have h1 := h.1.1
  have h2 := h1.1.1
  have h3 := h1.1.2.1
  have h4 := h1.2
  omega
theorem jok_of {t : Tw} (h : townOk t) {i : Nat} (hi : i < t.2.2.1.length) : jOk t t.2.2.1[i] := by
  have h1 := (town_iff t).1 h
  exact ⟨h1.2.2.1.1 _ (List.getElem_mem hi), h1.2.2.2.2.1, h1.2.2.2.2.2.1⟩
def zJ : Jo := ((0, 0, (fun _ _ => some 0), fun _ => some 0), [], [], 0)
def jtT (t : Tw) (a : Int) : Jo := t.2.2.1.getD a.toNat zJ
def jIn (t : Tw) (a : Int) : Prop := 0 ≤ a ∧ a ≤ (t.2.2.1.length : Int) - 1
instance (t : Tw) (a : Int) : Decidable (jIn t a) := by unfold jIn; infer_instance
/-- The code of a town and of a joint. -/
def jcode (t : Tw) (a : Int) : Int := if townOk t then (if jIn t a then 0 else 2) else 1
theorem jc_ok {t : Tw} {a : Int} (h : jcode t a = 0) : townOk t ∧ jIn t a := by
  unfold jcode at h
  split at h
  · rename_i h1
    split at h
    · rename_i h2
      exact ⟨h1, h2⟩
    · exact absurd h (by decide)
  · exact absurd h (by decide)
theorem jc_0 {t : Tw} {a : Int} (h1 : townOk t) (h2 : jIn t a) : jcode t a = 0 := by
  unfold jcode
  rw [if_pos h1, if_pos h2]
def ginW (t : Tw) (a : Int) : Fin 4 → Bool := if jcode t a ≠ 0 then z4 else gIns t (jtT t a)
theorem gw_no {t : Tw} {a : Int} (h : ¬ jcode t a = 0) : ginW t a = z4 := by
  unfold ginW
  rw [if_pos h]
theorem gw_ok {t : Tw} {a : Int} (h : jcode t a = 0) {hq : a.toNat < t.2.2.1.length} : ginW t a = gIns t t.2.2.1[a.toNat] := by
  unfold ginW jtT
  rw [if_neg (fun hn => hn h), gd hq]
theorem cMod (a n : Int) (hn : 1 ≤ n ∧ n ≤ 240) (_ : -2000000000 ≤ a ∧ a ≤ 2000000000) : PureC X 140 [cI a, cI n] (cI ((a.tmod n + n).tmod n)) := by
  refine PureC.of_body (drawD_ok X) (fun _ _ => Go.Proofs.Tryz.call140 _ _) Go.Proofs.Tryz.func140 rfl (n := 12) rfl ?_
  refine w_seq ?_
  refine w_reg rfl ?_
  refine v_assign (c := .v (.int .i64 0)) rfl ?_
  refine v_nil ?_
  refine q_n ?_
  refine w_seq ?_
  refine w_reg rfl ?_
  refine v_move rfl ?_
  refine v_move rfl ?_
  refine v_rem lay2 rfl rfl (by omega) ?_
  refine v_move rfl ?_
  refine v_add lay2 rfl rfl (i64r (by have := tmod_in (a := a) hn.1; omega)) ?_
  refine v_move rfl ?_
  refine v_rem lay2 rfl rfl (by omega) ?_
  refine v_assign rfl ?_
  refine v_nil ?_
  refine q_n ?_
  refine w_ret ?_
  refine r_r rfl ?_
  exact tr_v
theorem cAt (xs : List Slo) (b f : Int) (t : Int) (hk : okP xs b f) (n : Nat) (hn : cyc xs b = n) (ht : 0 ≤ t ∧ t ≤ 1000000000) : PureC X 75 [.agg (pln false xs b f), cI t] (.tup [.agg (phc (atR xs b ((t - f) % n)).1), cI (atR xs b ((t - f) % n)).2]) := by
  refine PureC.of_body (drawD_ok X) (fun _ _ => Go.Proofs.Tryz.call75 _ _) Go.Proofs.Tryz.func75 rfl (n := 52) rfl ?_
  obtain ⟨n1, n2, n3, n4, n5⟩ := ok_n hk hn
  have hs := hk.1.2.1
  have hb2 := hk.1.2.2
  have hb := hk.1.2.2
  have hr1 := Int.emod_nonneg (t - f) (show (n : Int) ≠ 0 by omega)
  have hr2 := Int.emod_lt_of_pos (t - f) (show (0 : Int) < n by omega)
  refine w_seq ?_
  refine w_reg rfl ?_
  refine v_box (m := 0) (H' := [_]) lay68 rfl rfl rfl ?_
  refine v_alloc (m := 1) (H' := [_, ⟨[.v _, .v _, .v _, .v _, .v _, .v _, .v _, .v _], 63, true⟩]) lay63 rfl rfl ?_
  refine v_assign (c := .v (.int .i64 0)) rfl ?_
  refine v_nil ?_
  refine q_n ?_
  refine w_seq ?_
  refine w_draw [0, 0, 2, 7, 0, 16, 63, 127] [⟨0, 0, []⟩, ⟨1, 0, []⟩, ⟨2, 0, []⟩, ⟨3, 0, []⟩, ⟨4, 0, []⟩, ⟨5, 0, []⟩, ⟨6, 0, []⟩, ⟨7, 0, []⟩] rfl rfl ?_
  refine d_q rfl rfl rfl rfl rfl ?_
  refine v_move rfl ?_
  refine v_nil ?_
  refine d_q rfl rfl rfl rfl rfl ?_
  refine v_fa_pt (off' := 2) lay68 rfl rfl rfl ?_
  refine v_nil ?_
  refine d_q rfl rfl rfl rfl rfl ?_
  refine v_load_pt (.c _) lay2 rfl rfl rfl rfl ?_
  refine v_nil ?_
  refine d_q rfl rfl rfl rfl rfl ?_
  refine v_sub lay2 rfl rfl (i64r (by omega)) ?_
  refine v_nil ?_
  refine d_q rfl rfl rfl rfl rfl ?_
  refine v_load_pt (.agg [_, _, _]) lay68 rfl rfl rfl rfl ?_
  refine v_nil ?_
  refine d_call (cCyc _ _ _ hs (by omega) (by omega)) rfl rfl rfl rfl rfl (.cons (vw_agg (.cons vw_sl (.cons vw_v (.cons vw_v .nil)))) .nil) ?_
  refine d_call (cMod _ _ (okP_cyc hk) (by omega)) rfl rfl rfl rfl rfl (.cons vw_v (.cons vw_v .nil)) ?_
  refine d_q rfl rfl rfl rfl rfl ?_
  refine v_assign rfl ?_
  refine v_nil ?_
  refine d_nil ?_
  refine q_n ?_
  refine w_seq ?_
  refine w_seq ?_
  refine w_reg rfl ?_
  refine v_fa_pt (off' := 0) lay68 rfl rfl rfl ?_
  refine v_load_pt (.c _) lay66 rfl rfl rfl rfl ?_
  refine v_len_sl lay66 rfl ?_
  refine v_move (c := .v (.int .i64 0)) rfl ?_
  refine v_nil ?_
  refine q_n ?_
  refine w_block ?_
  refine w_loop (fun k sl H => ∃ (i : Nat) (r : Int), k = xs.length - i ∧ i ≤ xs.length ∧ atR (xs.drop i) b r = atR xs b ((t - f) % n) ∧ (0 ≤ r ∧ r ≤ 240) ∧ sl = sls [(2, .c (.pt 0 0)), (4, .c (.pt 1 0)), (6, cI r), (17, .c (sts false xs)), (18, cI xs.length), (19, cI i)] ∧ H = [⟨pln false xs b f, 68, true⟩, ⟨phc zg, 63, true⟩]) ?_ ?_
  · refine ⟨_, _, _, ?_, 0, (t - f) % n, rfl, Nat.zero_le _, rfl, ⟨hr1, by omega⟩, rfl, rfl⟩
    exact turn [some 0, some 1] rfl rfl rfl ⟨⟨_, rfl, .cons tr_sl (.cons tr_v (.cons tr_v .nil))⟩, ⟨_, rfl, (.cons tr_v (.cons tr_v (.cons tr_v (.cons tr_v (.cons tr_v (.cons tr_v (.cons tr_v (.cons tr_v .nil))))))))⟩, trivial⟩ ⟨tr_pt rfl, tr_pt rfl, tr_i (by rw [hn]; exact mo_eq (by omega)), tr_sl, tr_v, tr_v, trivial⟩
  rintro k sl H ⟨i, r, rfl, hi, hp, hr, rfl, rfl⟩
  refine w_seq ?_
  refine w_reg rfl ?_
  refine v_lss lay3 rfl rfl (fun h1 => ?_) (fun h1 => ?_)
  rotate_left
  · refine v_nil ?_
    refine q_n ?_
    refine w_seq ?_
    refine w_f rfl ?_
    refine w_exit ?_
    refine q_e ?_
    refine q_e ?_
    refine q_hit ?_
    refine q_n ?_
    refine w_seq ?_
    refine w_reg rfl ?_
    refine v_build_a [.v _, .v _, .v _, .v _, .v _, .v _, .v _, .v _] lay63 lay4 rfl ?_
    refine v_store (H' := [_, ⟨[_, _, _, _, _, _, _, _], 63, true⟩]) lay63 rfl rfl rfl rfl rfl rfl ?_
    refine v_assign (c := .v (.int .i64 0)) rfl ?_
    refine v_nil ?_
    refine q_n ?_
    refine w_ret ?_
    refine r_r rfl ?_
    obtain rfl : i = xs.length := by omega
    rw [← hp, List.drop_length]
    exact a_tup (.cons (a_agg (.cons tr_v (.cons tr_v (.cons tr_v (.cons tr_v (.cons tr_v (.cons tr_v (.cons tr_v (.cons tr_v .nil))))))))) (.cons tr_v .nil))
  have hi1 : i < xs.length := by omega
  have htk := tk_at hs hi1
  refine v_nil ?_
  refine q_n ?_
  refine w_seq ?_
  refine w_t rfl ?_
  refine w_skip ?_
  refine q_n ?_
  refine w_seq ?_
  refine w_block ?_
  refine w_seq ?_
  refine w_reg rfl ?_
  refine v_idx_e (k := 9) (i) stc_len lay66 lay170 rfl rfl rfl (rfl) rfl (rfl) (hi1) ?_
  refine v_load_vw (.agg [.v _, .v _, .v _, .v _, .v _, .v _, .v _, .v _, .v _]) lay170 rfl rfl rfl ?_
  refine v_alloc (m := 2) (H' := [_, _, ⟨[.v _, .v _, .v _, .v _, .v _, .v _, .v _, .v _, .v _], 170, true⟩]) lay170 rfl rfl ?_
  refine v_store (H' := [_, _, ⟨[_, _, _, _, _, _, _, _, _], 170, true⟩]) lay170 rfl rfl rfl rfl rfl rfl ?_
  refine v_nil ?_
  refine q_n ?_
  refine w_seq ?_
  refine w_seq ?_
  refine w_reg rfl ?_
  refine v_move rfl ?_
  refine v_fa_pt (off' := 8) lay170 rfl rfl rfl ?_
  refine v_load_pt (.c _) lay2 rfl rfl rfl rfl ?_
  refine v_lss lay2 rfl rfl (fun h3 => ?_) (fun h3 => ?_)
  · refine v_nil ?_
    refine q_n ?_
    refine w_t rfl ?_
    refine w_seq ?_
    refine w_draw [0, 1, 0, 4, 0, 28, 3, 127] [⟨0, 0, []⟩, ⟨1, 0, []⟩, ⟨2, 0, []⟩, ⟨3, 0, []⟩, ⟨4, 0, []⟩, ⟨5, 0, []⟩, ⟨6, 1, [3]⟩, ⟨7, 0, []⟩] rfl rfl ?_
    refine d_q rfl rfl rfl rfl rfl ?_
    refine v_fa_pt (off' := 0) lay170 rfl rfl rfl ?_
    refine v_nil ?_
    refine d_q rfl rfl rfl rfl rfl ?_
    refine v_load_pt (.agg [_, _, _, _, _, _, _, _]) lay63 rfl rfl rfl rfl ?_
    refine v_nil ?_
    refine d_q rfl rfl rfl rfl rfl ?_
    refine v_fa_pt (off' := 8) lay170 rfl rfl rfl ?_
    refine v_nil ?_
    refine d_q rfl rfl rfl rfl rfl ?_
    refine v_load_pt (.c _) lay2 rfl rfl rfl rfl ?_
    refine v_nil ?_
    refine d_q rfl rfl rfl rfl rfl ?_
    refine v_move rfl ?_
    refine v_nil ?_
    refine d_q rfl rfl rfl rfl rfl ?_
    refine v_sub lay2 rfl rfl (i64r (by omega)) ?_
    refine v_nil ?_
    refine d_e rfl rfl rfl ?_
    refine v_store (H' := [_, ⟨[_, _, _, _, _, _, _, _], 63, true⟩, _]) lay63 rfl rfl rfl rfl rfl rfl ?_
    refine v_nil ⟨⟨ag_load_pt (.c _) lay2 rfl rfl rfl rfl, ⟨trivial, trivial⟩⟩, ?_⟩
    refine d_q rfl rfl rfl rfl rfl ?_
    refine v_assign rfl ?_
    refine v_nil ?_
    refine d_nil ?_
    refine q_n ?_
    refine w_ret (q_r (q_br (q_r (q_r (q_br (q_r ?_))))))
    refine r_r rfl ?_
    rw [← hp, at_at hi1, if_pos h3]
    exact a_tup (.cons (a_agg (.cons tr_v (.cons tr_v (.cons tr_v (.cons tr_v (.cons tr_v (.cons tr_v (.cons tr_v (.cons tr_v .nil))))))))) (.cons tr_v .nil))
  refine v_nil ?_
  refine q_n ?_
  refine w_f rfl ?_
  refine w_skip ?_
  refine q_n ?_
  refine w_seq ?_
  refine w_seq ?_
  refine w_reg rfl ?_
  refine v_move rfl ?_
  refine v_fa_pt (off' := 8) lay170 rfl rfl rfl ?_
  refine v_load_pt (.c _) lay2 rfl rfl rfl rfl ?_
  refine v_sub lay2 rfl rfl (i64r (by omega)) ?_
  refine v_assign rfl ?_
  refine v_nil ?_
  refine q_n ?_
  refine w_seq ?_
  refine w_reg rfl ?_
  refine v_move rfl ?_
  refine v_fa_pt (off' := 1) lay68 rfl rfl rfl ?_
  refine v_load_pt (.c _) lay2 rfl rfl rfl rfl ?_
  refine v_lss lay2 rfl rfl (fun h4 => ?_) (fun h4 => ?_)
  rotate_left
  · refine v_nil ?_
    refine q_n ?_
    refine w_f rfl ?_
    refine w_skip ?_
    refine q_n ?_
    refine w_reg rfl ?_
    refine v_move rfl ?_
    refine v_fa_pt (off' := 1) lay68 rfl rfl rfl ?_
    refine v_load_pt (.c _) lay2 rfl rfl rfl rfl ?_
    refine v_sub lay2 rfl rfl (i64r (by omega)) ?_
    refine v_assign rfl ?_
    refine v_nil ?_
    refine q_bn ?_
    refine q_n ?_
    refine w_reg rfl ?_
    refine v_add lay3 rfl rfl (i64r (by omega)) ?_
    refine v_move rfl ?_
    refine v_nil ?_
    refine q_n ?_
    rw [at_at hi1, if_neg h3, if_neg h4] at hp
    refine ⟨_, _, _, ?_, ⟨i + 1, r - xs[i].2 - b, rfl, by omega, hp, ⟨by omega, by omega⟩, rfl, rfl⟩, by omega⟩
    exact turn [some 0, some 1] rfl rfl rfl ⟨⟨_, rfl, .cons tr_sl (.cons tr_v (.cons tr_v .nil))⟩, ⟨_, rfl, (.cons tr_v (.cons tr_v (.cons tr_v (.cons tr_v (.cons tr_v (.cons tr_v (.cons tr_v (.cons tr_v .nil))))))))⟩, trivial⟩ ⟨tr_pt rfl, tr_pt rfl, tr_v, tr_sl, tr_v, tr_v, trivial⟩
  refine v_nil ?_
  refine q_n ?_
  refine w_t rfl ?_
  refine w_seq ?_
  refine w_draw [0, 0, 2, 0, 14, 1, 63] [⟨0, 0, []⟩, ⟨1, 0, []⟩, ⟨2, 0, []⟩, ⟨3, 0, []⟩, ⟨4, 0, []⟩, ⟨5, 1, [2]⟩, ⟨6, 0, []⟩] rfl rfl ?_
  refine d_q rfl rfl rfl rfl rfl ?_
  refine v_build_a [.v _, .v _, .v _, .v _, .v _, .v _, .v _, .v _] lay63 lay4 rfl ?_
  refine v_nil ?_
  refine d_q rfl rfl rfl rfl rfl ?_
  refine v_fa_pt (off' := 1) lay68 rfl rfl rfl ?_
  refine v_nil ?_
  refine d_q rfl rfl rfl rfl rfl ?_
  refine v_load_pt (.c _) lay2 rfl rfl rfl rfl ?_
  refine v_nil ?_
  refine d_q rfl rfl rfl rfl rfl ?_
  refine v_move rfl ?_
  refine v_nil ?_
  refine d_q rfl rfl rfl rfl rfl ?_
  refine v_sub lay2 rfl rfl (i64r (by omega)) ?_
  refine v_nil ?_
  refine d_e rfl rfl rfl ?_
  refine v_store (H' := [_, ⟨[_, _, _, _, _, _, _, _], 63, true⟩, _]) lay63 rfl rfl rfl rfl rfl rfl ?_
  refine v_nil ⟨⟨ag_load_pt (.c _) lay2 rfl rfl rfl rfl, trivial⟩, ?_⟩
  refine d_q rfl rfl rfl rfl rfl ?_
  refine v_assign rfl ?_
  refine v_nil ?_
  refine d_nil ?_
  refine q_n ?_
  refine w_ret (q_r (q_br (q_r (q_r (q_br (q_r ?_))))))
  refine r_r rfl ?_
  rw [← hp, at_at hi1, if_neg h3, if_pos h4]
  exact a_tup (.cons (a_agg (.cons tr_v (.cons tr_v (.cons tr_v (.cons tr_v (.cons tr_v (.cons tr_v (.cons tr_v (.cons tr_v .nil))))))))) (.cons tr_v .nil))
theorem cIsG (xs : List Slo) (b f : Int) (t : Int) (hk : okP xs b f) (m n : Nat) (hn : cyc xs b = n) (hm : m < 8) (ht : 0 ≤ t ∧ t ≤ 1000000000) : PureC X 133 [.agg (pln false xs b f), cI m, cI t] (cB (decide (gr xs b m ((t - f) % n) = true))) := by
  refine PureC.of_body (drawD_ok X) (fun _ _ => Go.Proofs.Tryz.call133 _ _) Go.Proofs.Tryz.func133 rfl (n := 18) rfl ?_
  refine w_seq ?_
  refine w_reg rfl ?_
  refine v_box (m := 0) (H' := [_]) lay68 rfl rfl rfl ?_
  refine v_assign (c := .v (.bool false)) rfl ?_
  refine v_nil ?_
  refine q_n ?_
  refine w_seq ?_
  refine w_reg rfl ?_
  refine v_load_pt (.agg [_, _, _]) lay68 rfl rfl rfl rfl ?_
  refine v_move rfl ?_
  refine v_call (cAt _ _ _ _ hk n hn (by omega)) rfl rfl rfl (.cons (vw_agg (.cons vw_sl (.cons vw_v (.cons vw_v .nil)))) (.cons vw_v .nil)) ?_
  refine v_move_t rfl ?_
  refine v_extract_a rfl rfl ?_
  refine v_extract_c rfl rfl ?_
  refine v_alloc (m := 1) (H' := [_, ⟨[.v _, .v _, .v _, .v _, .v _, .v _, .v _, .v _], 63, true⟩]) lay63 rfl rfl ?_
  refine v_store (H' := [_, ⟨[_, _, _, _, _, _, _, _], 63, true⟩]) lay63 rfl rfl rfl rfl rfl rfl ?_
  refine v_assign rfl ?_
  refine v_nil ?_
  refine q_n ?_
  refine w_seq ?_
  refine w_reg rfl ?_
  refine v_move rfl ?_
  refine v_idx_arr_e (k := 1) (m) lay63 lay4 rfl rfl rfl (rfl) (hm) ?_
  refine v_load_flat_e (enc := bo) (ys := pl (atR xs b ((t - f) % n)).1) m 0 (.c (.v (.bool ((atR xs b ((t - f) % n)).1 ⟨m, hm⟩)))) bo_len lay4 rfl rfl (by omega) hm (by decide) (pl_ld _ hm _) ?_
  refine v_assign rfl ?_
  refine v_nil ?_
  refine q_n ?_
  refine w_ret ?_
  refine r_r rfl ?_
  exact a_b (by rw [gr_eq hm])
theorem cAtS (xs : List Slo) (b f : Int) (a : Int) (hs : ticksOk xs) (hb2 : 0 ≤ b ∧ b ≤ 240) (hx : xs.length ≤ 8) (ha : 0 ≤ a ∧ a ≤ 1000) : PureC X 144 [.c (.vw false (pln true xs b f) 0), cI a] (.tup [.agg (phc (atR xs b a).1), cI (atR xs b a).2]) := by
  refine PureC.of_body (drawD_ok X) (fun _ _ => Go.Proofs.Tryz.call144 _ _) Go.Proofs.Tryz.func144 rfl (n := 74) rfl ?_
  refine w_seq ?_
  refine w_reg rfl ?_
  refine v_alloc (m := 0) (H' := [⟨[.v _, .v _, .v _, .v _, .v _, .v _, .v _, .v _], 63, true⟩]) lay63 rfl rfl ?_
  refine v_assign (c := .v (.int .i64 0)) rfl ?_
  refine v_nil ?_
  refine q_n ?_
  refine w_seq ?_
  refine w_seq ?_
  refine w_reg rfl ?_
  refine v_assign (c := .v (.int .i64 0)) rfl ?_
  refine v_nil ?_
  refine q_n ?_
  refine w_block ?_
  refine w_loop (fun k sl H => ∃ (i : Nat) (r : Int), k = xs.length - i ∧ i ≤ xs.length ∧ atR (xs.drop i) b r = atR xs b a ∧ (0 ≤ r ∧ r ≤ 1000) ∧ sl = sls [(0, .c (.vw false (pln true xs b f) 0)), (1, cI r), (4, .c (.pt 0 0)), (6, cI i)] ∧ H = [⟨phc zg, 63, true⟩]) ?_ ?_
  · refine ⟨_, _, _, ?_, 0, a, rfl, Nat.zero_le _, rfl, ha, rfl, rfl⟩
    exact turn [some 0] rfl rfl rfl ⟨⟨_, rfl, (.cons tr_v (.cons tr_v (.cons tr_v (.cons tr_v (.cons tr_v (.cons tr_v (.cons tr_v (.cons tr_v .nil))))))))⟩, trivial⟩ ⟨tr_vw, tr_v, tr_pt rfl, tr_v, trivial⟩
  rintro k sl H ⟨i, r, rfl, hi, hp, hr, rfl, rfl⟩
  refine w_seq ?_
  refine w_seq ?_
  refine w_reg rfl ?_
  refine v_move rfl ?_
  refine v_move rfl ?_
  refine v_nil_vw rfl ?_
  refine v_fa_vw (off' := 0) lay68 rfl rfl rfl ?_
  refine v_load_vw (.c (_)) lay66 rfl rfl rfl ?_
  refine v_len_sl lay66 rfl ?_
  refine v_lss lay3 rfl rfl (fun h1 => ?_) (fun h1 => ?_)
  rotate_left
  · refine v_nil ?_
    refine q_n ?_
    refine w_f rfl ?_
    refine w_exit ?_
    refine q_e ?_
    refine q_e ?_
    refine q_hit ?_
    refine q_n ?_
    refine w_seq ?_
    refine w_reg rfl ?_
    refine v_build_a [.v _, .v _, .v _, .v _, .v _, .v _, .v _, .v _] lay63 lay4 rfl ?_
    refine v_store (H' := [⟨[_, _, _, _, _, _, _, _], 63, true⟩]) lay63 rfl rfl rfl rfl rfl rfl ?_
    refine v_assign (c := .v (.int .i64 0)) rfl ?_
    refine v_nil ?_
    refine q_n ?_
    refine w_ret ?_
    refine r_r rfl ?_
    obtain rfl : i = xs.length := by omega
    rw [← hp, List.drop_length]
    exact a_tup (.cons (a_agg (.cons tr_v (.cons tr_v (.cons tr_v (.cons tr_v (.cons tr_v (.cons tr_v (.cons tr_v (.cons tr_v .nil))))))))) (.cons tr_v .nil))
  have hi1 : i < xs.length := by omega
  have htk := tk_at hs hi1
  refine v_nil ?_
  refine q_n ?_
  refine w_t rfl ?_
  refine w_skip ?_
  refine q_n ?_
  refine w_seq ?_
  refine w_block ?_
  refine w_seq ?_
  refine w_seq ?_
  refine w_reg rfl ?_
  refine v_move rfl ?_
  refine v_move rfl ?_
  refine v_nil_vw rfl ?_
  refine v_fa_vw (off' := 0) lay68 rfl rfl rfl ?_
  refine v_load_vw (.c (_)) lay66 rfl rfl rfl ?_
  refine v_move rfl ?_
  refine v_idx_e (k := 9) (i) stc_len lay66 lay170 rfl rfl rfl (rfl) rfl (rfl) (hi1) ?_
  refine v_fa_vw (off' := 8) lay170 rfl rfl rfl ?_
  refine v_load_vw (.c (.v _)) lay2 rfl rfl rfl ?_
  refine v_lss lay2 rfl rfl (fun h3 => ?_) (fun h3 => ?_)
  · have hr3 := h3
    refine v_nil ?_
    refine q_n ?_
    refine w_t rfl ?_
    refine w_seq ?_
    refine w_draw [0, 1, 3, 7, 0, 31, 63, 127, 0, 256, 768, 1792, 0, 7936, 16128, 32512, 0, 130816, 255, 524287] [⟨0, 0, []⟩, ⟨1, 0, []⟩, ⟨2, 0, []⟩, ⟨3, 0, []⟩, ⟨4, 0, []⟩, ⟨5, 0, []⟩, ⟨6, 0, []⟩, ⟨7, 0, []⟩, ⟨8, 0, []⟩, ⟨9, 0, []⟩, ⟨10, 0, []⟩, ⟨11, 0, []⟩, ⟨12, 0, []⟩, ⟨13, 0, []⟩, ⟨14, 0, []⟩, ⟨15, 0, []⟩, ⟨16, 0, []⟩, ⟨17, 0, []⟩, ⟨18, 1, [11, 15]⟩, ⟨19, 0, []⟩] rfl rfl ?_
    refine d_q rfl rfl rfl rfl rfl ?_
    refine v_move rfl ?_
    refine v_nil ?_
    refine d_q rfl rfl rfl rfl rfl ?_
    refine v_nil_vw rfl ?_
    refine v_nil ?_
    refine d_q rfl rfl rfl rfl rfl ?_
    refine v_fa_vw (off' := 0) lay68 rfl rfl rfl ?_
    refine v_nil ?_
    refine d_q rfl rfl rfl rfl rfl ?_
    refine v_load_vw (.c (_)) lay66 rfl rfl rfl ?_
    refine v_nil ?_
    refine d_q rfl rfl rfl rfl rfl ?_
    refine v_move rfl ?_
    refine v_nil ?_
    refine d_q rfl rfl rfl rfl rfl ?_
    refine v_idx_e (k := 9) (i) stc_len lay66 lay170 rfl rfl rfl (rfl) rfl (rfl) (hi1) ?_
    refine v_nil ?_
    refine d_q rfl rfl rfl rfl rfl ?_
    refine v_fa_vw (off' := 0) lay170 rfl rfl rfl ?_
    refine v_nil ?_
    refine d_q rfl rfl rfl rfl rfl ?_
    refine v_load_vw (.agg [.v _, .v _, .v _, .v _, .v _, .v _, .v _, .v _]) lay63 rfl rfl rfl ?_
    refine v_nil ?_
    refine d_q rfl rfl rfl rfl rfl ?_
    refine v_move rfl ?_
    refine v_nil ?_
    refine d_q rfl rfl rfl rfl rfl ?_
    refine v_nil_vw rfl ?_
    refine v_nil ?_
    refine d_q rfl rfl rfl rfl rfl ?_
    refine v_fa_vw (off' := 0) lay68 rfl rfl rfl ?_
    refine v_nil ?_
    refine d_q rfl rfl rfl rfl rfl ?_
    refine v_load_vw (.c (_)) lay66 rfl rfl rfl ?_
    refine v_nil ?_
    refine d_q rfl rfl rfl rfl rfl ?_
    refine v_move rfl ?_
    refine v_nil ?_
    refine d_q rfl rfl rfl rfl rfl ?_
    refine v_idx_e (k := 9) (i) stc_len lay66 lay170 rfl rfl rfl (rfl) rfl (rfl) (hi1) ?_
    refine v_nil ?_
    refine d_q rfl rfl rfl rfl rfl ?_
    refine v_fa_vw (off' := 8) lay170 rfl rfl rfl ?_
    refine v_nil ?_
    refine d_q rfl rfl rfl rfl rfl ?_
    refine v_load_vw (.c (.v _)) lay2 rfl rfl rfl ?_
    refine v_nil ?_
    refine d_q rfl rfl rfl rfl rfl ?_
    refine v_move rfl ?_
    refine v_nil ?_
    refine d_q rfl rfl rfl rfl rfl ?_
    refine v_sub lay2 rfl rfl (i64r (by omega)) ?_
    refine v_nil ?_
    refine d_e rfl rfl rfl ?_
    refine v_store (H' := [⟨[_, _, _, _, _, _, _, _], 63, true⟩]) lay63 rfl rfl rfl rfl rfl rfl ?_
    refine v_nil ⟨⟨ag_load_vw (.c (.v _)) lay2 rfl rfl rfl, ⟨ag_load_vw (.c (_)) lay66 rfl rfl rfl, ⟨trivial, ⟨trivial, trivial⟩⟩⟩⟩, ?_⟩
    refine d_q rfl rfl rfl rfl rfl ?_
    refine v_assign rfl ?_
    refine v_nil ?_
    refine d_nil ?_
    refine q_n ?_
    refine w_ret (q_r (q_br (q_r (q_r (q_br (q_r ?_))))))
    refine r_r rfl ?_
    rw [← hp, at_at hi1, if_pos hr3]
    exact a_tup (.cons (a_agg (.cons tr_v (.cons tr_v (.cons tr_v (.cons tr_v (.cons tr_v (.cons tr_v (.cons tr_v (.cons tr_v .nil))))))))) (.cons tr_v .nil))
  have hr3 := h3
  refine v_nil ?_
  refine q_n ?_
  refine w_f rfl ?_
  refine w_skip ?_
  refine q_n ?_
  refine w_seq ?_
  refine w_reg rfl ?_
  refine v_move rfl ?_
  refine v_move rfl ?_
  refine v_nil_vw rfl ?_
  refine v_fa_vw (off' := 0) lay68 rfl rfl rfl ?_
  refine v_load_vw (.c (_)) lay66 rfl rfl rfl ?_
  refine v_move rfl ?_
  refine v_idx_e (k := 9) (i) stc_len lay66 lay170 rfl rfl rfl (rfl) rfl (rfl) (hi1) ?_
  refine v_fa_vw (off' := 8) lay170 rfl rfl rfl ?_
  refine v_load_vw (.c (.v _)) lay2 rfl rfl rfl ?_
  refine v_sub lay2 rfl rfl (i64r (by omega)) ?_
  refine v_assign rfl ?_
  refine v_nil ?_
  refine q_n ?_
  refine w_seq ?_
  refine w_seq ?_
  refine w_reg rfl ?_
  refine v_move rfl ?_
  refine v_move rfl ?_
  refine v_nil_vw rfl ?_
  refine v_fa_vw (off' := 1) lay68 rfl rfl rfl ?_
  refine v_load_vw (.c (.v _)) lay2 rfl rfl rfl ?_
  refine v_lss lay2 rfl rfl (fun h7 => ?_) (fun h7 => ?_)
  rotate_left
  · have hr4 := h7
    refine v_nil ?_
    refine q_n ?_
    refine w_f rfl ?_
    refine w_skip ?_
    refine q_n ?_
    refine w_reg rfl ?_
    refine v_move rfl ?_
    refine v_move rfl ?_
    refine v_nil_vw rfl ?_
    refine v_fa_vw (off' := 1) lay68 rfl rfl rfl ?_
    refine v_load_vw (.c (.v _)) lay2 rfl rfl rfl ?_
    refine v_sub lay2 rfl rfl (i64r (by omega)) ?_
    refine v_assign rfl ?_
    refine v_nil ?_
    refine q_bn ?_
    refine q_n ?_
    refine w_reg rfl ?_
    refine v_move rfl ?_
    refine v_add lay3 rfl rfl (i64r (by omega)) ?_
    refine v_assign rfl ?_
    refine v_nil ?_
    refine q_n ?_
    rw [at_at hi1, if_neg hr3, if_neg hr4] at hp
    refine ⟨_, _, _, ?_, ⟨i + 1, r - xs[i].2 - b, rfl, by omega, hp, ⟨by omega, by omega⟩, rfl, rfl⟩, by omega⟩
    exact turn [some 0] rfl rfl rfl ⟨⟨_, rfl, (.cons tr_v (.cons tr_v (.cons tr_v (.cons tr_v (.cons tr_v (.cons tr_v (.cons tr_v (.cons tr_v .nil))))))))⟩, trivial⟩ ⟨tr_vw, tr_v, tr_pt rfl, tr_v, trivial⟩
  have hr4 := h7
  refine v_nil ?_
  refine q_n ?_
  refine w_t rfl ?_
  refine w_seq ?_
  refine w_draw [0, 0, 2, 6, 14, 0, 62, 1, 255] [⟨0, 0, []⟩, ⟨1, 0, []⟩, ⟨2, 0, []⟩, ⟨3, 0, []⟩, ⟨4, 0, []⟩, ⟨5, 0, []⟩, ⟨6, 0, []⟩, ⟨7, 1, [4]⟩, ⟨8, 0, []⟩] rfl rfl ?_
  refine d_q rfl rfl rfl rfl rfl ?_
  refine v_build_a [.v _, .v _, .v _, .v _, .v _, .v _, .v _, .v _] lay63 lay4 rfl ?_
  refine v_nil ?_
  refine d_q rfl rfl rfl rfl rfl ?_
  refine v_move rfl ?_
  refine v_nil ?_
  refine d_q rfl rfl rfl rfl rfl ?_
  refine v_nil_vw rfl ?_
  refine v_nil ?_
  refine d_q rfl rfl rfl rfl rfl ?_
  refine v_fa_vw (off' := 1) lay68 rfl rfl rfl ?_
  refine v_nil ?_
  refine d_q rfl rfl rfl rfl rfl ?_
  refine v_load_vw (.c (.v _)) lay2 rfl rfl rfl ?_
  refine v_nil ?_
  refine d_q rfl rfl rfl rfl rfl ?_
  refine v_move rfl ?_
  refine v_nil ?_
  refine d_q rfl rfl rfl rfl rfl ?_
  refine v_sub lay2 rfl rfl (i64r (by omega)) ?_
  refine v_nil ?_
  refine d_e rfl rfl rfl ?_
  refine v_store (H' := [⟨[_, _, _, _, _, _, _, _], 63, true⟩]) lay63 rfl rfl rfl rfl rfl rfl ?_
  refine v_nil ⟨⟨ag_load_vw (.c (.v _)) lay2 rfl rfl rfl, trivial⟩, ?_⟩
  refine d_q rfl rfl rfl rfl rfl ?_
  refine v_assign rfl ?_
  refine v_nil ?_
  refine d_nil ?_
  refine q_n ?_
  refine w_ret (q_r (q_br (q_r (q_r (q_br (q_r ?_))))))
  refine r_r rfl ?_
  rw [← hp, at_at hi1, if_neg hr3, if_pos hr4]
  exact a_tup (.cons (a_agg (.cons tr_v (.cons tr_v (.cons tr_v (.cons tr_v (.cons tr_v (.cons tr_v (.cons tr_v (.cons tr_v .nil))))))))) (.cons tr_v .nil))
theorem cCySn (xs : List Slo) (b f : Int) (hk : okP xs b f) {n : Nat} (hn : cyc xs b = n) : PureC X 168 [.c (.vw false (pln true xs b f) 0)] (cI n) := by
  have h := cCyS xs b f (by have := hk.1.1; omega)
  rwa [cyS_cyc hk, hn] at h
theorem cPla (xs : List Slo) (b f : Int) (t : Int) (hk : okP xs b f) (n : Nat) (hn : cyc xs b = n) (ht : 0 ≤ t ∧ t ≤ 1000000000) : PureC X 145 [.c (.vw false (pln true xs b f) 0), cI t] (cI ((t - f) % n)) := by
  refine PureC.of_body (drawD_ok X) (fun _ _ => Go.Proofs.Tryz.call145 _ _) Go.Proofs.Tryz.func145 rfl (n := 20) rfl ?_
  obtain ⟨n1, n2, n3, n4, n5⟩ := ok_n hk hn
  have hT := tmod_in (a := t) (show (1 : Int) ≤ n by omega)
  refine w_seq ?_
  refine w_reg rfl ?_
  refine v_assign (c := .v (.int .i64 0)) rfl ?_
  refine v_nil ?_
  refine q_n ?_
  refine w_seq ?_
  refine w_reg rfl ?_
  refine v_move rfl ?_
  refine v_call (cCySn _ _ _ hk hn) rfl rfl rfl (.cons vw_vw .nil) ?_
  refine v_assign rfl ?_
  refine v_nil ?_
  refine q_n ?_
  refine w_seq ?_
  refine w_draw [0, 0, 3, 0, 8, 24, 56, 127, 0, 511, 0, 2047, 4095] [⟨0, 0, []⟩, ⟨1, 0, []⟩, ⟨2, 0, []⟩, ⟨3, 0, []⟩, ⟨4, 0, []⟩, ⟨5, 0, []⟩, ⟨6, 0, []⟩, ⟨7, 0, []⟩, ⟨8, 0, []⟩, ⟨9, 0, []⟩, ⟨10, 0, []⟩, ⟨11, 0, []⟩, ⟨12, 0, []⟩] rfl rfl ?_
  refine d_q rfl rfl rfl rfl rfl ?_
  refine v_move rfl ?_
  refine v_nil ?_
  refine d_q rfl rfl rfl rfl rfl ?_
  refine v_move rfl ?_
  refine v_nil ?_
  refine d_q rfl rfl rfl rfl rfl ?_
  refine v_rem lay2 rfl rfl (by omega) ?_
  refine v_nil ?_
  refine d_q rfl rfl rfl rfl rfl ?_
  refine v_move rfl ?_
  refine v_nil ?_
  refine d_q rfl rfl rfl rfl rfl ?_
  refine v_nil_vw rfl ?_
  refine v_nil ?_
  refine d_q rfl rfl rfl rfl rfl ?_
  refine v_fa_vw (off' := 2) lay68 rfl rfl rfl ?_
  refine v_nil ?_
  refine d_q rfl rfl rfl rfl rfl ?_
  refine v_load_vw (.c (.v _)) lay2 rfl rfl rfl ?_
  refine v_nil ?_
  refine d_q rfl rfl rfl rfl rfl ?_
  refine v_sub lay2 rfl rfl (i64r (by omega)) ?_
  refine v_nil ?_
  refine d_q rfl rfl rfl rfl rfl ?_
  refine v_move rfl ?_
  refine v_nil ?_
  refine d_q rfl rfl rfl rfl rfl ?_
  refine v_add lay2 rfl rfl (i64r (by omega)) ?_
  refine v_nil ?_
  refine d_q rfl rfl rfl rfl rfl ?_
  refine v_move rfl ?_
  refine v_nil ?_
  refine d_q rfl rfl rfl rfl rfl ?_
  refine v_rem lay2 rfl rfl (by omega) ?_
  refine v_nil ?_
  refine d_q rfl rfl rfl rfl rfl ?_
  refine v_assign rfl ?_
  refine v_nil ?_
  refine d_nil ?_
  refine q_n ?_
  refine w_ret ?_
  refine r_r rfl ?_
  exact a_i (pl_eq (by omega) ht.1 ⟨n3, n4⟩)
theorem cGrS (t : Tw) (j : Jo) (hB : tB (2 ^ 20) t) (hj : jOk t j) : PureC X 81 [.c (.vw false (twf true t) 0), .c (.vw false (joc j) 0)] (.agg (b4c (gIns t j))) := by
  refine PureC.of_body (drawD_ok X) (fun _ _ => Go.Proofs.Tryz.call81 _ _) Go.Proofs.Tryz.func81 rfl (n := 51) rfl ?_
  have hl4 := (jok_len hj).1
  refine w_seq ?_
  refine w_reg rfl ?_
  refine v_alloc (m := 0) (H' := [⟨[.v _, .v _, .v _, .v _], 57, true⟩]) lay57 rfl rfl ?_
  refine v_nil ?_
  refine q_n ?_
  refine w_seq ?_
  refine w_reg rfl ?_
  refine v_build_a [.v _, .v _, .v _, .v _] lay57 lay4 rfl ?_
  refine v_alloc (m := 1) (H' := [_, ⟨[.v _, .v _, .v _, .v _], 57, true⟩]) lay57 rfl rfl ?_
  refine v_store (H' := [_, ⟨[_, _, _, _], 57, true⟩]) lay57 rfl rfl rfl rfl rfl rfl ?_
  refine v_nil ?_
  refine q_n ?_
  refine w_seq ?_
  refine w_reg rfl ?_
  refine v_build_a [.v _, .v _, .v _, .v _, .v _, .v _, .v _, .v _] lay63 lay4 rfl ?_
  refine v_alloc (m := 2) (H' := [_, _, ⟨[.v _, .v _, .v _, .v _, .v _, .v _, .v _, .v _], 63, true⟩]) lay63 rfl rfl ?_
  refine v_store (H' := [_, _, ⟨[_, _, _, _, _, _, _, _], 63, true⟩]) lay63 rfl rfl rfl rfl rfl rfl ?_
  refine v_nil ?_
  refine q_n ?_
  refine w_seq ?_
  refine w_seq ?_
  refine w_reg rfl ?_
  refine v_move rfl ?_
  refine v_nil_vw rfl ?_
  refine v_fa_vw (off' := 24) lay56 rfl rfl rfl ?_
  refine v_load_vw (.c (.v _)) lay2 rfl rfl rfl ?_
  refine v_geq lay2 rfl rfl (fun h1 => ?_) (fun h1 => ?_)
  rotate_left
  · refine v_nil ?_
    refine q_n ?_
    refine w_f rfl ?_
    refine w_skip ?_
    refine q_n ?_
    refine w_seq ?_
    refine w_seq ?_
    refine w_reg rfl ?_
    refine v_assign (c := .v (.int .i64 0)) rfl ?_
    refine v_nil ?_
    refine q_n ?_
    refine w_block ?_
    refine w_loop (fun k sl H => ∃ i : Nat, k = j.2.1.length - i ∧ i ≤ j.2.1.length ∧ sl = sls [(0, .c (.vw false (twf true t) 0)), (1, .c (.vw false (joc j) 0)), (4, .c (.pt 0 0)), (5, .c (.pt 1 0)), (6, .c (.pt 2 0)), (8, cI i)] ∧ H = [⟨b4c z4, 57, true⟩, ⟨flat bo (l4 (mixF i (gIns t j) z4)), 57, true⟩, ⟨flat bo (pl (phT t j)), 63, true⟩]) ?_ ?_
    · have hph := ph_neg (t := t) (j := j) (by omega)
      refine ⟨_, _, _, ?_, 0, rfl, Nat.zero_le _, rfl, rfl⟩
      exact turn [some 0, some 1, some 2] rfl rfl rfl ⟨⟨_, rfl, (.cons tr_v (.cons tr_v (.cons tr_v (.cons tr_v .nil))))⟩, ⟨_, rfl, trc_flat bo_sc (by rw [mixF_0]; rfl)⟩, ⟨_, rfl, trc_flat bo_sc (by rw [hph]; rfl)⟩, trivial⟩ ⟨tr_vw, tr_vw, tr_pt rfl, tr_pt rfl, tr_pt rfl, tr_v, trivial⟩
    rintro k sl H ⟨i, rfl, hi, rfl, rfl⟩
    refine w_seq ?_
    refine w_seq ?_
    refine w_reg rfl ?_
    refine v_move rfl ?_
    refine v_move rfl ?_
    refine v_nil_vw rfl ?_
    refine v_fa_vw (off' := 22) lay56 rfl rfl rfl ?_
    refine v_load_vw (.c (_)) lay54 rfl rfl rfl ?_
    refine v_len_sl lay54 rfl ?_
    refine v_lss lay3 rfl rfl (fun h4 => ?_) (fun h4 => ?_)
    rotate_left
    · obtain rfl : i = j.2.1.length := by omega
      rw [mix_g]
      refine v_nil ?_
      refine q_n ?_
      refine w_f rfl ?_
      refine w_exit ?_
      refine q_e ?_
      refine q_e ?_
      refine q_hit ?_
      refine q_n ?_
      refine w_seq ?_
      refine w_reg rfl ?_
      refine v_load_pt (.agg [_, _, _, _]) lay57 rfl rfl rfl rfl ?_
      refine v_store (H' := [⟨[_, _, _, _], 57, true⟩, _, _]) lay57 rfl rfl rfl rfl rfl rfl ?_
      refine v_nil ?_
      refine q_n ?_
      refine w_ret ?_
      refine r_r rfl ?_
      exact a_agg (.cons tr_v (.cons tr_v (.cons tr_v (.cons tr_v .nil))))
    have hi1 : i < j.2.1.length := by omega
    have hi4 : i < 4 := by omega
    have hi8 : i < 8 := by omega
    refine v_nil ?_
    refine q_n ?_
    refine w_t rfl ?_
    refine w_skip ?_
    refine q_n ?_
    refine w_seq ?_
    refine w_block ?_
    refine w_reg rfl ?_
    refine v_move rfl ?_
    refine v_move rfl ?_
    refine v_idx_arr_e (k := 1) (i) lay63 lay4 rfl rfl rfl (rfl) (hi8) ?_
    refine v_load_flat_e (enc := bo) (ys := pl (phT t j)) i 0 (.c (.v (.bool (phT t j ⟨i, hi8⟩)))) bo_len lay4 rfl rfl (by omega) hi8 (by decide) (pl_ld _ hi8 _) ?_
    refine v_idx_arr_e (k := 1) (i) lay57 lay4 rfl rfl rfl (rfl) (hi4) ?_
    refine v_store_flat (H' := [_, _, _]) i 0 (phT t j ⟨i, hi8⟩) bo_len lay4 rfl rfl rfl (by omega) (by rw [l4_len]; exact hi4) rfl rfl (rfl) rfl ?_
    refine v_nil ?_
    refine q_bn ?_
    refine q_n ?_
    refine w_reg rfl ?_
    refine v_move rfl ?_
    refine v_add lay3 rfl rfl (i64r (by omega)) ?_
    refine v_assign rfl ?_
    refine v_nil ?_
    refine q_n ?_
    refine ⟨_, _, _, ?_, ⟨i + 1, rfl, by omega, rfl, rfl⟩, by omega⟩
    exact turn [some 0, some 1, some 2] rfl rfl rfl ⟨⟨_, rfl, (.cons tr_v (.cons tr_v (.cons tr_v (.cons tr_v .nil))))⟩, ⟨_, rfl, trc_flat bo_sc (congrArg (flat bo) ((l4_set _ hi4 _).trans (congrArg l4 (mixF_putv _ _ hi4 (gi_at hi1 hi4)))))⟩, ⟨_, rfl, trc_flat bo_sc rfl⟩, trivial⟩ ⟨tr_vw, tr_vw, tr_pt rfl, tr_pt rfl, tr_pt rfl, tr_v, trivial⟩
  have hq : j.2.2.2.toNat < t.2.2.2.1.length := by have := hj.1.2; omega
  have hk := hj.2.1 _ (List.getElem_mem hq)
  obtain ⟨n, hn⟩ := cyc_nat hk
  obtain ⟨n1, n2, n3, n4, n5⟩ := ok_n hk hn
  refine v_nil ?_
  refine q_n ?_
  refine w_t rfl ?_
  refine w_seq ?_
  refine w_draw [0, 1, 3, 7, 0, 16, 48, 112, 255, 511] [⟨0, 0, []⟩, ⟨1, 0, []⟩, ⟨2, 0, []⟩, ⟨3, 0, []⟩, ⟨4, 0, []⟩, ⟨5, 0, []⟩, ⟨6, 0, []⟩, ⟨7, 0, []⟩, ⟨8, 0, []⟩, ⟨9, 0, []⟩] rfl rfl ?_
  refine d_q rfl rfl rfl rfl rfl ?_
  refine v_move rfl ?_
  refine v_nil ?_
  refine d_q rfl rfl rfl rfl rfl ?_
  refine v_nil_vw rfl ?_
  refine v_nil ?_
  refine d_q rfl rfl rfl rfl rfl ?_
  refine v_fa_vw (off' := 3) lay35 rfl rfl rfl ?_
  refine v_nil ?_
  refine d_q rfl rfl rfl rfl rfl ?_
  refine v_load_vw (.c (_)) lay33 rfl rfl rfl ?_
  refine v_nil ?_
  refine d_q rfl rfl rfl rfl rfl ?_
  refine v_move rfl ?_
  refine v_nil ?_
  refine d_q rfl rfl rfl rfl rfl ?_
  refine v_nil_vw rfl ?_
  refine v_nil ?_
  refine d_q rfl rfl rfl rfl rfl ?_
  refine v_fa_vw (off' := 24) lay56 rfl rfl rfl ?_
  refine v_nil ?_
  refine d_q rfl rfl rfl rfl rfl ?_
  refine v_load_vw (.c (.v _)) lay2 rfl rfl rfl ?_
  refine v_nil ?_
  refine d_q rfl rfl rfl rfl rfl ?_
  refine v_idx_e (k := 3) (j.2.2.2.toNat) plc_len lay33 lay68 rfl rfl rfl (rfl) rfl (by omega) (hq) ?_
  refine v_nil ?_
  refine d_q rfl rfl rfl rfl rfl ?_
  refine v_assign rfl ?_
  refine v_nil ?_
  refine d_nil ?_
  refine q_n ?_
  refine w_reg rfl ?_
  refine v_move rfl ?_
  refine v_move rfl ?_
  refine v_move rfl ?_
  refine v_nil_vw rfl ?_
  refine v_fa_vw (off' := 4) lay35 rfl rfl rfl ?_
  refine v_load_vw (.c (.v _)) lay2 rfl rfl rfl ?_
  refine v_call (cPla _ _ _ _ hk n hn hj.2.2) rfl rfl rfl (.cons vw_vw (.cons vw_v .nil)) ?_
  refine v_call (cAtS _ _ _ _ hk.1.2.1 hk.1.2.2 n5 (by have q1 := Int.emod_nonneg (t.2.2.2.2.1 - (t.2.2.2.1[j.2.2.2.toNat]).2.2) (show (n : Int) ≠ 0 by omega); have q2 := Int.emod_lt_of_pos (t.2.2.2.2.1 - (t.2.2.2.1[j.2.2.2.toNat]).2.2) (show (0 : Int) < n by omega); omega)) rfl rfl rfl (.cons vw_vw (.cons vw_v .nil)) ?_
  refine v_move_t rfl ?_
  refine v_extract_a rfl rfl ?_
  refine v_extract_c rfl rfl ?_
  refine v_store (H' := [_, _, ⟨[_, _, _, _, _, _, _, _], 63, true⟩]) lay63 rfl rfl rfl rfl rfl rfl ?_
  refine v_nil ?_
  refine q_n ?_
  refine w_seq ?_
  refine w_seq ?_
  refine w_reg rfl ?_
  refine v_assign (c := .v (.int .i64 0)) rfl ?_
  refine v_nil ?_
  refine q_n ?_
  refine w_block ?_
  refine w_loop (fun k sl H => ∃ i : Nat, k = j.2.1.length - i ∧ i ≤ j.2.1.length ∧ sl = sls [(0, .c (.vw false (twf true t) 0)), (1, .c (.vw false (joc j) 0)), (4, .c (.pt 0 0)), (5, .c (.pt 1 0)), (6, .c (.pt 2 0)), (8, cI i)] ∧ H = [⟨b4c z4, 57, true⟩, ⟨flat bo (l4 (mixF i (gIns t j) z4)), 57, true⟩, ⟨flat bo (pl (phT t j)), 63, true⟩]) ?_ ?_
  · have hph := ph_pos (t := t) (j := j) (by omega) hq hn
    refine ⟨_, _, _, ?_, 0, rfl, Nat.zero_le _, rfl, rfl⟩
    exact turn [some 0, some 1, some 2] rfl rfl rfl ⟨⟨_, rfl, (.cons tr_v (.cons tr_v (.cons tr_v (.cons tr_v .nil))))⟩, ⟨_, rfl, trc_flat bo_sc (by rw [mixF_0]; rfl)⟩, ⟨_, rfl, trc_flat bo_sc (by rw [hph]; rfl)⟩, trivial⟩ ⟨tr_vw, tr_vw, tr_pt rfl, tr_pt rfl, tr_pt rfl, tr_v, trivial⟩
  rintro k sl H ⟨i, rfl, hi, rfl, rfl⟩
  refine w_seq ?_
  refine w_seq ?_
  refine w_reg rfl ?_
  refine v_move rfl ?_
  refine v_move rfl ?_
  refine v_nil_vw rfl ?_
  refine v_fa_vw (off' := 22) lay56 rfl rfl rfl ?_
  refine v_load_vw (.c (_)) lay54 rfl rfl rfl ?_
  refine v_len_sl lay54 rfl ?_
  refine v_lss lay3 rfl rfl (fun h3 => ?_) (fun h3 => ?_)
  rotate_left
  · obtain rfl : i = j.2.1.length := by omega
    rw [mix_g]
    refine v_nil ?_
    refine q_n ?_
    refine w_f rfl ?_
    refine w_exit ?_
    refine q_e ?_
    refine q_e ?_
    refine q_hit ?_
    refine q_n ?_
    refine w_seq ?_
    refine w_reg rfl ?_
    refine v_load_pt (.agg [_, _, _, _]) lay57 rfl rfl rfl rfl ?_
    refine v_store (H' := [⟨[_, _, _, _], 57, true⟩, _, _]) lay57 rfl rfl rfl rfl rfl rfl ?_
    refine v_nil ?_
    refine q_n ?_
    refine w_ret ?_
    refine r_r rfl ?_
    exact a_agg (.cons tr_v (.cons tr_v (.cons tr_v (.cons tr_v .nil))))
  have hi1 : i < j.2.1.length := by omega
  have hi4 : i < 4 := by omega
  have hi8 : i < 8 := by omega
  refine v_nil ?_
  refine q_n ?_
  refine w_t rfl ?_
  refine w_skip ?_
  refine q_n ?_
  refine w_seq ?_
  refine w_block ?_
  refine w_reg rfl ?_
  refine v_move rfl ?_
  refine v_move rfl ?_
  refine v_idx_arr_e (k := 1) (i) lay63 lay4 rfl rfl rfl (rfl) (hi8) ?_
  refine v_load_flat_e (enc := bo) (ys := pl (phT t j)) i 0 (.c (.v (.bool (phT t j ⟨i, hi8⟩)))) bo_len lay4 rfl rfl (by omega) hi8 (by decide) (pl_ld _ hi8 _) ?_
  refine v_idx_arr_e (k := 1) (i) lay57 lay4 rfl rfl rfl (rfl) (hi4) ?_
  refine v_store_flat (H' := [_, _, _]) i 0 (phT t j ⟨i, hi8⟩) bo_len lay4 rfl rfl rfl (by omega) (by rw [l4_len]; exact hi4) rfl rfl (rfl) rfl ?_
  refine v_nil ?_
  refine q_bn ?_
  refine q_n ?_
  refine w_reg rfl ?_
  refine v_move rfl ?_
  refine v_add lay3 rfl rfl (i64r (by omega)) ?_
  refine v_assign rfl ?_
  refine v_nil ?_
  refine q_n ?_
  refine ⟨_, _, _, ?_, ⟨i + 1, rfl, by omega, rfl, rfl⟩, by omega⟩
  exact turn [some 0, some 1, some 2] rfl rfl rfl ⟨⟨_, rfl, (.cons tr_v (.cons tr_v (.cons tr_v (.cons tr_v .nil))))⟩, ⟨_, rfl, trc_flat bo_sc (congrArg (flat bo) ((l4_set _ hi4 _).trans (congrArg l4 (mixF_putv _ _ hi4 (gi_at hi1 hi4)))))⟩, ⟨_, rfl, trc_flat bo_sc rfl⟩, trivial⟩ ⟨tr_vw, tr_vw, tr_pt rfl, tr_pt rfl, tr_pt rfl, tr_v, trivial⟩
theorem cGrI (t : Tw) (j : Jo) (hB : tB (2 ^ 20) t) (hj : jOk t j) : PureC X 70 [.agg (twf false t), .agg (jof false j)] (.agg (b4c (gIns t j))) := by
  refine PureC.of_body (drawD_ok X) (fun _ _ => Go.Proofs.Tryz.call70 _ _) Go.Proofs.Tryz.func70 rfl (n := 33) rfl ?_
  have hl4 := (jok_len hj).1
  refine w_seq ?_
  refine w_reg rfl ?_
  refine v_box (m := 0) (H' := [_]) lay35 rfl rfl rfl ?_
  refine v_box (m := 1) (H' := [_, _]) lay56 rfl rfl rfl ?_
  refine v_alloc (m := 2) (H' := [_, _, ⟨[.v _, .v _, .v _, .v _], 57, true⟩]) lay57 rfl rfl ?_
  refine v_nil ?_
  refine q_n ?_
  refine w_seq ?_
  refine w_reg rfl ?_
  refine v_build_a [.v _, .v _, .v _, .v _] lay57 lay4 rfl ?_
  refine v_alloc (m := 3) (H' := [_, _, _, ⟨[.v _, .v _, .v _, .v _], 57, true⟩]) lay57 rfl rfl ?_
  refine v_store (H' := [_, _, _, ⟨[_, _, _, _], 57, true⟩]) lay57 rfl rfl rfl rfl rfl rfl ?_
  refine v_nil ?_
  refine q_n ?_
  refine w_seq ?_
  refine w_seq ?_
  refine w_reg rfl ?_
  refine v_fa_pt (off' := 22) lay56 rfl rfl rfl ?_
  refine v_load_pt (.c _) lay54 rfl rfl rfl rfl ?_
  refine v_len_sl lay54 rfl ?_
  refine v_move (c := .v (.int .i64 0)) rfl ?_
  refine v_nil ?_
  refine q_n ?_
  refine w_block ?_
  refine w_loop (fun k sl H => ∃ i : Nat, k = j.2.1.length - i ∧ i ≤ j.2.1.length ∧ sl = sls [(2, .c (.pt 0 0)), (3, .c (.pt 1 0)), (4, .c (.pt 2 0)), (5, .c (.pt 3 0)), (9, .c (ints false j.2.1)), (10, cI j.2.1.length), (11, cI i)] ∧ H = [⟨twf false t, 35, true⟩, ⟨jof false j, 56, true⟩, ⟨b4c z4, 57, true⟩, ⟨flat bo (l4 (mixF i (gIns t j) z4)), 57, true⟩]) ?_ ?_
  · refine ⟨_, _, _, ?_, 0, rfl, Nat.zero_le _, rfl, rfl⟩
    exact turn [some 0, some 1, some 2, some 3] rfl rfl rfl ⟨⟨_, rfl, .cons tr_sl (.cons tr_sl (.cons tr_sl (.cons tr_sl (.cons tr_v (.cons tr_f (.cons tr_f .nil))))))⟩, ⟨_, rfl, .cons tr_v (.cons tr_v (.cons tr_f (.cons tr_f (.cons tr_f (.cons tr_f (.cons tr_f (.cons tr_f (.cons tr_f (.cons tr_f (.cons tr_f (.cons tr_f (.cons tr_f (.cons tr_f (.cons tr_f (.cons tr_f (.cons tr_f (.cons tr_f (.cons tr_f (.cons tr_f (.cons tr_f (.cons tr_f (.cons tr_sl (.cons tr_sl (.cons tr_v .nil))))))))))))))))))))))))⟩, ⟨_, rfl, (.cons tr_v (.cons tr_v (.cons tr_v (.cons tr_v .nil))))⟩, ⟨_, rfl, trc_flat bo_sc (by rw [mixF_0]; rfl)⟩, trivial⟩ ⟨tr_pt rfl, tr_pt rfl, tr_pt rfl, tr_pt rfl, tr_sl, tr_v, tr_v, trivial⟩
  rintro k sl H ⟨i, rfl, hi, rfl, rfl⟩
  refine w_seq ?_
  refine w_reg rfl ?_
  refine v_lss lay3 rfl rfl (fun h1 => ?_) (fun h1 => ?_)
  rotate_left
  · obtain rfl : i = j.2.1.length := by omega
    rw [mix_g]
    refine v_nil ?_
    refine q_n ?_
    refine w_seq ?_
    refine w_f rfl ?_
    refine w_exit ?_
    refine q_e ?_
    refine q_e ?_
    refine q_hit ?_
    refine q_n ?_
    refine w_seq ?_
    refine w_reg rfl ?_
    refine v_load_pt (.agg [_, _, _, _]) lay57 rfl rfl rfl rfl ?_
    refine v_store (H' := [_, _, ⟨[_, _, _, _], 57, true⟩, _]) lay57 rfl rfl rfl rfl rfl rfl ?_
    refine v_nil ?_
    refine q_n ?_
    refine w_ret ?_
    refine r_r rfl ?_
    exact a_agg (.cons tr_v (.cons tr_v (.cons tr_v (.cons tr_v .nil))))
  have hi1 : i < j.2.1.length := by omega
  have hi4 : i < 4 := by omega
  have hi8 : i < 8 := by omega
  refine v_nil ?_
  refine q_n ?_
  refine w_seq ?_
  refine w_t rfl ?_
  refine w_skip ?_
  refine q_n ?_
  refine w_seq ?_
  refine w_block ?_
  refine w_seq ?_
  refine w_reg rfl ?_
  refine v_move rfl ?_
  refine v_assign rfl ?_
  refine v_nil ?_
  refine q_n ?_
  refine w_draw [0, 0, 2, 6, 14, 30, 62, 30, 158, 510, 1022, 30, 30, 4126, 16382, 32766, 65535, 131071] [⟨0, 0, []⟩, ⟨1, 0, []⟩, ⟨2, 0, []⟩, ⟨3, 0, []⟩, ⟨4, 0, []⟩, ⟨5, 0, []⟩, ⟨6, 0, []⟩, ⟨7, 0, []⟩, ⟨8, 0, []⟩, ⟨9, 0, []⟩, ⟨10, 0, []⟩, ⟨11, 0, []⟩, ⟨12, 0, []⟩, ⟨13, 0, []⟩, ⟨14, 0, []⟩, ⟨15, 0, []⟩, ⟨16, 0, []⟩, ⟨17, 1, []⟩] rfl rfl ?_
  refine d_q rfl rfl rfl rfl rfl ?_
  refine v_move rfl ?_
  refine v_nil ?_
  refine d_q rfl rfl rfl rfl rfl ?_
  refine v_fa_pt (off' := 24) lay56 rfl rfl rfl ?_
  refine v_nil ?_
  refine d_q rfl rfl rfl rfl rfl ?_
  refine v_load_pt (.c _) lay2 rfl rfl rfl rfl ?_
  refine v_nil ?_
  refine d_q rfl rfl rfl rfl rfl ?_
  refine v_lss lay2 rfl rfl (fun h2 => ?_) (fun h2 => ?_)
  · have hpl := h2
    refine v_nil ?_
    refine d_q rfl rfl rfl rfl rfl ?_
    refine v_move rfl ?_
    refine v_nil ?_
    refine d_off rfl rfl ?_
    refine d_off rfl rfl ?_
    refine d_off rfl rfl ?_
    refine d_off rfl rfl ?_
    refine d_off rfl rfl ?_
    refine d_off rfl rfl ?_
    refine d_off rfl rfl ?_
    refine d_off rfl rfl ?_
    refine d_off rfl rfl ?_
    refine d_off rfl rfl ?_
    refine d_q rfl rfl rfl rfl rfl ?_
    refine v_pick_t (v := .v (.bool true)) rfl rfl ?_
    refine v_nil ?_
    refine d_q rfl rfl rfl rfl rfl ?_
    refine v_idx_arr_e (k := 1) (i) lay57 lay4 rfl rfl rfl (rfl) (hi4) ?_
    refine v_nil ?_
    refine d_e rfl rfl rfl ?_
    refine v_store_flat (H' := [_, _, _, _]) i 0 (true) bo_len lay4 rfl rfl rfl (by omega) (by rw [l4_len]; exact hi4) rfl rfl (rfl) rfl ?_
    refine v_nil ⟨again_nil, ?_⟩
    refine d_nil ?_
    refine q_bn ?_
    refine q_n ?_
    refine w_reg rfl ?_
    refine v_add lay3 rfl rfl (i64r (by omega)) ?_
    refine v_move rfl ?_
    refine v_nil ?_
    refine q_n ?_
    have e : gIns t j ⟨i, hi4⟩ = true := by rw [gi_at hi1 hi4, ph_neg hpl]
    refine ⟨_, _, _, ?_, ⟨i + 1, rfl, by omega, rfl, rfl⟩, by omega⟩
    exact turn [some 0, some 1, some 2, some 3] rfl rfl rfl ⟨⟨_, rfl, .cons tr_sl (.cons tr_sl (.cons tr_sl (.cons tr_sl (.cons tr_v (.cons tr_f (.cons tr_f .nil))))))⟩, ⟨_, rfl, .cons tr_v (.cons tr_v (.cons tr_f (.cons tr_f (.cons tr_f (.cons tr_f (.cons tr_f (.cons tr_f (.cons tr_f (.cons tr_f (.cons tr_f (.cons tr_f (.cons tr_f (.cons tr_f (.cons tr_f (.cons tr_f (.cons tr_f (.cons tr_f (.cons tr_f (.cons tr_f (.cons tr_f (.cons tr_f (.cons tr_sl (.cons tr_sl (.cons tr_v .nil))))))))))))))))))))))))⟩, ⟨_, rfl, (.cons tr_v (.cons tr_v (.cons tr_v (.cons tr_v .nil))))⟩, ⟨_, rfl, trc_flat bo_sc (congrArg (flat bo) ((l4_set _ hi4 _).trans (congrArg l4 (mixF_putv _ _ hi4 e))))⟩, trivial⟩ ⟨tr_pt rfl, tr_pt rfl, tr_pt rfl, tr_pt rfl, tr_sl, tr_v, tr_v, trivial⟩
  have hpl := h2
  have hq : j.2.2.2.toNat < t.2.2.2.1.length := by have := hj.1.2; omega
  have hk := hj.2.1 _ (List.getElem_mem hq)
  obtain ⟨n, hn⟩ := cyc_nat hk
  obtain ⟨n1, n2, n3, n4, n5⟩ := ok_n hk hn
  refine v_nil ?_
  refine d_q rfl rfl rfl rfl rfl ?_
  refine v_move rfl ?_
  refine v_nil ?_
  refine d_q rfl rfl rfl rfl rfl ?_
  refine v_fa_pt (off' := 3) lay35 rfl rfl rfl ?_
  refine v_nil ?_
  refine d_q rfl rfl rfl rfl rfl ?_
  refine v_load_pt (.c _) lay33 rfl rfl rfl rfl ?_
  refine v_nil ?_
  refine d_q rfl rfl rfl rfl rfl ?_
  refine v_fa_pt (off' := 24) lay56 rfl rfl rfl ?_
  refine v_nil ?_
  refine d_q rfl rfl rfl rfl rfl ?_
  refine v_load_pt (.c _) lay2 rfl rfl rfl rfl ?_
  refine v_nil ?_
  refine d_q rfl rfl rfl rfl rfl ?_
  refine v_idx_e (k := 3) (j.2.2.2.toNat) plc_len lay33 lay68 rfl rfl rfl (rfl) rfl (by omega) (hq) ?_
  refine v_nil ?_
  refine d_q rfl rfl rfl rfl rfl ?_
  refine v_load_vw (.agg [_, .v _, .v _]) lay68 rfl rfl rfl ?_
  refine v_nil ?_
  refine d_q rfl rfl rfl rfl rfl ?_
  refine v_move rfl ?_
  refine v_nil ?_
  refine d_q rfl rfl rfl rfl rfl ?_
  refine v_fa_pt (off' := 4) lay35 rfl rfl rfl ?_
  refine v_nil ?_
  refine d_q rfl rfl rfl rfl rfl ?_
  refine v_load_pt (.c _) lay2 rfl rfl rfl rfl ?_
  refine v_nil ?_
  refine d_callb (cIsG _ _ _ t.2.2.2.2.1 hk i n hn hi8 hj.2.2) rfl rfl rfl rfl (.cons (vw_agg (.cons vw_sl (.cons vw_v (.cons vw_v .nil)))) (.cons vw_v (.cons vw_v .nil))) (fun h4 => ?_) (fun h4 => ?_)
  · have hgr := h4
    refine d_q rfl rfl rfl rfl rfl ?_
    refine v_pick_f rfl rfl ?_
    refine v_nil ?_
    refine d_q rfl rfl rfl rfl rfl ?_
    refine v_idx_arr_e (k := 1) (i) lay57 lay4 rfl rfl rfl (rfl) (hi4) ?_
    refine v_nil ?_
    refine d_e rfl rfl rfl ?_
    refine v_store_flat (H' := [_, _, _, _]) i 0 (true) bo_len lay4 rfl rfl rfl (by omega) (by rw [l4_len]; exact hi4) rfl rfl (rfl) rfl ?_
    refine v_nil ⟨again_nil, ?_⟩
    refine d_nil ?_
    refine q_bn ?_
    refine q_n ?_
    refine w_reg rfl ?_
    refine v_add lay3 rfl rfl (i64r (by omega)) ?_
    refine v_move rfl ?_
    refine v_nil ?_
    refine q_n ?_
    have e : gIns t j ⟨i, hi4⟩ = true := by rw [gi_at hi1 hi4, ph_pos hpl hq hn, gr_eq hi8]; exact hgr
    refine ⟨_, _, _, ?_, ⟨i + 1, rfl, by omega, rfl, rfl⟩, by omega⟩
    exact turn [some 0, some 1, some 2, some 3] rfl rfl rfl ⟨⟨_, rfl, .cons tr_sl (.cons tr_sl (.cons tr_sl (.cons tr_sl (.cons tr_v (.cons tr_f (.cons tr_f .nil))))))⟩, ⟨_, rfl, .cons tr_v (.cons tr_v (.cons tr_f (.cons tr_f (.cons tr_f (.cons tr_f (.cons tr_f (.cons tr_f (.cons tr_f (.cons tr_f (.cons tr_f (.cons tr_f (.cons tr_f (.cons tr_f (.cons tr_f (.cons tr_f (.cons tr_f (.cons tr_f (.cons tr_f (.cons tr_f (.cons tr_f (.cons tr_f (.cons tr_sl (.cons tr_sl (.cons tr_v .nil))))))))))))))))))))))))⟩, ⟨_, rfl, (.cons tr_v (.cons tr_v (.cons tr_v (.cons tr_v .nil))))⟩, ⟨_, rfl, trc_flat bo_sc (congrArg (flat bo) ((l4_set _ hi4 _).trans (congrArg l4 (mixF_putv _ _ hi4 e))))⟩, trivial⟩ ⟨tr_pt rfl, tr_pt rfl, tr_pt rfl, tr_pt rfl, tr_sl, tr_v, tr_v, trivial⟩
  have hgr := h4
  refine d_q rfl rfl rfl rfl rfl ?_
  refine v_pick_f rfl rfl ?_
  refine v_nil ?_
  refine d_q rfl rfl rfl rfl rfl ?_
  refine v_idx_arr_e (k := 1) (i) lay57 lay4 rfl rfl rfl (rfl) (hi4) ?_
  refine v_nil ?_
  refine d_e rfl rfl rfl ?_
  refine v_store_flat (H' := [_, _, _, _]) i 0 (false) bo_len lay4 rfl rfl rfl (by omega) (by rw [l4_len]; exact hi4) rfl rfl (rfl) rfl ?_
  refine v_nil ⟨again_nil, ?_⟩
  refine d_nil ?_
  refine q_bn ?_
  refine q_n ?_
  refine w_reg rfl ?_
  refine v_add lay3 rfl rfl (i64r (by omega)) ?_
  refine v_move rfl ?_
  refine v_nil ?_
  refine q_n ?_
  have e : gIns t j ⟨i, hi4⟩ = false := by rw [gi_at hi1 hi4, ph_pos hpl hq hn, gr_eq hi8]; exact Bool.eq_false_iff.2 hgr
  refine ⟨_, _, _, ?_, ⟨i + 1, rfl, by omega, rfl, rfl⟩, by omega⟩
  exact turn [some 0, some 1, some 2, some 3] rfl rfl rfl ⟨⟨_, rfl, .cons tr_sl (.cons tr_sl (.cons tr_sl (.cons tr_sl (.cons tr_v (.cons tr_f (.cons tr_f .nil))))))⟩, ⟨_, rfl, .cons tr_v (.cons tr_v (.cons tr_f (.cons tr_f (.cons tr_f (.cons tr_f (.cons tr_f (.cons tr_f (.cons tr_f (.cons tr_f (.cons tr_f (.cons tr_f (.cons tr_f (.cons tr_f (.cons tr_f (.cons tr_f (.cons tr_f (.cons tr_f (.cons tr_f (.cons tr_f (.cons tr_f (.cons tr_f (.cons tr_sl (.cons tr_sl (.cons tr_v .nil))))))))))))))))))))))))⟩, ⟨_, rfl, (.cons tr_v (.cons tr_v (.cons tr_v (.cons tr_v .nil))))⟩, ⟨_, rfl, trc_flat bo_sc (congrArg (flat bo) ((l4_set _ hi4 _).trans (congrArg l4 (mixF_putv _ _ hi4 e))))⟩, trivial⟩ ⟨tr_pt rfl, tr_pt rfl, tr_pt rfl, tr_pt rfl, tr_sl, tr_v, tr_v, trivial⟩
theorem cJcS (t : Tw) (a : Int) (hB : tB (2 ^ 20) t) (hF : tF t) : PureC X 72 [.c (.vw false (twf true t) 0), cI a] (cI (jcode t a)) := by
  refine PureC.of_body (drawD_ok X) (fun _ _ => Go.Proofs.Tryz.call72 _ _) Go.Proofs.Tryz.func72 rfl (n := 17) rfl ?_
  refine w_seq ?_
  refine w_reg rfl ?_
  refine v_assign (c := .v (.int .i64 0)) rfl ?_
  refine v_nil ?_
  refine q_n ?_
  refine w_seq ?_
  refine w_seq ?_
  refine w_reg rfl ?_
  refine v_move rfl ?_
  refine v_callb (cTwS t hB hF) rfl rfl (.cons vw_vw .nil) (fun h1 => ?_) (fun h1 => ?_)
  rotate_left
  · refine v_not true rfl rfl ?_
    refine v_nil ?_
    refine q_n ?_
    refine w_t rfl ?_
    refine w_seq ?_
    refine w_reg rfl ?_
    refine v_assign (c := .v (.int .i64 1)) rfl ?_
    refine v_nil ?_
    refine q_n ?_
    refine w_ret (q_r ?_)
    refine r_r rfl ?_
    exact a_i (by unfold jcode jIn; simp [h1])
  refine v_not false rfl rfl ?_
  refine v_nil ?_
  refine q_n ?_
  refine w_f rfl ?_
  refine w_skip ?_
  refine q_n ?_
  refine w_seq ?_
  refine w_seq ?_
  refine w_reg rfl ?_
  refine v_move rfl ?_
  refine v_move rfl ?_
  refine v_nil_vw rfl ?_
  refine v_fa_vw (off' := 2) lay35 rfl rfl rfl ?_
  refine v_load_vw (.c (_)) lay32 rfl rfl rfl ?_
  refine v_len_sl lay32 rfl ?_
  refine v_sub lay2 rfl rfl (i64r (by have q1 := hB.2.2.1; omega)) ?_
  refine v_callb (cIn _ _ _) rfl rfl (.cons vw_v (.cons vw_v (.cons vw_v .nil))) (fun h2 => ?_) (fun h2 => ?_)
  rotate_left
  · refine v_not true rfl rfl ?_
    refine v_nil ?_
    refine q_n ?_
    refine w_t rfl ?_
    refine w_seq ?_
    refine w_reg rfl ?_
    refine v_assign (c := .v (.int .i64 2)) rfl ?_
    refine v_nil ?_
    refine q_n ?_
    refine w_ret (q_r ?_)
    refine r_r rfl ?_
    exact a_i (by unfold jcode jIn; simp [h1, h2])
  refine v_not false rfl rfl ?_
  refine v_nil ?_
  refine q_n ?_
  refine w_f rfl ?_
  refine w_skip ?_
  refine q_n ?_
  refine w_seq ?_
  refine w_reg rfl ?_
  refine v_assign (c := .v (.int .i64 0)) rfl ?_
  refine v_nil ?_
  refine q_n ?_
  refine w_ret ?_
  refine r_r rfl ?_
  exact a_i (by unfold jcode jIn; simp [h1, h2])
theorem cJcI (t : Tw) (a : Int) (hB : tB (2 ^ 20) t) (hF : tF t) : PureC X 69 [.agg (twf false t), cI a] (cI (jcode t a)) := by
  refine PureC.of_body (drawD_ok X) (fun _ _ => Go.Proofs.Tryz.call69 _ _) Go.Proofs.Tryz.func69 rfl (n := 18) rfl ?_
  refine w_seq ?_
  refine w_reg rfl ?_
  refine v_box (m := 0) (H' := [_]) lay35 rfl rfl rfl ?_
  refine v_assign (c := .v (.int .i64 0)) rfl ?_
  refine v_nil ?_
  refine q_n ?_
  refine w_seq ?_
  refine w_draw [0, 1, 3, 7, 0, 0, 32, 96, 255, 511, 1023, 2047, 4095, 8191] [⟨0, 0, []⟩, ⟨1, 0, []⟩, ⟨2, 0, []⟩, ⟨3, 0, []⟩, ⟨4, 0, []⟩, ⟨5, 0, []⟩, ⟨6, 0, []⟩, ⟨7, 0, []⟩, ⟨8, 0, []⟩, ⟨9, 0, []⟩, ⟨10, 0, []⟩, ⟨11, 2, []⟩, ⟨12, 0, []⟩, ⟨13, 0, []⟩] rfl rfl ?_
  refine d_q rfl rfl rfl rfl rfl ?_
  refine v_load_pt (.agg [_, _, _, _, _, _, _]) lay35 rfl rfl rfl rfl ?_
  refine v_nil ?_
  refine d_callb (cVtI2 t hB hF) rfl rfl rfl rfl (.cons (vw_agg (.cons vw_sl (.cons vw_sl (.cons vw_sl (.cons vw_sl (.cons vw_v (.cons vw_f (.cons vw_f .nil)))))))) .nil) (fun h1 => ?_) (fun h1 => ?_)
  rotate_left
  · refine d_q rfl rfl rfl rfl rfl ?_
    refine v_not true rfl rfl ?_
    refine v_nil ?_
    refine d_call (cCodeIf _ _) rfl rfl rfl rfl rfl (.cons vw_v (.cons vw_v .nil)) ?_
    refine d_q rfl rfl rfl rfl rfl ?_
    refine v_move rfl ?_
    refine v_nil ?_
    refine d_q rfl rfl rfl rfl rfl ?_
    refine v_fa_pt (off' := 2) lay35 rfl rfl rfl ?_
    refine v_nil ?_
    refine d_q rfl rfl rfl rfl rfl ?_
    refine v_load_pt (.c _) lay32 rfl rfl rfl rfl ?_
    refine v_nil ?_
    refine d_q rfl rfl rfl rfl rfl ?_
    refine v_len_sl lay32 rfl ?_
    refine v_nil ?_
    refine d_callb (cPlace _ _ (by have q1 := hB.2.2.1; omega)) rfl rfl rfl rfl (.cons vw_v (.cons vw_v .nil)) (fun h3 => ?_) (fun h3 => ?_)
    rotate_left
    · refine d_q rfl rfl rfl rfl rfl ?_
      refine v_not true rfl rfl ?_
      refine v_nil ?_
      refine d_call (cCodeIf _ _) rfl rfl rfl rfl rfl (.cons vw_v (.cons vw_v .nil)) ?_
      refine d_z (.c (.sl true 2 1 (flat int [_, _]))) rfl rfl rfl ?_
      refine d_call (cFirst [_, _] (Nat.le_of_ble_eq_true rfl)) rfl rfl rfl rfl rfl (.cons vw_sl .nil) ?_
      refine d_q rfl rfl rfl rfl rfl ?_
      refine v_assign rfl ?_
      refine v_nil ?_
      refine d_nil ?_
      refine q_n ?_
      refine w_ret ?_
      refine r_r rfl ?_
      exact a_i (by unfold jcode jIn; first | (simp [h1, firstNZ]; done) | simp [h1, h2, firstNZ])
    refine d_q rfl rfl rfl rfl rfl ?_
    refine v_not false rfl rfl ?_
    refine v_nil ?_
    refine d_call (cCodeIf _ _) rfl rfl rfl rfl rfl (.cons vw_v (.cons vw_v .nil)) ?_
    refine d_z (.c (.sl true 2 1 (flat int [_, _]))) rfl rfl rfl ?_
    refine d_call (cFirst [_, _] (Nat.le_of_ble_eq_true rfl)) rfl rfl rfl rfl rfl (.cons vw_sl .nil) ?_
    refine d_q rfl rfl rfl rfl rfl ?_
    refine v_assign rfl ?_
    refine v_nil ?_
    refine d_nil ?_
    refine q_n ?_
    refine w_ret ?_
    refine r_r rfl ?_
    exact a_i (by unfold jcode jIn; first | (simp [h1, firstNZ]; done) | simp [h1, h2, firstNZ])
  refine d_q rfl rfl rfl rfl rfl ?_
  refine v_not false rfl rfl ?_
  refine v_nil ?_
  refine d_call (cCodeIf _ _) rfl rfl rfl rfl rfl (.cons vw_v (.cons vw_v .nil)) ?_
  refine d_q rfl rfl rfl rfl rfl ?_
  refine v_move rfl ?_
  refine v_nil ?_
  refine d_q rfl rfl rfl rfl rfl ?_
  refine v_fa_pt (off' := 2) lay35 rfl rfl rfl ?_
  refine v_nil ?_
  refine d_q rfl rfl rfl rfl rfl ?_
  refine v_load_pt (.c _) lay32 rfl rfl rfl rfl ?_
  refine v_nil ?_
  refine d_q rfl rfl rfl rfl rfl ?_
  refine v_len_sl lay32 rfl ?_
  refine v_nil ?_
  refine d_callb (cPlace _ _ (by have q1 := hB.2.2.1; omega)) rfl rfl rfl rfl (.cons vw_v (.cons vw_v .nil)) (fun h2 => ?_) (fun h2 => ?_)
  rotate_left
  · refine d_q rfl rfl rfl rfl rfl ?_
    refine v_not true rfl rfl ?_
    refine v_nil ?_
    refine d_call (cCodeIf _ _) rfl rfl rfl rfl rfl (.cons vw_v (.cons vw_v .nil)) ?_
    refine d_z (.c (.sl true 2 1 (flat int [_, _]))) rfl rfl rfl ?_
    refine d_call (cFirst [_, _] (Nat.le_of_ble_eq_true rfl)) rfl rfl rfl rfl rfl (.cons vw_sl .nil) ?_
    refine d_q rfl rfl rfl rfl rfl ?_
    refine v_assign rfl ?_
    refine v_nil ?_
    refine d_nil ?_
    refine q_n ?_
    refine w_ret ?_
    refine r_r rfl ?_
    exact a_i (by unfold jcode jIn; first | (simp [h1, firstNZ]; done) | simp [h1, h2, firstNZ])
  refine d_q rfl rfl rfl rfl rfl ?_
  refine v_not false rfl rfl ?_
  refine v_nil ?_
  refine d_call (cCodeIf _ _) rfl rfl rfl rfl rfl (.cons vw_v (.cons vw_v .nil)) ?_
  refine d_z (.c (.sl true 2 1 (flat int [_, _]))) rfl rfl rfl ?_
  refine d_call (cFirst [_, _] (Nat.le_of_ble_eq_true rfl)) rfl rfl rfl rfl rfl (.cons vw_sl .nil) ?_
  refine d_q rfl rfl rfl rfl rfl ?_
  refine v_assign rfl ?_
  refine v_nil ?_
  refine d_nil ?_
  refine q_n ?_
  refine w_ret ?_
  refine r_r rfl ?_
  exact a_i (by unfold jcode jIn; first | (simp [h1, firstNZ]; done) | simp [h1, h2, firstNZ])
theorem cGiS (t : Tw) (a : Int) (hB : tB (2 ^ 20) t) (hF : tF t) : PureC X 30 [.agg (twf false t), cI a] (.tup [.agg (b4c (ginW t a)), cI (jcode t a)]) := by
  refine PureC.of_body (drawD_ok X) (fun _ _ => Go.Proofs.Tryz.call30 _ _) Go.Proofs.Tryz.func30 rfl (n := 18) rfl ?_
  refine w_seq ?_
  refine w_reg rfl ?_
  refine v_box (m := 0) (H' := [_]) lay35 rfl rfl rfl ?_
  refine v_alloc (m := 1) (H' := [_, ⟨[.v _, .v _, .v _, .v _], 57, true⟩]) lay57 rfl rfl ?_
  refine v_assign (c := .v (.int .i64 0)) rfl ?_
  refine v_nil ?_
  refine q_n ?_
  refine w_seq ?_
  refine w_seq ?_
  refine w_reg rfl ?_
  refine v_move rfl ?_
  refine v_call (cJcS t _ hB hF) rfl rfl rfl (.cons (vw_pt rfl (.cons (.sl (fun h => by cases h)) (.cons (.sl (fun h => by cases h)) (.cons (.sl (fun h => by cases h)) (.cons (.sl (fun h => by cases h)) (.cons .v (.cons .f (.cons .f .nil)))))))) (.cons vw_v .nil)) ?_
  refine v_assign rfl ?_
  refine v_nil ?_
  refine q_n ?_
  refine w_seq ?_
  refine w_reg rfl ?_
  refine v_move rfl ?_
  refine v_neq lay2 rfl rfl (fun h1 => ?_) (fun h1 => ?_)
  · refine v_nil ?_
    refine q_n ?_
    refine w_t rfl ?_
    refine w_seq ?_
    refine w_reg rfl ?_
    refine v_build_a [.v _, .v _, .v _, .v _] lay57 lay4 rfl ?_
    refine v_move rfl ?_
    refine v_store (H' := [_, ⟨[_, _, _, _], 57, true⟩]) lay57 rfl rfl rfl rfl rfl rfl ?_
    refine v_assign rfl ?_
    refine v_nil ?_
    refine q_n ?_
    refine w_ret (q_r ?_)
    refine r_r rfl ?_
    rw [gw_no h1]
    exact a_tup (.cons (a_agg (.cons tr_v (.cons tr_v (.cons tr_v (.cons tr_v .nil))))) (.cons tr_v .nil))
  obtain ⟨ho, ha⟩ := jc_ok h1
  have ha2 := ha
  unfold jIn at ha2
  have hq : a.toNat < t.2.2.1.length := by omega
  have hj := jok_of ho hq
  refine v_nil ?_
  refine q_n ?_
  refine w_f rfl ?_
  refine w_skip ?_
  refine q_n ?_
  refine w_seq ?_
  refine w_reg rfl ?_
  refine v_fa_pt (off' := 2) lay35 rfl rfl rfl ?_
  refine v_load_pt (.c _) lay32 rfl rfl rfl rfl ?_
  refine v_move rfl ?_
  refine v_idx_e (k := 25) (a.toNat) joc_len lay32 lay56 rfl rfl rfl (rfl) rfl (by omega) (hq) ?_
  refine v_call (cGrS t _ hB hj) rfl rfl rfl (.cons (vw_pt rfl (.cons (.sl (fun h => by cases h)) (.cons (.sl (fun h => by cases h)) (.cons (.sl (fun h => by cases h)) (.cons (.sl (fun h => by cases h)) (.cons .v (.cons .f (.cons .f .nil)))))))) (.cons vw_vw .nil)) ?_
  refine v_store (H' := [_, ⟨[_, _, _, _], 57, true⟩]) lay57 rfl rfl rfl rfl rfl rfl ?_
  refine v_assign (c := .v (.int .i64 0)) rfl ?_
  refine v_nil ?_
  refine q_n ?_
  refine w_ret ?_
  refine r_r rfl ?_
  rw [gw_ok (hq := hq) h1, jc_0 ho ha]
  exact a_tup (.cons (a_agg (.cons tr_v (.cons tr_v (.cons tr_v (.cons tr_v .nil))))) (.cons tr_v .nil))
theorem cGiI (t : Tw) (a : Int) (hB : tB (2 ^ 20) t) (hF : tF t) : PureC X 23 [.agg (twf false t), cI a] (.tup [.agg (b4c (ginW t a)), cI (jcode t a)]) := by
  refine PureC.of_body (drawD_ok X) (fun _ _ => Go.Proofs.Tryz.call23 _ _) Go.Proofs.Tryz.func23 rfl (n := 21) rfl ?_
  refine w_seq ?_
  refine w_reg rfl ?_
  refine v_box (m := 0) (H' := [_]) lay35 rfl rfl rfl ?_
  refine v_alloc (m := 1) (H' := [_, ⟨[.v _, .v _, .v _, .v _], 57, true⟩]) lay57 rfl rfl ?_
  refine v_assign (c := .v (.int .i64 0)) rfl ?_
  refine v_nil ?_
  refine q_n ?_
  refine w_seq ?_
  refine w_seq ?_
  refine w_reg rfl ?_
  refine v_load_pt (.agg [_, _, _, _, _, _, _]) lay35 rfl rfl rfl rfl ?_
  refine v_move rfl ?_
  refine v_call (cJcI t _ hB hF) rfl rfl rfl (.cons (vw_agg (.cons vw_sl (.cons vw_sl (.cons vw_sl (.cons vw_sl (.cons vw_v (.cons vw_f (.cons vw_f .nil)))))))) (.cons vw_v .nil)) ?_
  refine v_assign rfl ?_
  refine v_nil ?_
  refine q_n ?_
  refine w_seq ?_
  refine w_reg rfl ?_
  refine v_move rfl ?_
  refine v_neq lay2 rfl rfl (fun h1 => ?_) (fun h1 => ?_)
  · refine v_nil ?_
    refine q_n ?_
    refine w_t rfl ?_
    refine w_seq ?_
    refine w_reg rfl ?_
    refine v_build_a [.v _, .v _, .v _, .v _] lay57 lay4 rfl ?_
    refine v_move rfl ?_
    refine v_store (H' := [_, ⟨[_, _, _, _], 57, true⟩]) lay57 rfl rfl rfl rfl rfl rfl ?_
    refine v_assign rfl ?_
    refine v_nil ?_
    refine q_n ?_
    refine w_ret (q_r ?_)
    refine r_r rfl ?_
    rw [gw_no h1]
    exact a_tup (.cons (a_agg (.cons tr_v (.cons tr_v (.cons tr_v (.cons tr_v .nil))))) (.cons tr_v .nil))
  obtain ⟨ho, ha⟩ := jc_ok h1
  have ha2 := ha
  unfold jIn at ha2
  have hq : a.toNat < t.2.2.1.length := by omega
  have hj := jok_of ho hq
  refine v_nil ?_
  refine q_n ?_
  refine w_f rfl ?_
  refine w_skip ?_
  refine q_n ?_
  refine w_seq ?_
  refine w_draw [0, 0, 2, 0, 14, 30, 63, 127, 255] [⟨0, 0, []⟩, ⟨1, 0, []⟩, ⟨2, 0, []⟩, ⟨3, 0, []⟩, ⟨4, 0, []⟩, ⟨5, 0, []⟩, ⟨6, 0, []⟩, ⟨7, 1, []⟩, ⟨8, 0, []⟩] rfl rfl ?_
  refine d_q rfl rfl rfl rfl rfl ?_
  refine v_load_pt (.agg [_, _, _, _, _, _, _]) lay35 rfl rfl rfl rfl ?_
  refine v_nil ?_
  refine d_q rfl rfl rfl rfl rfl ?_
  refine v_fa_pt (off' := 2) lay35 rfl rfl rfl ?_
  refine v_nil ?_
  refine d_q rfl rfl rfl rfl rfl ?_
  refine v_load_pt (.c _) lay32 rfl rfl rfl rfl ?_
  refine v_nil ?_
  refine d_q rfl rfl rfl rfl rfl ?_
  refine v_move rfl ?_
  refine v_nil ?_
  refine d_q rfl rfl rfl rfl rfl ?_
  refine v_idx_e (k := 25) (a.toNat) joc_len lay32 lay56 rfl rfl rfl (rfl) rfl (by omega) (hq) ?_
  refine v_nil ?_
  refine d_q rfl rfl rfl rfl rfl ?_
  refine v_load_vw (.agg [.v _, .v _, .f _ _, .f _ _, .f _ _, .f _ _, .f _ _, .f _ _, .f _ _, .f _ _, .f _ _, .f _ _, .f _ _, .f _ _, .f _ _, .f _ _, .f _ _, .f _ _, .f _ _, .f _ _, .f _ _, .f _ _, _, _, .v _]) lay56 rfl rfl rfl ?_
  refine v_nil ?_
  refine d_call (cGrI t _ hB hj) rfl rfl rfl rfl rfl (.cons (vw_agg (.cons vw_sl (.cons vw_sl (.cons vw_sl (.cons vw_sl (.cons vw_v (.cons vw_f (.cons vw_f .nil)))))))) (.cons (vw_agg (.cons vw_v (.cons vw_v (.cons vw_f (.cons vw_f (.cons vw_f (.cons vw_f (.cons vw_f (.cons vw_f (.cons vw_f (.cons vw_f (.cons vw_f (.cons vw_f (.cons vw_f (.cons vw_f (.cons vw_f (.cons vw_f (.cons vw_f (.cons vw_f (.cons vw_f (.cons vw_f (.cons vw_f (.cons vw_f (.cons vw_sl (.cons vw_sl (.cons vw_v .nil)))))))))))))))))))))))))) .nil)) ?_
  refine d_e rfl rfl rfl ?_
  refine v_store (H' := [_, ⟨[_, _, _, _], 57, true⟩]) lay57 rfl rfl rfl rfl rfl rfl ?_
  refine v_nil ⟨again_nil, ?_⟩
  refine d_q rfl rfl rfl rfl rfl ?_
  refine v_assign (c := .v (.int .i64 0)) rfl ?_
  refine v_nil ?_
  refine d_nil ?_
  refine q_n ?_
  refine w_ret ?_
  refine r_r rfl ?_
  rw [gw_ok (hq := hq) h1, jc_0 ho ha]
  exact a_tup (.cons (a_agg (.cons tr_v (.cons tr_v (.cons tr_v (.cons tr_v .nil))))) (.cons tr_v .nil))
theorem cEqB4 (g : Fin 4 → Bool) : PureC X 31 [.agg (b4c g), .agg (b4c g)] (cB (decide True)) := by
  refine PureC.of_body (drawD_ok X) (fun _ _ => Go.Proofs.Tryz.call31 _ _) Go.Proofs.Tryz.func31 rfl (n := 17) rfl ?_
  refine w_seq ?_
  refine w_reg rfl ?_
  refine v_box (m := 0) (H' := [_]) lay57 rfl rfl rfl ?_
  refine v_box (m := 1) (H' := [_, _]) lay57 rfl rfl rfl ?_
  refine v_assign (c := .v (.bool false)) rfl ?_
  refine v_nil ?_
  refine q_n ?_
  refine w_seq ?_
  refine w_seq ?_
  refine w_reg rfl ?_
  refine v_assign (c := .v (.int .i64 0)) rfl ?_
  refine v_nil ?_
  refine q_n ?_
  refine w_block ?_
  refine w_loop (fun k sl H => ∃ i : Nat, k = 4 - i ∧ i ≤ 4 ∧ sl = sls [(2, .c (.pt 0 0)), (3, .c (.pt 1 0)), (5, cI i)] ∧ H = [⟨flat bo (l4 g), 57, true⟩, ⟨flat bo (l4 g), 57, true⟩]) ?_ ?_
  · refine ⟨_, _, _, ?_, 0, rfl, Nat.zero_le _, rfl, rfl⟩
    exact turn [some 0, some 1] rfl rfl rfl ⟨⟨_, rfl, trc_flat bo_sc rfl⟩, ⟨_, rfl, trc_flat bo_sc rfl⟩, trivial⟩ ⟨tr_pt rfl, tr_pt rfl, tr_v, trivial⟩
  rintro k sl H ⟨i, rfl, hi, rfl, rfl⟩
  refine w_seq ?_
  refine w_seq ?_
  refine w_reg rfl ?_
  refine v_move rfl ?_
  refine v_lss lay3 rfl rfl (fun h1 => ?_) (fun h1 => ?_)
  rotate_left
  · refine v_nil ?_
    refine q_n ?_
    refine w_f rfl ?_
    refine w_exit ?_
    refine q_e ?_
    refine q_e ?_
    refine q_hit ?_
    refine q_n ?_
    refine w_seq ?_
    refine w_reg rfl ?_
    refine v_assign (c := .v (.bool true)) rfl ?_
    refine v_nil ?_
    refine q_n ?_
    refine w_ret ?_
    refine r_r rfl ?_
    exact a_b ⟨fun _ => trivial, fun _ => rfl⟩
  have hi1 : i < 4 := by omega
  refine v_nil ?_
  refine q_n ?_
  refine w_t rfl ?_
  refine w_skip ?_
  refine q_n ?_
  refine w_seq ?_
  refine w_block ?_
  refine w_seq ?_
  refine w_draw [0, 1, 3, 0, 8, 24, 63] [⟨0, 0, []⟩, ⟨1, 0, []⟩, ⟨2, 0, []⟩, ⟨3, 0, []⟩, ⟨4, 0, []⟩, ⟨5, 0, []⟩, ⟨6, 0, []⟩] rfl rfl ?_
  refine d_q rfl rfl rfl rfl rfl ?_
  refine v_move rfl ?_
  refine v_nil ?_
  refine d_q rfl rfl rfl rfl rfl ?_
  refine v_idx_arr_e (k := 1) (i) lay57 lay4 rfl rfl rfl (rfl) (hi1) ?_
  refine v_nil ?_
  refine d_q rfl rfl rfl rfl rfl ?_
  refine v_load_flat_e (enc := bo) (ys := l4 g) i 0 (.c (.v (.bool (g ⟨i, hi1⟩)))) bo_len lay4 rfl rfl (by omega) hi1 (by decide) (b4_ld g hi1 _) ?_
  refine v_nil ?_
  refine d_q rfl rfl rfl rfl rfl ?_
  refine v_move rfl ?_
  refine v_nil ?_
  refine d_q rfl rfl rfl rfl rfl ?_
  refine v_idx_arr_e (k := 1) (i) lay57 lay4 rfl rfl rfl (rfl) (hi1) ?_
  refine v_nil ?_
  refine d_q rfl rfl rfl rfl rfl ?_
  refine v_load_flat_e (enc := bo) (ys := l4 g) i 0 (.c (.v (.bool (g ⟨i, hi1⟩)))) bo_len lay4 rfl rfl (by omega) hi1 (by decide) (b4_ld g hi1 _) ?_
  refine v_nil ?_
  refine d_q rfl rfl rfl rfl rfl ?_
  refine v_binb lay4 rfl rfl rfl (fun h2 => ?_) (fun h2 => ?_)
  · exact absurd h2 (by simp)
  refine v_nil ?_
  refine d_nil ?_
  refine q_n ?_
  refine w_f rfl ?_
  refine w_skip ?_
  refine q_bn ?_
  refine q_n ?_
  refine w_reg rfl ?_
  refine v_move rfl ?_
  refine v_add lay3 rfl rfl (i64r (by omega)) ?_
  refine v_assign rfl ?_
  refine v_nil ?_
  refine q_n ?_
  refine ⟨_, _, _, ?_, ⟨i + 1, rfl, by omega, rfl, rfl⟩, by omega⟩
  exact turn [some 0, some 1] rfl rfl rfl ⟨⟨_, rfl, trc_flat bo_sc rfl⟩, ⟨_, rfl, trc_flat bo_sc rfl⟩, trivial⟩ ⟨tr_pt rfl, tr_pt rfl, tr_v, trivial⟩
theorem cLawGreen (t : Tw) (a : Int) (hM : tB maxLen t) (hF : tF t) : PureC X 7 [.agg (twf false t), cI a] (cB true) := by
  refine PureC.of_body (drawD_ok X) (fun _ _ => Go.Proofs.Tryz.call7 _ _) Go.Proofs.Tryz.func7 rfl (n := 45) rfl ?_
  refine w_seq ?_
  refine w_reg rfl ?_
  refine v_box (m := 0) (H' := [_]) lay28 rfl rfl rfl ?_
  refine v_assign (c := .v (.bool false)) rfl ?_
  refine v_nil ?_
  refine q_n ?_
  refine w_seq ?_
  refine w_reg rfl ?_
  refine v_assign (c := .v (.int .i64 1048576)) rfl ?_
  refine v_nil ?_
  refine q_n ?_
  refine w_seq ?_
  refine w_reg rfl ?_
  refine v_load_pt (.agg [_, _, _, _, _, _, _]) lay28 rfl rfl rfl rfl ?_
  refine v_move rfl ?_
  refine v_call (cSzTown _ _ (by decide) (by assumption)) rfl rfl rfl (.cons (vw_agg (.cons vw_sl (.cons vw_sl (.cons vw_sl (.cons vw_sl (.cons vw_v (.cons vw_f (.cons vw_f .nil)))))))) (.cons vw_v .nil)) ?_
  refine v_assign rfl ?_
  refine v_nil ?_
  refine q_n ?_
  refine w_seq ?_
  refine w_seq ?_
  refine w_reg rfl ?_
  refine v_move rfl ?_
  refine v_lss lay3 rfl rfl (fun h1 => ?_) (fun h1 => ?_)
  · refine v_nil ?_
    refine q_n ?_
    refine w_t rfl ?_
    refine w_seq ?_
    refine w_reg rfl ?_
    refine v_assign (c := .v (.bool true)) rfl ?_
    refine v_nil ?_
    refine q_n ?_
    refine w_ret (q_r ?_)
    refine r_r rfl ?_
    exact tr_v
  have hz1 := szT_le (by decide) h1
  have hB := hz1.1
  refine v_nil ?_
  refine q_n ?_
  refine w_f rfl ?_
  refine w_skip ?_
  refine q_n ?_
  refine w_seq ?_
  refine w_reg rfl ?_
  refine v_load_pt (.agg [_, _, _, _, _, _, _]) lay28 rfl rfl rfl rfl ?_
  refine v_call (cToTown _ hB) rfl rfl rfl (.cons (vw_agg (.cons vw_sl (.cons vw_sl (.cons vw_sl (.cons vw_sl (.cons vw_v (.cons vw_f (.cons vw_f .nil)))))))) .nil) ?_
  refine v_move rfl ?_
  refine v_call (cGiS t _ hB hF) rfl rfl rfl (.cons (vw_agg (.cons vw_sl (.cons vw_sl (.cons vw_sl (.cons vw_sl (.cons vw_v (.cons vw_f (.cons vw_f .nil)))))))) (.cons vw_v .nil)) ?_
  refine v_move_t rfl ?_
  refine v_extract_a rfl rfl ?_
  refine v_extract_c rfl rfl ?_
  refine v_alloc (m := 1) (H' := [_, ⟨[.v _, .v _, .v _, .v _], 57, true⟩]) lay57 rfl rfl ?_
  refine v_store (H' := [_, ⟨[_, _, _, _], 57, true⟩]) lay57 rfl rfl rfl rfl rfl rfl ?_
  refine v_assign rfl ?_
  refine v_nil ?_
  refine q_n ?_
  refine w_seq ?_
  refine w_reg rfl ?_
  refine v_load_pt (.agg [_, _, _, _, _, _, _]) lay28 rfl rfl rfl rfl ?_
  refine v_call (cToTown _ hB) rfl rfl rfl (.cons (vw_agg (.cons vw_sl (.cons vw_sl (.cons vw_sl (.cons vw_sl (.cons vw_v (.cons vw_f (.cons vw_f .nil)))))))) .nil) ?_
  refine v_alloc (m := 2) (H' := [_, _, ⟨[.v _, .v _, .v _, .v _, .v _, .f _ _, .f _ _], 35, true⟩]) lay35 rfl rfl ?_
  refine v_store (H' := [_, _, ⟨[_, _, _, _, _, _, _], 35, true⟩]) lay35 rfl rfl rfl rfl rfl rfl ?_
  refine v_nil ?_
  refine q_n ?_
  refine w_seq ?_
  refine w_reg rfl ?_
  refine v_load_pt (.agg [_, _, _, _, _, _, _]) lay35 rfl rfl rfl rfl ?_
  refine v_move rfl ?_
  refine v_call (cGiI t _ hB hF) rfl rfl rfl (.cons (vw_agg (.cons vw_sl (.cons vw_sl (.cons vw_sl (.cons vw_sl (.cons vw_v (.cons vw_f (.cons vw_f .nil)))))))) (.cons vw_v .nil)) ?_
  refine v_move_t rfl ?_
  refine v_extract_a rfl rfl ?_
  refine v_extract_c rfl rfl ?_
  refine v_alloc (m := 3) (H' := [_, _, _, ⟨[.v _, .v _, .v _, .v _], 57, true⟩]) lay57 rfl rfl ?_
  refine v_store (H' := [_, _, _, ⟨[_, _, _, _], 57, true⟩]) lay57 rfl rfl rfl rfl rfl rfl ?_
  refine v_assign rfl ?_
  refine v_nil ?_
  refine q_n ?_
  refine w_seq ?_
  refine w_seq ?_
  refine w_reg rfl ?_
  refine v_load_pt (.agg [_, _, _, _]) lay57 rfl rfl rfl rfl ?_
  refine v_load_pt (.agg [_, _, _, _]) lay57 rfl rfl rfl rfl ?_
  refine v_callb (cEqB4 _) rfl rfl (.cons (vw_agg (.cons vw_v (.cons vw_v (.cons vw_v (.cons vw_v .nil))))) (.cons (vw_agg (.cons vw_v (.cons vw_v (.cons vw_v (.cons vw_v .nil))))) .nil)) (fun h2 => ?_) (fun h2 => ?_)
  rotate_left
  · exact absurd trivial h2
  refine v_not false rfl rfl ?_
  refine v_move rfl ?_
  refine v_guard_on rfl rfl ?_
  refine v_move rfl ?_
  refine v_guard_on rfl rfl ?_
  refine v_move rfl ?_
  refine v_guard_on rfl rfl ?_
  refine v_neq lay2 rfl rfl (fun h3 => ?_) (fun h3 => ?_)
  · exact absurd rfl h3
  refine v_pick_f rfl rfl ?_
  refine v_nil ?_
  refine q_n ?_
  refine w_f rfl ?_
  refine w_skip ?_
  refine q_n ?_
  refine w_seq ?_
  refine w_seq ?_
  refine w_draw [0, 0, 2, 7, 15] [⟨0, 0, []⟩, ⟨1, 0, []⟩, ⟨2, 0, []⟩, ⟨3, 0, []⟩, ⟨4, 0, []⟩] rfl rfl ?_
  refine d_q rfl rfl rfl rfl rfl ?_
  refine v_load_pt (.agg [_, _, _, _, _, _, _]) lay35 rfl rfl rfl rfl ?_
  refine v_nil ?_
  refine d_q rfl rfl rfl rfl rfl ?_
  refine v_load_pt (.agg [_, _, _, _, _, _, _]) lay28 rfl rfl rfl rfl ?_
  refine v_nil ?_
  refine d_call (cToTown _ hB) rfl rfl rfl rfl rfl (.cons (vw_agg (.cons vw_sl (.cons vw_sl (.cons vw_sl (.cons vw_sl (.cons vw_v (.cons vw_f (.cons vw_f .nil)))))))) .nil) ?_
  refine d_callb (cEqTown _ hB hF) rfl rfl rfl rfl (.cons (vw_agg (.cons vw_sl (.cons vw_sl (.cons vw_sl (.cons vw_sl (.cons vw_v (.cons vw_f (.cons vw_f .nil)))))))) (.cons (vw_agg (.cons vw_sl (.cons vw_sl (.cons vw_sl (.cons vw_sl (.cons vw_v (.cons vw_f (.cons vw_f .nil)))))))) .nil)) (fun h4 => ?_) (fun h4 => ?_)
  rotate_left
  · exact absurd trivial h4
  refine d_q rfl rfl rfl rfl rfl ?_
  refine v_not false rfl rfl ?_
  refine v_nil ?_
  refine d_nil ?_
  refine q_n ?_
  refine w_f rfl ?_
  refine w_skip ?_
  refine q_n ?_
  refine w_seq ?_
  refine w_reg rfl ?_
  refine v_assign (c := .v (.bool true)) rfl ?_
  refine v_nil ?_
  refine q_n ?_
  refine w_ret ?_
  refine r_r rfl ?_
  exact tr_v
end Go.VL
namespace Go.VL
open Go.RowKit
set_option maxRecDepth 20000
set_option maxHeartbeats 8000000
theorem sg_of {x : Nat} (hw : (Lit.float .f32 x).wf = true) : Sg (fOf .f32 x) := by
  refine ⟨okF_fOf x, fun b h => ?_⟩
  have hlt : x < 2 ^ 32 := by simpa [Lit.wf] using hw
  unfold fOf at h
  split at h
  · cases h
  · simp only [Option.some.injEq] at h
    subst h
    exact hlt
theorem cty_sg {cs : List C} (h : Cty X.lay 26 cs) : ∃ x, cs = [.f .f32 x] ∧ Sg x := by
  obtain ⟨x, e, hw⟩ := cty_float lay26 h
  exact ⟨_, e, sg_of hw⟩
theorem cty_ca {cs : List C} (h : Cty X.lay 70 cs) : ∃ g : Fin 16 → Option Nat, cs = cac g ∧ ∀ i (hi : i < 16), Sg (g ⟨i, hi⟩) := by
  obtain ⟨h1, h2⟩ := cty_array lay70 h
  match cs, h1 with
  | [c0, c1, c2, c3, c4, c5, c6, c7, c8, c9, c10, c11, c12, c13, c14, c15], _ =>
    obtain ⟨x0, e0, w0⟩ := cty_sg (cs := [c0]) (h2 0 (by decide))
    obtain ⟨x1, e1, w1⟩ := cty_sg (cs := [c1]) (h2 1 (by decide))
    obtain ⟨x2, e2, w2⟩ := cty_sg (cs := [c2]) (h2 2 (by decide))
    obtain ⟨x3, e3, w3⟩ := cty_sg (cs := [c3]) (h2 3 (by decide))
    obtain ⟨x4, e4, w4⟩ := cty_sg (cs := [c4]) (h2 4 (by decide))
    obtain ⟨x5, e5, w5⟩ := cty_sg (cs := [c5]) (h2 5 (by decide))
    obtain ⟨x6, e6, w6⟩ := cty_sg (cs := [c6]) (h2 6 (by decide))
    obtain ⟨x7, e7, w7⟩ := cty_sg (cs := [c7]) (h2 7 (by decide))
    obtain ⟨x8, e8, w8⟩ := cty_sg (cs := [c8]) (h2 8 (by decide))
    obtain ⟨x9, e9, w9⟩ := cty_sg (cs := [c9]) (h2 9 (by decide))
    obtain ⟨x10, e10, w10⟩ := cty_sg (cs := [c10]) (h2 10 (by decide))
    obtain ⟨x11, e11, w11⟩ := cty_sg (cs := [c11]) (h2 11 (by decide))
    obtain ⟨x12, e12, w12⟩ := cty_sg (cs := [c12]) (h2 12 (by decide))
    obtain ⟨x13, e13, w13⟩ := cty_sg (cs := [c13]) (h2 13 (by decide))
    obtain ⟨x14, e14, w14⟩ := cty_sg (cs := [c14]) (h2 14 (by decide))
    obtain ⟨x15, e15, w15⟩ := cty_sg (cs := [c15]) (h2 15 (by decide))
    simp only [List.cons.injEq, and_true] at e0 e1 e2 e3 e4 e5 e6 e7 e8 e9 e10 e11 e12 e13 e14 e15
    subst e0 e1 e2 e3 e4 e5 e6 e7 e8 e9 e10 e11 e12 e13 e14 e15
    refine ⟨fun i => [x0, x1, x2, x3, x4, x5, x6, x7, x8, x9, x10, x11, x12, x13, x14, x15].getD i.val none, rfl, fun i hi => ?_⟩
    match i, hi with
    | 0, _ => exact w0
    | 1, _ => exact w1
    | 2, _ => exact w2
    | 3, _ => exact w3
    | 4, _ => exact w4
    | 5, _ => exact w5
    | 6, _ => exact w6
    | 7, _ => exact w7
    | 8, _ => exact w8
    | 9, _ => exact w9
    | 10, _ => exact w10
    | 11, _ => exact w11
    | 12, _ => exact w12
    | 13, _ => exact w13
    | 14, _ => exact w14
    | 15, _ => exact w15
    | k + 16, h => exact absurd h (by omega)
theorem cty_fo {cs : List C} (h : Cty X.lay 48 cs) : ∃ g : Fin 4 → Option Nat, cs = foc g ∧ ∀ i (hi : i < 4), Sg (g ⟨i, hi⟩) := by
  obtain ⟨h1, h2⟩ := cty_array lay48 h
  match cs, h1 with
  | [c0, c1, c2, c3], _ =>
    obtain ⟨x0, e0, w0⟩ := cty_sg (cs := [c0]) (h2 0 (by decide))
    obtain ⟨x1, e1, w1⟩ := cty_sg (cs := [c1]) (h2 1 (by decide))
    obtain ⟨x2, e2, w2⟩ := cty_sg (cs := [c2]) (h2 2 (by decide))
    obtain ⟨x3, e3, w3⟩ := cty_sg (cs := [c3]) (h2 3 (by decide))
    simp only [List.cons.injEq, and_true] at e0 e1 e2 e3
    subst e0 e1 e2 e3
    refine ⟨fun i => [x0, x1, x2, x3].getD i.val none, rfl, fun i hi => ?_⟩
    match i, hi with
    | 0, _ => exact w0
    | 1, _ => exact w1
    | 2, _ => exact w2
    | 3, _ => exact w3
theorem cty_fl {cs : List C} (h : Cty X.lay 49 cs) : ∃ T : Fl, cs = flc T ∧ ∀ i (hi : i < 4) k (hk : k < 4), Sg (T ⟨i, hi⟩ ⟨k, hk⟩) := by
  obtain ⟨h1, h2⟩ := cty_array lay49 h
  match cs, h1 with
  | [c0, c1, c2, c3, c4, c5, c6, c7, c8, c9, c10, c11, c12, c13, c14, c15], _ =>
    obtain ⟨g0, e0, w0⟩ := cty_fo (cs := [c0, c1, c2, c3]) (h2 0 (by decide))
    obtain ⟨g1, e1, w1⟩ := cty_fo (cs := [c4, c5, c6, c7]) (h2 1 (by decide))
    obtain ⟨g2, e2, w2⟩ := cty_fo (cs := [c8, c9, c10, c11]) (h2 2 (by decide))
    obtain ⟨g3, e3, w3⟩ := cty_fo (cs := [c12, c13, c14, c15]) (h2 3 (by decide))
    simp only [List.cons.injEq, and_true] at e0 e1 e2 e3
    obtain ⟨rfl, rfl, rfl, rfl⟩ := e0
    obtain ⟨rfl, rfl, rfl, rfl⟩ := e1
    obtain ⟨rfl, rfl, rfl, rfl⟩ := e2
    obtain ⟨rfl, rfl, rfl, rfl⟩ := e3
    refine ⟨fun i => [g0, g1, g2, g3].getD i.val g0, rfl, fun i hi => ?_⟩
    match i, hi with
    | 0, _ => exact w0
    | 1, _ => exact w1
    | 2, _ => exact w2
    | 3, _ => exact w3
theorem cty_rd {cs : List C} (h : Cty X.lay 155 cs) : ∃ r : Rd, cs = rdc r ∧ rW r := by
  obtain ⟨h1, h2⟩ := cty_struct lay155 h
  obtain ⟨g, e0, w0⟩ := cty_ca (h2 (70, 0) (by simp))
  obtain ⟨x, e1, w1⟩ := cty_sg (h2 (26, 16) (by simp))
  obtain ⟨y, e2, w2⟩ := cty_sg (h2 (26, 17) (by simp))
  obtain ⟨z, e3, w3⟩ := cty_sg (h2 (26, 18) (by simp))
  match cs, h1 with
  | [c0, c1, c2, c3, c4, c5, c6, c7, c8, c9, c10, c11, c12, c13, c14, c15, c16, c17, c18], _ =>
    have q0 : [c0, c1, c2, c3, c4, c5, c6, c7, c8, c9, c10, c11, c12, c13, c14, c15] = cac g := e0
    have q1 : [c16] = [.f .f32 x] := e1
    have q2 : [c17] = [.f .f32 y] := e2
    have q3 : [c18] = [.f .f32 z] := e3
    simp only [List.cons.injEq, and_true] at q0 q1 q2 q3
    obtain ⟨rfl, rfl, rfl, rfl, rfl, rfl, rfl, rfl, rfl, rfl, rfl, rfl, rfl, rfl, rfl, rfl⟩ := q0
    subst q1 q2 q3
    exact ⟨(g, x, y, z), rfl, w0, w1, w2, w3⟩
theorem cty_jn {cs : List C} (h : Cty X.lay 140 cs) : ∃ j : Jn, cs = jnc j ∧ jW j := by
  obtain ⟨h1, h2⟩ := cty_struct lay140 h
  obtain ⟨a, e0, -⟩ := cty_int lay2 (h2 (2, 0) (by simp))
  obtain ⟨b, e1, -⟩ := cty_int lay2 (h2 (2, 1) (by simp))
  obtain ⟨T, e2, w2⟩ := cty_fl (h2 (49, 2) (by simp))
  obtain ⟨g, e3, w3⟩ := cty_fo (h2 (48, 18) (by simp))
  match cs, h1 with
  | [c0, c1, c2, c3, c4, c5, c6, c7, c8, c9, c10, c11, c12, c13, c14, c15, c16, c17, c18, c19, c20, c21], _ =>
    have q0 : [c0] = [.v (.int .i64 a)] := e0
    have q1 : [c1] = [.v (.int .i64 b)] := e1
    have q2 : [c2, c3, c4, c5, c6, c7, c8, c9, c10, c11, c12, c13, c14, c15, c16, c17] = flc T := e2
    have q3 : [c18, c19, c20, c21] = foc g := e3
    simp only [List.cons.injEq, and_true] at q0 q1 q2 q3
    obtain ⟨rfl, rfl, rfl, rfl, rfl, rfl, rfl, rfl, rfl, rfl, rfl, rfl, rfl, rfl, rfl, rfl⟩ := q2
    obtain ⟨rfl, rfl, rfl, rfl⟩ := q3
    subst q0 q1
    exact ⟨(a, b, T, g), rfl, w2, w3⟩
theorem cty_ints {cs : List C} (h : Cty X.lay 54 cs) : ∃ xs : List Int, cs = [.sl true xs.length 1 (flat int xs)] ∧ xs.length ≤ maxLen := by
  obtain ⟨xs, e, hx, hn⟩ := cty_slice lay54 h
  obtain ⟨zs, k1, k2, -⟩ := flat_of2 (enc := int) (p := fun _ => True) (xs := xs) fun x hm => by
    obtain ⟨n, hn, -⟩ := cty_int lay2 (hx x hm)
    exact ⟨n, hn, trivial⟩
  exact ⟨zs, by rw [← k2, k1]; exact e, by omega⟩
theorem cty_flos {cs : List C} (h : Cty X.lay 23 cs) : ∃ xs : List (Option Nat), cs = [.sl true xs.length 1 (flat fe xs)] ∧ xs.length ≤ maxLen ∧ ∀ x ∈ xs, Sg x := by
  obtain ⟨xs, e, hx, hn⟩ := cty_slice lay23 h
  obtain ⟨zs, k1, k2, k3⟩ := flat_of2 (enc := fe) (p := Sg) (xs := xs) fun x hm => cty_sg (hx x hm)
  exact ⟨zs, by rw [← k2, k1]; exact e, by omega, k3⟩
theorem cty_jo {cs : List C} (h : Cty X.lay 142 cs) : ∃ j : Jo, cs = joc j ∧ (j.2.1.length ≤ maxLen ∧ j.2.2.1.length ≤ maxLen) ∧ jW j.1 := by
  obtain ⟨h1, h2⟩ := cty_struct lay142 h
  obtain ⟨j, e0, w0⟩ := cty_jn (h2 (140, 0) (by simp))
  obtain ⟨xs, e1, w1⟩ := cty_ints (h2 (54, 22) (by simp))
  obtain ⟨ys, e2, w2⟩ := cty_ints (h2 (54, 23) (by simp))
  obtain ⟨p, e3, -⟩ := cty_int lay2 (h2 (2, 24) (by simp))
  match cs, h1 with
  | [c0, c1, c2, c3, c4, c5, c6, c7, c8, c9, c10, c11, c12, c13, c14, c15, c16, c17, c18, c19, c20, c21, c22, c23, c24], _ =>
    have q0 : [c0, c1, c2, c3, c4, c5, c6, c7, c8, c9, c10, c11, c12, c13, c14, c15, c16, c17, c18, c19, c20, c21] = jnc j := e0
    have q1 : [c22] = [.sl true xs.length 1 (flat int xs)] := e1
    have q2 : [c23] = [.sl true ys.length 1 (flat int ys)] := e2
    have q3 : [c24] = [.v (.int .i64 p)] := e3
    simp only [List.cons.injEq, and_true] at q0 q1 q2 q3
    obtain ⟨rfl, rfl, rfl, rfl, rfl, rfl, rfl, rfl, rfl, rfl, rfl, rfl, rfl, rfl, rfl, rfl, rfl, rfl, rfl, rfl, rfl, rfl⟩ := q0
    subst q1 q2 q3
    exact ⟨(j, xs, ys, p), rfl, ⟨w1, w2⟩, w0⟩
theorem cty_slo {cs : List C} (h : Cty X.lay 252 cs) : ∃ s : Slo, cs = stc s ∧ -9223372036854775808 ≤ s.2 ∧ s.2 ≤ 9223372036854775807 := by
  obtain ⟨h1, h2⟩ := cty_struct lay252 h
  obtain ⟨g, e0⟩ := cty_ph lay62 lay4 rfl (h2 (62, 0) (by simp))
  obtain ⟨x, e1, w1, w2⟩ := cty_int lay2 (h2 (2, 8) (by simp))
  match cs, h1 with
  | [c0, c1, c2, c3, c4, c5, c6, c7, c8], _ =>
    have q0 : [c0, c1, c2, c3, c4, c5, c6, c7] = phc g := e0
    have q1 : [c8] = [.v (.int .i64 x)] := e1
    simp only [List.cons.injEq, and_true] at q0 q1
    obtain ⟨rfl, rfl, rfl, rfl, rfl, rfl, rfl, rfl⟩ := q0
    subst q1
    exact ⟨(g, x), rfl, w1, w2⟩
theorem cty_pln {cs : List C} (h : Cty X.lay 146 cs) : ∃ p : Pln, cs = plc p ∧ p.1.length ≤ maxLen ∧ pW p := by
  obtain ⟨h1, h2⟩ := cty_struct lay146 h
  match cs, h1 with
  | [c0, c1, c2], _ =>
    obtain ⟨xs, e0, hx, hn⟩ := cty_slice lay144 (h2 (144, 0) (by simp))
    obtain ⟨b, e1, -⟩ := cty_int lay2 (h2 (2, 1) (by simp))
    obtain ⟨f, e2, -⟩ := cty_int lay2 (h2 (2, 2) (by simp))
    obtain ⟨ys, k1, k2, k3⟩ := flat_of2 (enc := stc) (p := fun s => -9223372036854775808 ≤ s.2 ∧ s.2 ≤ 9223372036854775807) (xs := xs) fun x hxm => cty_slo (hx x hxm)
    have q0 : [c0] = [.sl true xs.length 9 xs.flatten] := e0
    have q1 : [c1] = [.v (.int .i64 b)] := e1
    have q2 : [c2] = [.v (.int .i64 f)] := e2
    simp only [List.cons.injEq, and_true] at q0 q1 q2
    subst q0 q1 q2
    exact ⟨(ys, b, f), by rw [k2, ← k1]; rfl, by rw [k1]; exact hn, k3⟩
theorem vty_town {v : V} (h : VTy X.lay 28 v) : ∃ t : Tw, v = .agg (twf false t) ∧ tB maxLen t ∧ tF t := by
  unfold VTy at h
  rw [lay28] at h
  simp only [LK.agg, if_true] at h
  obtain ⟨cs, rfl, hc⟩ := h
  obtain ⟨h1, h2⟩ := cty_struct lay28 hc
  match cs, h1 with
  | [c0, c1, c2, c3, c4, c5, c6], _ =>
    obtain ⟨rs, e0, hx0, n0⟩ := cty_slice lay22 (h2 (22, 0) (by simp))
    obtain ⟨ofs, e1, n1, w1⟩ := cty_flos (h2 (23, 1) (by simp))
    obtain ⟨js, e2, hx2, n2⟩ := cty_slice lay24 (h2 (24, 2) (by simp))
    obtain ⟨ps, e3, hx3, n3⟩ := cty_slice lay25 (h2 (25, 3) (by simp))
    obtain ⟨k, e4, -⟩ := cty_int lay2 (h2 (2, 4) (by simp))
    obtain ⟨x, e5, w5⟩ := cty_sg (h2 (26, 5) (by simp))
    obtain ⟨y, e6, w6⟩ := cty_sg (h2 (26, 6) (by simp))
    obtain ⟨rs', a1, a2, a3⟩ := flat_of2 (enc := rdc) (p := rW) (xs := rs) fun x hm => cty_rd (hx0 x hm)
    obtain ⟨js', b1, b2, b3⟩ := flat_of2 (enc := joc) (p := fun j => (j.2.1.length ≤ maxLen ∧ j.2.2.1.length ≤ maxLen) ∧ jW j.1) (xs := js) fun x hm => cty_jo (hx2 x hm)
    obtain ⟨ps', d1, d2, d3⟩ := flat_of2 (enc := plc) (p := fun p => p.1.length ≤ maxLen ∧ pW p) (xs := ps) fun x hm => cty_pln (hx3 x hm)
    have q0 : [c0] = [.sl true rs.length 19 rs.flatten] := e0
    have q1 : [c1] = [.sl true ofs.length 1 (flat fe ofs)] := e1
    have q2 : [c2] = [.sl true js.length 25 js.flatten] := e2
    have q3 : [c3] = [.sl true ps.length 3 ps.flatten] := e3
    have q4 : [c4] = [.v (.int .i64 k)] := e4
    have q5 : [c5] = [.f .f32 x] := e5
    have q6 : [c6] = [.f .f32 y] := e6
    simp only [List.cons.injEq, and_true] at q0 q1 q2 q3 q4 q5 q6
    subst q0 q1 q2 q3 q4 q5 q6
    refine ⟨(rs', ofs, js', ps', k, x, y), by rw [a2, b2, d2, ← a1, ← b1, ← d1]; rfl, ⟨?_, n1, ?_, fun j hj => (b3 j hj).1, ?_, fun p hp => (d3 p hp).1⟩, a3, w1, fun j hj => (b3 j hj).2, w5, w6, fun p hp => (d3 p hp).2⟩
    · show rs'.length ≤ maxLen
      omega
    · show js'.length ≤ maxLen
      omega
    · show ps'.length ≤ maxLen
      omega
end Go.VL
namespace Go.Proofs.YtejgddephbaenaaGreat
namespace B0
open Go.RowKit Go.WideShapes Go.ChangeShapes Go.ChangeAt
section
variable {H : Type} {enc : TypeId × Value → H} {P : Program}

theorem post_of_below {f : Func} {s : ChangeSpec} {apart fresh handsOn again : Bool} {W W' : World} {args : Array Value} {v : Value} {ds gs : List (DataW H)} {before pa pv : List MemPlace}
    (hW : DataW.Whole enc P f.params.toList s.vars apart W args.toList ds gs before)
    (hres : ∀ (b : Nat) (sp : Nat → Bool) (hd : Bool), DataW.TrodAll enc P W' b sp hd f.resultTypes.toList (v.resultList f.resultTypes.size) (s.fn H (ds ++ gs)).results [])
    (hargs : ∀ sp : Nat → Bool, (∀ p ∈ before, sp p.block = true) → DataW.TrodAll enc P W' 0 sp true f.params.toList args.toList (s.fn H (ds ++ gs)).args pa)
    (hvars : ∀ sp : Nat → Bool, (∀ p ∈ before, sp p.block = true) → DataW.TrodVars enc P W' sp s.vars (s.fn H (ds ++ gs)).vars pv)
    (hps : before = pa ++ pv) (hb : Below W.heap.size W W')
    (hok : ∀ (j : Nat) (t : TypeId) (r : Value), f.resultTypes[j]? = some t → (v.resultList f.resultTypes.size)[j]? = some r → Value.okWide P W' .any 0 t r) :
    s.post enc P f apart fresh handsOn again W args v W' := by
  have hlt : ∀ p ∈ before, p.block < W.heap.size := fun p hp => hW.lt p hp
  have hold : ∀ p ∈ before, (fun b => decide (b < W.heap.size)) p.block = true := fun p hp => by simpa using hlt p hp
  refine ⟨ds, gs, before, [], pa, pv, hW, hres _ _ _, hargs _ hold, hvars _ hold, World.keptBut_mono (fun p hp => ⟨hp, ?_⟩) (hb.frame (· ∈ before)), fun _ => ?_⟩
  · rw [hps, List.mem_append] at hp
    exact Or.inr hp
  · obtain ⟨_, _, _, _, _, hz, hn⟩ := hW
    refine ⟨hok, _, _, ([] ++ pa) ++ pv, ⟨[] ++ pa, pv, trodAll_append (hargs _ (fun _ _ => rfl)) (hres _ _ _), hvars _ (fun _ _ => rfl), rfl, ?_, ?_⟩, ?_⟩
    · intro b off hp
      have hin : MemPlace.cell b off ∈ before := by rw [hps]; simpa using hp
      rw [hb.frozen (hlt _ hin)]
      exact hz b off hin
    · intro ha
      have := hn ha
      rw [hps] at this
      simpa using this
    · intro p hp _
      rw [hps]
      simpa using hp

theorem trodAll_stays (hl : laidOutB P = true) {W W' : World} {sp' : Nat → Bool} : ∀ {ts : List TypeId} {vs : List Value} {ds : List (DataW H)} {ps : List MemPlace},
    (∀ t ∈ ts, P.readableRec t = true ∧ t < P.types.size) → DataW.TrodAll enc P W 0 (fun _ => true) true ts vs ds ps → (∀ p ∈ ps, W.sameAt W' p) → (∀ p ∈ ps, sp' p.block = true) →
    DataW.TrodAll enc P W' 0 sp' true ts vs ds ps
  | [], vs, ds, ps, _, h, _, _ => by
    obtain ⟨rfl, rfl, rfl⟩ := trodAll_nil h
    exact rfl
  | t :: ts, vs, ds, ps, ht, h, hsame, hsp => by
    obtain ⟨v, vs', d, ds', p, q, rfl, rfl, rfl, h0, h1⟩ := trodAll_cons h
    exact ⟨p, q, Go.WideElems.Trod_stays hl (ht t (by simp)).1 (ht t (by simp)).2 h0 (fun x hx => hsame x (by simp [hx])) (fun x hx => hsp x (by simp [hx])),
      trodAll_stays hl (fun u hu => ht u (by simp [hu])) h1 (fun x hx => hsame x (by simp [hx])) (fun x hx => hsp x (by simp [hx])), rfl⟩

/-- A law: whatever the arguments, the call returns true and turns nothing that was there. -/
theorem lift {C : Checked} {os : Os} {f : FuncId} {fn : Func} {s : ChangeSpec} {conds : List PathCond} {tb : TypeId}
    (own : ownKnob C.prog.godebug = none) (started : os.Started) (noInit : C.prog.inits.idxOf? f = none) (hfn : C.prog.funcs[f]? = some fn)
    (witness : ∃ (w : World) (tape : Tape) (i : Input), w.os = os ∧ (w.forCall tape i).Shaped C.prog ∧ i.vars = [] ∧ Input.okWide C.prog (w.forCall tape i) .any w.heap.size f i ∧
      s.pre6 enc C.prog fn conds false (w.forCall tape i).memory i.args ∧ ({} : Assume).holds C.prog (lone (Frame.enter C.prog f i.args .normal) [] (w.forCall tape i)))
    (hl : laidOutB C.prog = true) (hp : (fn.params.toList.all fun t => C.prog.readableRec t && decide (t < C.prog.types.size)) = true)
    (hv : s.vars = []) (hr : fn.resultTypes = #[tb]) (htb : C.prog.underlying tb = some .bool)
    (hs : ∀ ds : List (DataW H), ds.length = fn.params.toList.length → s.fn H ds = { results := [.lit (.bool true)], args := ds })
    (contract : ∀ (W : World) (base : Nat) (args : Array Value) (ds : List (DataW H)) (p : List MemPlace),
      (∀ (j : Nat) t v, fn.params[j]? = some t → args[j]? = some v → Value.okWide C.prog W .any base t v) →
      DataW.TrodAll enc C.prog W 0 (fun _ => true) true fn.params.toList args.toList ds p →
      Calls C.prog f args W fun e W' => e = .returned (.bool true) ∧ Below W.heap.size W W') :
    ReturnsInHanded {} C os f .any (s.pre6 enc C.prog fn conds false) (s.post enc C.prog fn false true false false) := by
  refine returnsInHanded_of_change own started noInit hfn witness ?_
  intro W base args ds gs before hval hW _ _
  have hW' := hW
  obtain ⟨p, q, hA, hV, rfl, hfz, hnd⟩ := hW
  rw [hv] at hV
  obtain ⟨rfl, rfl⟩ := trodVars_none hV
  have hlen : ∀ {ts : List TypeId} {vs : List Value} {ds : List (DataW H)} {ps : List MemPlace}, DataW.TrodAll enc C.prog W 0 (fun _ => true) true ts vs ds ps → ds.length = ts.length := by
    intro ts
    induction ts with
    | nil => intro vs ds ps h; obtain ⟨rfl, rfl, rfl⟩ := trodAll_nil h; rfl
    | cons t ts ih => intro vs ds ps h; obtain ⟨v, vs', d, ds', p, q, rfl, rfl, rfl, h0, h1⟩ := trodAll_cons h; simp [ih h1]
  have hsd : s.fn H (ds ++ []) = { results := [.lit (.bool true)], args := ds } := by rw [List.append_nil]; exact hs ds (hlen hA)
  have hp' : ∀ t ∈ fn.params.toList, C.prog.readableRec t = true ∧ t < C.prog.types.size := fun t ht => by simpa using List.all_eq_true.1 hp t ht
  refine (contract W base args ds p hval hA).mono fun e W' ⟨he, hb⟩ => ?_
  refine ⟨.bool true, he, post_of_below (pa := p) (pv := []) hW' ?_ ?_ ?_ rfl hb ?_⟩
  · intro b sp hd
    rw [hsd, hr]
    exact trodAll_mk1 ⟨1, by simp [DataW.trod, Value.cells, htb]⟩
  · intro sp hsp
    rw [hsd]
    exact trodAll_stays hl hp' hA (fun x hx => hb.same (hW'.lt x (by simp [hx]))) (fun x hx => hsp x (by simp [hx]))
  · intro sp hsp
    rw [hsd, hv]
    exact rfl
  · exact ok_one hr rfl (okWide_bool_mk htb true)
end
end B0
end Go.Proofs.YtejgddephbaenaaGreat
