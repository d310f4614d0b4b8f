/- Texts of one proof, put together: C6, C7, C8, C9, C10, C11, C12, C13, C14, C15, E1. -/
import Derived.Test.YthamafbbdaembaaM3
namespace Go.VL
open Go.RowKit
set_option maxRecDepth 20000
set_option maxHeartbeats 8000000
structure okW (ps : List Pln) (ts : List Int) (m n : Nat) : Prop where
  ne : 1 ≤ ps.length
  le : ps.length ≤ 6
  tl : ts.length + 1 = ps.length
  tr : ∀ t ∈ ts, 0 ≤ t ∧ t ≤ 100000
  mm : m < 8
  ok : ∀ p ∈ ps, okP p.1 p.2.1 p.2.2
  cy : ∀ p ∈ ps, cyc p.1 p.2.1 = n
  gn : ∀ p ∈ ps, grn p.1 p.2.1 m n
theorem okW.at {ps : List Pln} {ts : List Int} {m n : Nat} (h : okW ps ts m n) {i : Nat} (hi : i < ps.length) : okP ps[i].1 ps[i].2.1 ps[i].2.2 ∧ cyc ps[i].1 ps[i].2.1 = n ∧ grn ps[i].1 ps[i].2.1 m n := ⟨h.ok _ (List.getElem_mem hi), h.cy _ (List.getElem_mem hi), h.gn _ (List.getElem_mem hi)⟩
def dP : Pln := ([], 0, 0)
abbrev pa (ps : List Pln) (i : Nat) : Pln := ps.getD i dP
theorem pa_at {ps : List Pln} {i : Nat} (h : i < ps.length) : pa ps i = ps[i] := gD h
/-- The first green from the plan's own beginning on. -/
def bgn (p : Pln) (m n : Nat) : Int := fix (fun x => x = true) (grL p.1 p.2.1 p.2.2 m n p.2.2)
theorem fix_rng {α : Type} {pr : α → Prop} [DecidablePred pr] {xs : List α} : -1 ≤ fix pr xs ∧ fix pr xs < xs.length := by
  unfold fix
  cases h : xs.findIdx? (fun x => decide (pr x)) with
  | none => simp only []; omega
  | some i =>
    obtain ⟨h1, -⟩ := List.findIdx?_eq_some_iff_getElem.1 h
    simp only []
    omega
theorem bgn_rng {p : Pln} {m n : Nat} (hg : grn p.1 p.2.1 m n) : 0 ≤ bgn p m n ∧ bgn p m n < n := by
  have h1 := fix_rng (pr := fun x : Bool => x = true) (xs := grL p.1 p.2.1 p.2.2 m n p.2.2)
  have h2 := (fix_ge (fun x : Bool => x = true) (grL p.1 p.2.1 p.2.2 m n p.2.2)).2 (grL_ex hg)
  rw [grL_len] at h1
  exact ⟨h2, h1.2⟩
def sumT (ts : List Int) (i : Nat) : Int := (ts.take i).sum
theorem sumT_0 {ts : List Int} : sumT ts 0 = 0 := rfl
theorem sumT_step {ts : List Int} {i : Nat} (h : i < ts.length) : sumT ts (i + 1) = sumT ts i + ts[i] := by
  unfold sumT
  rw [List.take_succ_eq_append_getElem h, List.sum_append]
  simp only [List.sum_cons, List.sum_nil]
  omega
theorem sumT_rng {ts : List Int} (h : ∀ t ∈ ts, 0 ≤ t ∧ t ≤ 100000) : ∀ {i : Nat}, i ≤ ts.length → 0 ≤ sumT ts i ∧ sumT ts i ≤ 100000 * i
  | 0, _ => by simp [sumT]
  | i + 1, hi => by
    have h1 := sumT_rng h (i := i) (by omega)
    have h2 := h _ (List.getElem_mem (show i < ts.length by omega))
    rw [sumT_step (by omega)]
    push_cast
    omega
/-- The offset of a plan in a wave. -/
def wof (ps : List Pln) (ts : List Int) (m n i : Nat) : Int := ((pa ps 0).2.2 + bgn (pa ps 0) m n + sumT ts i - bgn (pa ps i) m n) % n
def wvp (ps : List Pln) (ts : List Int) (m n i : Nat) : Pln := ((pa ps i).1, (pa ps i).2.1, wof ps ts m n i)
def gG (ps : List Pln) (ts : List Int) (m n : Nat) : Nat → Int
  | 0 => 0
  | i + 1 => wof ps ts m n i + bgn (pa ps i) m n
theorem wof_0 {ps : List Pln} {ts : List Int} {m n : Nat} (h : 0 ≤ (pa ps 0).2.2 ∧ (pa ps 0).2.2 < n) : wof ps ts m n 0 = (pa ps 0).2.2 := by
  unfold wof
  rw [sumT_0, show (pa ps 0).2.2 + bgn (pa ps 0) m n + 0 - bgn (pa ps 0) m n = (pa ps 0).2.2 by omega]
  exact Int.emod_eq_of_lt h.1 h.2
theorem wof_step {ps : List Pln} {ts : List Int} {m n j : Nat} (h : j < ts.length) (hn : 0 < n) : ((gG ps ts m n (j + 1) + ts[j] - bgn (pa ps (j + 1)) m n).tmod n + n).tmod n = wof ps ts m n (j + 1) := by
  rw [mo_eq (by omega)]
  unfold gG wof
  rw [sumT_step h, show ((pa ps 0).2.2 + bgn (pa ps 0) m n + sumT ts j - bgn (pa ps j) m n) % (n : Int) + bgn (pa ps j) m n + ts[j] - bgn (pa ps (j + 1)) m n = ((pa ps 0).2.2 + bgn (pa ps 0) m n + sumT ts j - bgn (pa ps j) m n) % (n : Int) + (bgn (pa ps j) m n + ts[j] - bgn (pa ps (j + 1)) m n) by omega, em_add]
  congr 1
  omega
theorem wof_rng {ps : List Pln} {ts : List Int} {m n i : Nat} (hn : 0 < n) : 0 ≤ wof ps ts m n i ∧ wof ps ts m n i < n := ⟨Int.emod_nonneg _ (by omega), Int.emod_lt_of_pos _ (by omega)⟩
/-- All the plans' greens, met by one who drives. -/
def mtb (ps : List Pln) (ts : List Int) (m n : Nat) (t : Nat) : Nat → Bool
  | 0 => true
  | j + 1 => mtb ps ts m n t j && gr (pa ps j).1 (pa ps j).2.1 m (((t : Int) + sumT ts j - (pa ps j).2.2) % n)
theorem mtb_s {ps : List Pln} {ts : List Int} {m n t j : Nat} (h : j < ps.length) {x : Int} (hx : x = (t : Int) + sumT ts j) : mtb ps ts m n t (j + 1) = (mtb ps ts m n t j && gr ps[j].1 ps[j].2.1 m ((x - ps[j].2.2) % n)) := by
  subst hx
  simp only [mtb]
  rw [pa_at h]
theorem tr_bb {H : List Ob} {g : List (Option Nat)} {a b : Bool} (h : a = b) : TrV H g (cB a) (cB b) := by rw [h]; exact tr_v
theorem mtb_mono {ps : List Pln} {ts : List Int} {m n t : Nat} : ∀ {i j : Nat}, i ≤ j → mtb ps ts m n t j = true → mtb ps ts m n t i = true
  | i, 0, h, hj => by obtain rfl : i = 0 := by omega
                      exact hj
  | i, j + 1, h, hj => by
    rcases Nat.lt_or_eq_of_le h with h | rfl
    · simp only [mtb, Bool.and_eq_true] at hj
      exact mtb_mono (by omega) hj.1
    · exact hj
abbrev wid (ps : List Pln) (ts : List Int) (m n i : Nat) : Nat := cnb (fun t : Nat => mtb ps ts m n t ps.length) i
theorem c68 (a : Int) : PureC X 68 [cI a] (cB (decide (0 ≤ a ∧ a ≤ 8 - 1))) := by
  refine PureC.of_body (drawD_ok X) (fun _ _ => Go.Proofs.Try.call68 _ _) Go.Proofs.Try.func68 rfl (n := 5) rfl ?_
  refine w_seq ?_
  refine w_reg rfl ?_
  refine v_assign (c := .v (.bool false)) rfl ?_
  refine v_nil ?_
  refine q_n ?_
  refine w_seq ?_
  refine w_reg rfl ?_
  refine v_move rfl ?_
  refine v_callb (cPlace _ _ (by omega)) rfl rfl (.cons vw_v (.cons vw_v .nil)) (fun h1 => ?_) (fun h1 => ?_)
  · refine v_assign rfl ?_
    refine v_nil ?_
    refine q_n ?_
    refine w_ret ?_
    refine r_r rfl ?_
    exact a_b (by simp_all)
  refine v_assign rfl ?_
  refine v_nil ?_
  refine q_n ?_
  refine w_ret ?_
  refine r_r rfl ?_
  exact a_b (by simp_all)
theorem c77 (a : Int) : PureC X 77 [cI a] (cB (decide (0 ≤ a ∧ a ≤ 1000000000))) := by
  refine PureC.of_body (drawD_ok X) (fun _ _ => Go.Proofs.Try.call77 _ _) Go.Proofs.Try.func77 rfl (n := 5) rfl ?_
  refine w_seq ?_
  refine w_reg rfl ?_
  refine v_assign (c := .v (.bool false)) rfl ?_
  refine v_nil ?_
  refine q_n ?_
  refine w_seq ?_
  refine w_reg rfl ?_
  refine v_move rfl ?_
  refine v_callb (cInR _ _ _) rfl rfl (.cons vw_v (.cons vw_v (.cons vw_v .nil))) (fun h1 => ?_) (fun h1 => ?_)
  · refine v_assign rfl ?_
    refine v_nil ?_
    refine q_n ?_
    refine w_ret ?_
    refine r_r rfl ?_
    exact a_b (by simp_all)
  refine v_assign rfl ?_
  refine v_nil ?_
  refine q_n ?_
  refine w_ret ?_
  refine r_r rfl ?_
  exact a_b (by simp_all)
theorem c58 (xs : List Slo) (b f : Int) (hk : okP xs b f) (m n : Nat) (hn : cyc xs b = n) (hm : m < 8) (hg : grn xs b m n) : PureC X 58 [.agg (pln false xs b f), cI m, cI 0] (cI 0) := by
  refine PureC.of_body (drawD_ok X) (fun _ _ => Go.Proofs.Try.call58 _ _) Go.Proofs.Try.func58 rfl (n := 25) rfl ?_
  obtain ⟨n1, n2, n3, n4, n5⟩ := ok_n hk hn
  refine w_seq ?_
  refine w_reg rfl ?_
  refine v_box (m := 0) (H' := [_]) lay28 rfl rfl rfl ?_
  refine v_assign (c := .v (.int .i64 0)) rfl ?_
  refine v_nil ?_
  refine q_n ?_
  refine w_seq ?_
  refine w_seq ?_
  refine w_draw [0, 0, 2, 6, 14, 30, 62, 127, 255] [⟨0, 0, []⟩, ⟨1, 0, []⟩, ⟨2, 0, []⟩, ⟨3, 0, []⟩, ⟨4, 0, []⟩, ⟨5, 0, []⟩, ⟨6, 0, []⟩, ⟨7, 0, []⟩, ⟨8, 0, []⟩] rfl rfl ?_
  refine d_q rfl rfl rfl rfl rfl ?_
  refine v_load_pt (.agg [_, _, _]) lay28 rfl rfl rfl rfl ?_
  refine v_nil ?_
  refine d_q rfl rfl rfl rfl rfl ?_
  refine v_move rfl ?_
  refine v_nil ?_
  refine d_callb (c68 _) rfl rfl rfl rfl (.cons vw_v .nil) (fun h1 => ?_) (fun h1 => ?_)
  rotate_left
  · exact absurd (by omega) h1
  refine d_q rfl rfl rfl rfl rfl ?_
  refine v_move rfl ?_
  refine v_nil ?_
  refine d_q rfl rfl rfl rfl rfl ?_
  refine v_move rfl ?_
  refine v_nil ?_
  refine d_callb (c77 _) rfl rfl rfl rfl (.cons vw_v .nil) (fun h2 => ?_) (fun h2 => ?_)
  rotate_left
  · exact absurd (by omega) h2
  refine d_q rfl rfl rfl rfl rfl ?_
  refine v_pick_t rfl rfl ?_
  refine v_nil ?_
  refine d_call (c36t _ _ _ (by omega)) rfl rfl rfl rfl rfl (.cons (vw_agg (.cons vw_sl (.cons vw_v (.cons vw_v .nil)))) (.cons vw_v .nil)) ?_
  refine d_q rfl rfl rfl rfl rfl ?_
  refine v_assign rfl ?_
  refine v_nil ?_
  refine d_nil ?_
  refine q_n ?_
  refine w_seq ?_
  refine w_reg rfl ?_
  refine v_move rfl ?_
  refine v_neq lay2 rfl rfl (fun h3 => ?_) (fun h3 => ?_)
  · exact absurd (pc_0 hk) h3
  refine v_nil ?_
  refine q_n ?_
  refine w_f rfl ?_
  refine w_skip ?_
  refine q_n ?_
  refine w_seq ?_
  refine w_reg rfl ?_
  refine v_load_pt (.agg [_, _, _]) lay28 rfl rfl rfl rfl ?_
  refine v_move rfl ?_
  refine v_call (c48 _ _ _ _ hk m n hn hm (by omega)) rfl rfl rfl (.cons (vw_agg (.cons vw_sl (.cons vw_v (.cons vw_v .nil)))) (.cons vw_v (.cons vw_v .nil))) ?_
  refine v_callb (c72 _ grL_len (by omega)) rfl rfl (.cons vw_sl (.cons vw_v .nil)) (fun h4 => ?_) (fun h4 => ?_)
  rotate_left
  · exact absurd (grL_ex hg) h4
  refine v_not false rfl rfl ?_
  refine v_call (cCodeIf _ _) rfl rfl rfl (.cons vw_v (.cons vw_v .nil)) ?_
  refine v_assign rfl ?_
  refine v_nil ?_
  refine q_n ?_
  refine w_ret ?_
  refine r_r rfl ?_
  exact a_i (by rfl)
theorem c29 (xs : List Slo) (b f : Int) (hk : okP xs b f) (m n : Nat) (hn : cyc xs b = n) (hm : m < 8) (hg : grn xs b m n) : PureC X 29 [.agg (pln false xs b f), cI m] (.tup [cI (cgr xs b f m n n), cI 0]) := by
  refine PureC.of_body (drawD_ok X) (fun _ _ => Go.Proofs.Try.call29 _ _) Go.Proofs.Try.func29 rfl (n := 29) rfl ?_
  obtain ⟨n1, n2, n3, n4, n5⟩ := ok_n hk hn
  refine w_seq ?_
  refine w_reg rfl ?_
  refine v_box (m := 0) (H' := [_]) lay28 rfl rfl rfl ?_
  refine v_assign (c := .v (.int .i64 0)) rfl ?_
  refine v_assign (c := .v (.int .i64 0)) rfl ?_
  refine v_nil ?_
  refine q_n ?_
  refine w_seq ?_
  refine w_seq ?_
  refine w_reg rfl ?_
  refine v_load_pt (.agg [_, _, _]) lay28 rfl rfl rfl rfl ?_
  refine v_move rfl ?_
  refine v_call (c58 _ _ _ hk m n hn hm hg) rfl rfl rfl (.cons (vw_agg (.cons vw_sl (.cons vw_v (.cons vw_v .nil)))) (.cons vw_v (.cons vw_v .nil))) ?_
  refine v_assign rfl ?_
  refine v_nil ?_
  refine q_n ?_
  refine w_seq ?_
  refine w_reg rfl ?_
  refine v_move rfl ?_
  refine v_neq lay2 rfl rfl (fun h1 => ?_) (fun h1 => ?_)
  · exact absurd rfl h1
  refine v_nil ?_
  refine q_n ?_
  refine w_f rfl ?_
  refine w_skip ?_
  refine q_n ?_
  refine w_seq ?_
  refine w_reg rfl ?_
  refine v_assign (c := .v (.int .i64 0)) rfl ?_
  refine v_nil ?_
  refine q_n ?_
  refine w_seq ?_
  refine w_seq ?_
  refine w_reg rfl ?_
  refine v_load_pt (.agg [_, _, _]) lay28 rfl rfl rfl rfl ?_
  refine v_move rfl ?_
  refine v_call (c48 _ _ _ _ hk m n hn hm (by omega)) rfl rfl rfl (.cons (vw_agg (.cons vw_sl (.cons vw_v (.cons vw_v .nil)))) (.cons vw_v (.cons vw_v .nil))) ?_
  refine v_len_sl lay73 rfl ?_
  refine v_move (c := .v (.int .i64 0)) rfl ?_
  refine v_nil ?_
  refine q_n ?_
  refine w_block ?_
  refine w_loop (fun k sl H => ∃ i : Nat, k = n - i ∧ i ≤ n ∧ sl = sls [(7, cI (cgr xs b f m n i)), (18, .c (.sl false n 1 (flat bo (grL xs b f m n 0)))), (19, cI n), (20, cI i)] ∧ H = []) ?_ ?_
  · refine ⟨_, _, _, ?_, 0, rfl, Nat.zero_le _, rfl, rfl⟩
    exact turn0 ⟨tr_v, (.c (.sl (fun h => by cases h))), tr_v, tr_v, trivial⟩
  rintro k sl H ⟨i, rfl, hi, rfl, rfl⟩
  have hcl : cgr xs b f m n i ≤ i := cnb_le
  refine w_seq ?_
  refine w_reg rfl ?_
  refine v_lss lay3 rfl rfl (fun h2 => ?_) (fun h2 => ?_)
  rotate_left
  · refine v_nil ?_
    refine q_n ?_
    refine w_seq ?_
    refine w_f rfl ?_
    refine w_exit ?_
    refine q_e ?_
    refine q_e ?_
    refine q_hit ?_
    refine q_n ?_
    refine w_seq ?_
    refine w_reg rfl ?_
    refine v_move rfl ?_
    refine v_assign rfl ?_
    refine v_assign (c := .v (.int .i64 0)) rfl ?_
    refine v_nil ?_
    refine q_n ?_
    refine w_ret ?_
    refine r_r rfl ?_
    obtain rfl : i = n := by omega
    exact a_tup (.cons tr_v (.cons tr_v .nil))
  have hi1 : i < (grL xs b f m n 0).length := by rw [grL_len]; omega
  refine v_nil ?_
  refine q_n ?_
  refine w_seq ?_
  refine w_t rfl ?_
  refine w_skip ?_
  refine q_n ?_
  refine w_seq ?_
  refine w_block ?_
  refine w_seq ?_
  refine w_reg rfl ?_
  refine v_idx_e (k := 1) (i) bo_len lay73 lay4 rfl rfl rfl (by rw [grL_len]) rfl (rfl) (hi1) ?_
  refine v_load_vwb lay4 rfl rfl rfl (fun h4 => ?_) (fun h4 => ?_)
  rotate_left
  · refine v_assign rfl ?_
    refine v_nil ?_
    refine q_n ?_
    refine w_seq ?_
    refine w_reg rfl ?_
    refine v_move rfl ?_
    refine v_nil ?_
    refine q_n ?_
    refine w_f rfl ?_
    refine w_skip ?_
    refine q_bn ?_
    refine q_n ?_
    refine w_reg rfl ?_
    refine v_add lay3 rfl rfl (i64r (by omega)) ?_
    refine v_move rfl ?_
    refine v_nil ?_
    refine q_n ?_
    rw [grL_at] at h4
    refine ⟨_, _, _, ?_, ⟨i + 1, rfl, by omega, rfl, rfl⟩, by omega⟩
    exact turn0 ⟨tr_i (cnb_f h4), tr_sl, tr_v, tr_v, trivial⟩
  refine v_assign rfl ?_
  refine v_nil ?_
  refine q_n ?_
  refine w_seq ?_
  refine w_reg rfl ?_
  refine v_move rfl ?_
  refine v_nil ?_
  refine q_n ?_
  refine w_t rfl ?_
  refine w_reg rfl ?_
  refine v_move rfl ?_
  refine v_add lay2 rfl rfl (i64r (by omega)) ?_
  refine v_assign rfl ?_
  refine v_nil ?_
  refine q_bn ?_
  refine q_n ?_
  refine w_reg rfl ?_
  refine v_add lay3 rfl rfl (i64r (by omega)) ?_
  refine v_move rfl ?_
  refine v_nil ?_
  refine q_n ?_
  rw [grL_at] at h4
  refine ⟨_, _, _, ?_, ⟨i + 1, rfl, by omega, rfl, rfl⟩, by omega⟩
  exact turn0 ⟨tr_i (cnb_t h4), tr_sl, tr_v, tr_v, trivial⟩
theorem c67 (p : Pln) (hp : p.1.length ≤ 2 ^ 40) : PureC X 67 [.agg (plf p)] (cB (decide (¬ okP p.1 p.2.1 p.2.2))) := by
  refine PureC.of_body (drawD_ok X) (fun _ _ => Go.Proofs.Try.call67 _ _) Go.Proofs.Try.func67 rfl (n := 6) rfl ?_
  refine w_seq ?_
  refine w_reg rfl ?_
  refine v_box (m := 0) (H' := [_]) lay28 rfl rfl rfl ?_
  refine v_assign (c := .v (.bool false)) rfl ?_
  refine v_nil ?_
  refine q_n ?_
  refine w_seq ?_
  refine w_reg rfl ?_
  refine v_load_pt (.agg [_, _, _]) lay28 rfl rfl rfl rfl ?_
  refine v_callb (c26 _ _ _ hp) rfl rfl (.cons (vw_agg (.cons vw_sl (.cons vw_v (.cons vw_v .nil)))) .nil) (fun h1 => ?_) (fun h1 => ?_)
  rotate_left
  · refine v_not true rfl rfl ?_
    refine v_assign rfl ?_
    refine v_nil ?_
    refine q_n ?_
    refine w_ret ?_
    refine r_r rfl ?_
    exact a_b (by simp_all)
  refine v_not false rfl rfl ?_
  refine v_assign rfl ?_
  refine v_nil ?_
  refine q_n ?_
  refine w_ret ?_
  refine r_r rfl ?_
  exact a_b (by simp_all)
theorem c70 (t : Int) : PureC X 70 [cI t] (cB (decide (¬ (0 ≤ t ∧ t ≤ 100000)))) := by
  refine PureC.of_body (drawD_ok X) (fun _ _ => Go.Proofs.Try.call70 _ _) Go.Proofs.Try.func70 rfl (n := 6) rfl ?_
  refine w_seq ?_
  refine w_reg rfl ?_
  refine v_assign (c := .v (.bool false)) rfl ?_
  refine v_nil ?_
  refine q_n ?_
  refine w_seq ?_
  refine w_reg rfl ?_
  refine v_move rfl ?_
  refine v_callb (cInR _ _ _) rfl rfl (.cons vw_v (.cons vw_v (.cons vw_v .nil))) (fun h1 => ?_) (fun h1 => ?_)
  rotate_left
  · refine v_not true rfl rfl ?_
    refine v_assign rfl ?_
    refine v_nil ?_
    refine q_n ?_
    refine w_ret ?_
    refine r_r rfl ?_
    exact a_b (by simp_all)
  refine v_not false rfl rfl ?_
  refine v_assign rfl ?_
  refine v_nil ?_
  refine q_n ?_
  refine w_ret ?_
  refine r_r rfl ?_
  exact a_b (by simp_all)
theorem c71 (p : Pln) (hk : okP p.1 p.2.1 p.2.2) (m n : Nat) (hn : cyc p.1 p.2.1 = n) (hm : m < 8) : PureC X 71 [.agg (plf p), .c (.vw false [.v (.int .i64 m)] 0)] (cB (decide (¬ ∃ x ∈ grL p.1 p.2.1 p.2.2 m n 0, x = true))) := by
  refine PureC.of_body (drawD_ok X) (fun _ _ => Go.Proofs.Try.call71 _ _) Go.Proofs.Try.func71 rfl (n := 9) rfl ?_
  obtain ⟨n1, n2, n3, n4, n5⟩ := ok_n hk hn
  refine w_seq ?_
  refine w_reg rfl ?_
  refine v_box (m := 0) (H' := [_]) lay28 rfl rfl rfl ?_
  refine v_assign (c := .v (.bool false)) rfl ?_
  refine v_nil ?_
  refine q_n ?_
  refine w_seq ?_
  refine w_reg rfl ?_
  refine v_load_pt (.agg [_, _, _]) lay28 rfl rfl rfl rfl ?_
  refine v_load_vw (.c (.v _)) lay2 rfl rfl rfl ?_
  refine v_call (c48 _ _ _ _ hk m n hn hm (by omega)) rfl rfl rfl (.cons (vw_agg (.cons vw_sl (.cons vw_v (.cons vw_v .nil)))) (.cons vw_v (.cons vw_v .nil))) ?_
  refine v_callb (c72 _ grL_len (by omega)) rfl rfl (.cons vw_sl (.cons vw_v .nil)) (fun h1 => ?_) (fun h1 => ?_)
  rotate_left
  · refine v_not true rfl rfl ?_
    refine v_assign rfl ?_
    refine v_nil ?_
    refine q_n ?_
    refine w_ret ?_
    refine r_r rfl ?_
    exact a_b (by simp_all)
  refine v_not false rfl rfl ?_
  refine v_assign rfl ?_
  refine v_nil ?_
  refine q_n ?_
  refine w_ret ?_
  refine r_r rfl ?_
  exact a_b (by simp_all)
theorem c80a (g : FuncId) (pr : Pln → Prop) [DecidablePred pr] (xs : List Pln) (hx : xs.length ≤ 2 ^ 40) (hF : ∀ x ∈ xs, PureC X g [.agg (plf x)] (cB (decide (pr x)))) : PureC X 80 [.c (.sl false xs.length 3 (flat plc xs)), .c (.fn g [])] (cI (fix pr xs)) := by
  refine PureC.of_body (drawD_ok X) (fun _ _ => Go.Proofs.Try.call80 _ _) Go.Proofs.Try.func80 rfl (n := 19) rfl ?_
  refine w_seq ?_
  refine w_reg rfl ?_
  refine v_assign (c := .v (.int .i64 0)) rfl ?_
  refine v_nil ?_
  refine q_n ?_
  refine w_seq ?_
  refine w_seq ?_
  refine w_reg rfl ?_
  refine v_move rfl ?_
  refine v_len_sl lay38 rfl ?_
  refine v_move (c := .v (.int .i64 0)) rfl ?_
  refine v_nil ?_
  refine q_n ?_
  refine w_block ?_
  refine w_loop (fun k sl H => ∃ i : Nat, k = xs.length - i ∧ i ≤ xs.length ∧ (∀ x ∈ xs.take i, ¬ pr x) ∧ sl = sls [(0, .c (.sl false xs.length 3 (flat plc xs))), (1, .c (.fn g [])), (7, cI xs.length), (8, cI i)] ∧ H = []) ?_ ?_
  · refine ⟨_, _, _, ?_, 0, rfl, Nat.zero_le _, by simp, rfl, rfl⟩
    exact turn0 ⟨tr_sl, tr_fn0, tr_v, tr_v, trivial⟩
  rintro k sl H ⟨i, rfl, hi, hp, rfl, rfl⟩
  refine w_seq ?_
  refine w_reg rfl ?_
  refine v_lss lay3 rfl rfl (fun h1 => ?_) (fun h1 => ?_)
  rotate_left
  · refine v_nil ?_
    refine q_n ?_
    refine w_seq ?_
    refine w_f rfl ?_
    refine w_exit ?_
    refine q_e ?_
    refine q_e ?_
    refine q_hit ?_
    refine q_n ?_
    refine w_seq ?_
    refine w_reg rfl ?_
    refine v_assign (c := .v (.int .i64 (-1))) rfl ?_
    refine v_nil ?_
    refine q_n ?_
    refine w_ret ?_
    refine r_r rfl ?_
    obtain rfl : i = xs.length := by omega
    rw [List.take_length] at hp
    exact a_i (fix_none hp).symm
  have hj : i < xs.length := by omega
  refine v_nil ?_
  refine q_n ?_
  refine w_seq ?_
  refine w_t rfl ?_
  refine w_skip ?_
  refine q_n ?_
  refine w_seq ?_
  refine w_block ?_
  refine w_seq ?_
  refine w_reg rfl ?_
  refine v_move rfl ?_
  refine v_assign rfl ?_
  refine v_nil ?_
  refine q_n ?_
  refine w_seq ?_
  refine w_reg rfl ?_
  refine v_move rfl ?_
  refine v_move rfl ?_
  refine v_move rfl ?_
  refine v_idx_e (k := 3) (i) plc_len lay38 lay28 rfl rfl rfl (rfl) rfl (rfl) ((by omega : i < xs.length)) ?_
  refine v_load_vw (.agg [_, .v _, .v _]) lay28 rfl rfl rfl ?_
  refine v_callb (hF _ (List.getElem_mem hj)) rfl rfl (.cons (vw_agg (.cons vw_sl (.cons vw_v (.cons vw_v .nil)))) .nil) (fun h3 => ?_) (fun h3 => ?_)
  · refine v_nil ?_
    refine q_n ?_
    refine w_t rfl ?_
    refine w_seq ?_
    refine w_reg rfl ?_
    refine v_move rfl ?_
    refine v_assign rfl ?_
    refine v_nil ?_
    refine q_n ?_
    refine w_ret (q_br (q_r (q_r (q_br (q_r ?_)))))
    refine r_r rfl ?_
    exact a_i (fix_hit hj hp h3).symm
  refine v_nil ?_
  refine q_n ?_
  refine w_f rfl ?_
  refine w_skip ?_
  refine q_bn ?_
  refine q_n ?_
  refine w_reg rfl ?_
  refine v_add lay3 rfl rfl (i64r (by omega)) ?_
  refine v_move rfl ?_
  refine v_nil ?_
  refine q_n ?_
  refine ⟨_, _, _, ?_, ⟨i + 1, rfl, by omega, all_step hj hp h3, rfl, rfl⟩, by omega⟩
  exact turn0 ⟨tr_sl, tr_fn0, tr_v, tr_v, trivial⟩
theorem c66a (g : FuncId) (pr : Pln → Prop) [DecidablePred pr] (xs : List Pln) (hx : xs.length ≤ 2 ^ 40) (hF : ∀ x ∈ xs, PureC X g [.agg (plf x)] (cB (decide (pr x)))) : PureC X 66 [.c (.sl false xs.length 3 (flat plc xs)), .c (.fn g [])] (cB (decide (∃ x ∈ xs, pr x))) := by
  refine PureC.of_body (drawD_ok X) (fun _ _ => Go.Proofs.Try.call66 _ _) Go.Proofs.Try.func66 rfl (n := 9) rfl ?_
  refine w_seq ?_
  refine w_reg rfl ?_
  refine v_assign (c := .v (.bool false)) rfl ?_
  refine v_nil ?_
  refine q_n ?_
  refine w_seq ?_
  refine w_reg rfl ?_
  refine v_move rfl ?_
  refine v_move rfl ?_
  refine v_call (c80a _ _ _ hx hF) rfl rfl rfl (.cons vw_sl (.cons (vw_fn .nil) .nil)) ?_
  refine v_geq lay3 rfl rfl (fun h1 => ?_) (fun h1 => ?_)
  · refine v_assign rfl ?_
    refine v_nil ?_
    refine q_n ?_
    refine w_ret ?_
    refine r_r rfl ?_
    exact a_b (by simp only [true_iff]; exact (fix_ge _ _).1 h1)
  refine v_assign rfl ?_
  refine v_nil ?_
  refine q_n ?_
  refine w_ret ?_
  refine r_r rfl ?_
  exact a_b (by simp only [Bool.false_eq_true, false_iff]; exact fun h => h1 ((fix_ge _ _).2 h))
theorem c80b (g : FuncId) (cs : List C) (pr : Pln → Prop) [DecidablePred pr] (xs : List Pln) (hx : xs.length ≤ 2 ^ 40) (hF : ∀ x ∈ xs, PureC X g [.agg (plf x), .c (.vw false cs 0)] (cB (decide (pr x)))) : PureC X 80 [.c (.sl false xs.length 3 (flat plc xs)), .c (.fn g [.vw false cs 0])] (cI (fix pr xs)) := by
  refine PureC.of_body (drawD_ok X) (fun _ _ => Go.Proofs.Try.call80 _ _) Go.Proofs.Try.func80 rfl (n := 19) rfl ?_
  refine w_seq ?_
  refine w_reg rfl ?_
  refine v_assign (c := .v (.int .i64 0)) rfl ?_
  refine v_nil ?_
  refine q_n ?_
  refine w_seq ?_
  refine w_seq ?_
  refine w_reg rfl ?_
  refine v_move rfl ?_
  refine v_len_sl lay38 rfl ?_
  refine v_move (c := .v (.int .i64 0)) rfl ?_
  refine v_nil ?_
  refine q_n ?_
  refine w_block ?_
  refine w_loop (fun k sl H => ∃ i : Nat, k = xs.length - i ∧ i ≤ xs.length ∧ (∀ x ∈ xs.take i, ¬ pr x) ∧ sl = sls [(0, .c (.sl false xs.length 3 (flat plc xs))), (1, .c (.fn g [.vw false cs 0])), (7, cI xs.length), (8, cI i)] ∧ H = []) ?_ ?_
  · refine ⟨_, _, _, ?_, 0, rfl, Nat.zero_le _, by simp, rfl, rfl⟩
    exact turn0 ⟨tr_sl, tr_fn1, tr_v, tr_v, trivial⟩
  rintro k sl H ⟨i, rfl, hi, hp, rfl, rfl⟩
  refine w_seq ?_
  refine w_reg rfl ?_
  refine v_lss lay3 rfl rfl (fun h1 => ?_) (fun h1 => ?_)
  rotate_left
  · refine v_nil ?_
    refine q_n ?_
    refine w_seq ?_
    refine w_f rfl ?_
    refine w_exit ?_
    refine q_e ?_
    refine q_e ?_
    refine q_hit ?_
    refine q_n ?_
    refine w_seq ?_
    refine w_reg rfl ?_
    refine v_assign (c := .v (.int .i64 (-1))) rfl ?_
    refine v_nil ?_
    refine q_n ?_
    refine w_ret ?_
    refine r_r rfl ?_
    obtain rfl : i = xs.length := by omega
    rw [List.take_length] at hp
    exact a_i (fix_none hp).symm
  have hj : i < xs.length := by omega
  refine v_nil ?_
  refine q_n ?_
  refine w_seq ?_
  refine w_t rfl ?_
  refine w_skip ?_
  refine q_n ?_
  refine w_seq ?_
  refine w_block ?_
  refine w_seq ?_
  refine w_reg rfl ?_
  refine v_move rfl ?_
  refine v_assign rfl ?_
  refine v_nil ?_
  refine q_n ?_
  refine w_seq ?_
  refine w_reg rfl ?_
  refine v_move rfl ?_
  refine v_move rfl ?_
  refine v_move rfl ?_
  refine v_idx_e (k := 3) (i) plc_len lay38 lay28 rfl rfl rfl (rfl) rfl (rfl) ((by omega : i < xs.length)) ?_
  refine v_load_vw (.agg [_, .v _, .v _]) lay28 rfl rfl rfl ?_
  refine v_callb (hF _ (List.getElem_mem hj)) rfl rfl (.cons (vw_agg (.cons vw_sl (.cons vw_v (.cons vw_v .nil)))) (.cons vw_vw .nil)) (fun h3 => ?_) (fun h3 => ?_)
  · refine v_nil ?_
    refine q_n ?_
    refine w_t rfl ?_
    refine w_seq ?_
    refine w_reg rfl ?_
    refine v_move rfl ?_
    refine v_assign rfl ?_
    refine v_nil ?_
    refine q_n ?_
    refine w_ret (q_br (q_r (q_r (q_br (q_r ?_)))))
    refine r_r rfl ?_
    exact a_i (fix_hit hj hp h3).symm
  refine v_nil ?_
  refine q_n ?_
  refine w_f rfl ?_
  refine w_skip ?_
  refine q_bn ?_
  refine q_n ?_
  refine w_reg rfl ?_
  refine v_add lay3 rfl rfl (i64r (by omega)) ?_
  refine v_move rfl ?_
  refine v_nil ?_
  refine q_n ?_
  refine ⟨_, _, _, ?_, ⟨i + 1, rfl, by omega, all_step hj hp h3, rfl, rfl⟩, by omega⟩
  exact turn0 ⟨tr_sl, tr_fn1, tr_v, tr_v, trivial⟩
theorem c66b (g : FuncId) (cs : List C) (pr : Pln → Prop) [DecidablePred pr] (xs : List Pln) (hx : xs.length ≤ 2 ^ 40) (hF : ∀ x ∈ xs, PureC X g [.agg (plf x), .c (.vw false cs 0)] (cB (decide (pr x)))) : PureC X 66 [.c (.sl false xs.length 3 (flat plc xs)), .c (.fn g [.vw false cs 0])] (cB (decide (∃ x ∈ xs, pr x))) := by
  refine PureC.of_body (drawD_ok X) (fun _ _ => Go.Proofs.Try.call66 _ _) Go.Proofs.Try.func66 rfl (n := 9) rfl ?_
  refine w_seq ?_
  refine w_reg rfl ?_
  refine v_assign (c := .v (.bool false)) rfl ?_
  refine v_nil ?_
  refine q_n ?_
  refine w_seq ?_
  refine w_reg rfl ?_
  refine v_move rfl ?_
  refine v_move rfl ?_
  refine v_call (c80b _ _ _ _ hx hF) rfl rfl rfl (.cons vw_sl (.cons (vw_fn (.cons vw_vw .nil)) .nil)) ?_
  refine v_geq lay3 rfl rfl (fun h1 => ?_) (fun h1 => ?_)
  · refine v_assign rfl ?_
    refine v_nil ?_
    refine q_n ?_
    refine w_ret ?_
    refine r_r rfl ?_
    exact a_b (by simp only [true_iff]; exact (fix_ge _ _).1 h1)
  refine v_assign rfl ?_
  refine v_nil ?_
  refine q_n ?_
  refine w_ret ?_
  refine r_r rfl ?_
  exact a_b (by simp only [Bool.false_eq_true, false_iff]; exact fun h => h1 ((fix_ge _ _).2 h))
theorem c82 (g : FuncId) (pr : Int → Prop) [DecidablePred pr] (xs : List Int) (hx : xs.length ≤ 2 ^ 40) (hF : ∀ x ∈ xs, PureC X g [cI x] (cB (decide (pr x)))) : PureC X 82 [.c (.sl false xs.length 1 (flat int xs)), .c (.fn g [])] (cI (fix pr xs)) := by
  refine PureC.of_body (drawD_ok X) (fun _ _ => Go.Proofs.Try.call82 _ _) Go.Proofs.Try.func82 rfl (n := 19) rfl ?_
  refine w_seq ?_
  refine w_reg rfl ?_
  refine v_assign (c := .v (.int .i64 0)) rfl ?_
  refine v_nil ?_
  refine q_n ?_
  refine w_seq ?_
  refine w_seq ?_
  refine w_reg rfl ?_
  refine v_move rfl ?_
  refine v_len_sl lay36 rfl ?_
  refine v_move (c := .v (.int .i64 0)) rfl ?_
  refine v_nil ?_
  refine q_n ?_
  refine w_block ?_
  refine w_loop (fun k sl H => ∃ i : Nat, k = xs.length - i ∧ i ≤ xs.length ∧ (∀ x ∈ xs.take i, ¬ pr x) ∧ sl = sls [(0, .c (.sl false xs.length 1 (flat int xs))), (1, .c (.fn g [])), (7, cI xs.length), (8, cI i)] ∧ H = []) ?_ ?_
  · refine ⟨_, _, _, ?_, 0, rfl, Nat.zero_le _, by simp, rfl, rfl⟩
    exact turn0 ⟨tr_sl, tr_fn0, tr_v, tr_v, trivial⟩
  rintro k sl H ⟨i, rfl, hi, hp, rfl, rfl⟩
  refine w_seq ?_
  refine w_reg rfl ?_
  refine v_lss lay3 rfl rfl (fun h1 => ?_) (fun h1 => ?_)
  rotate_left
  · refine v_nil ?_
    refine q_n ?_
    refine w_seq ?_
    refine w_f rfl ?_
    refine w_exit ?_
    refine q_e ?_
    refine q_e ?_
    refine q_hit ?_
    refine q_n ?_
    refine w_seq ?_
    refine w_reg rfl ?_
    refine v_assign (c := .v (.int .i64 (-1))) rfl ?_
    refine v_nil ?_
    refine q_n ?_
    refine w_ret ?_
    refine r_r rfl ?_
    obtain rfl : i = xs.length := by omega
    rw [List.take_length] at hp
    exact a_i (fix_none hp).symm
  have hj : i < xs.length := by omega
  refine v_nil ?_
  refine q_n ?_
  refine w_seq ?_
  refine w_t rfl ?_
  refine w_skip ?_
  refine q_n ?_
  refine w_seq ?_
  refine w_block ?_
  refine w_seq ?_
  refine w_reg rfl ?_
  refine v_move rfl ?_
  refine v_assign rfl ?_
  refine v_nil ?_
  refine q_n ?_
  refine w_seq ?_
  refine w_reg rfl ?_
  refine v_move rfl ?_
  refine v_move rfl ?_
  refine v_move rfl ?_
  refine v_idx_e (k := 1) (i) int_len lay36 lay2 rfl rfl rfl (rfl) rfl (rfl) ((by omega : i < xs.length)) ?_
  refine v_load_vw (.c (.v _)) lay2 rfl rfl rfl ?_
  refine v_callb (hF _ (List.getElem_mem hj)) rfl rfl (.cons vw_v .nil) (fun h3 => ?_) (fun h3 => ?_)
  · refine v_nil ?_
    refine q_n ?_
    refine w_t rfl ?_
    refine w_seq ?_
    refine w_reg rfl ?_
    refine v_move rfl ?_
    refine v_assign rfl ?_
    refine v_nil ?_
    refine q_n ?_
    refine w_ret (q_br (q_r (q_r (q_br (q_r ?_)))))
    refine r_r rfl ?_
    exact a_i (fix_hit hj hp h3).symm
  refine v_nil ?_
  refine q_n ?_
  refine w_f rfl ?_
  refine w_skip ?_
  refine q_bn ?_
  refine q_n ?_
  refine w_reg rfl ?_
  refine v_add lay3 rfl rfl (i64r (by omega)) ?_
  refine v_move rfl ?_
  refine v_nil ?_
  refine q_n ?_
  refine ⟨_, _, _, ?_, ⟨i + 1, rfl, by omega, all_step hj hp h3, rfl, rfl⟩, by omega⟩
  exact turn0 ⟨tr_sl, tr_fn0, tr_v, tr_v, trivial⟩
theorem c69 (g : FuncId) (pr : Int → Prop) [DecidablePred pr] (xs : List Int) (hx : xs.length ≤ 2 ^ 40) (hF : ∀ x ∈ xs, PureC X g [cI x] (cB (decide (pr x)))) : PureC X 69 [.c (.sl false xs.length 1 (flat int xs)), .c (.fn g [])] (cB (decide (∃ x ∈ xs, pr x))) := by
  refine PureC.of_body (drawD_ok X) (fun _ _ => Go.Proofs.Try.call69 _ _) Go.Proofs.Try.func69 rfl (n := 9) rfl ?_
  refine w_seq ?_
  refine w_reg rfl ?_
  refine v_assign (c := .v (.bool false)) rfl ?_
  refine v_nil ?_
  refine q_n ?_
  refine w_seq ?_
  refine w_reg rfl ?_
  refine v_move rfl ?_
  refine v_move rfl ?_
  refine v_call (c82 _ _ _ hx hF) rfl rfl rfl (.cons vw_sl (.cons (vw_fn .nil) .nil)) ?_
  refine v_geq lay3 rfl rfl (fun h1 => ?_) (fun h1 => ?_)
  · refine v_assign rfl ?_
    refine v_nil ?_
    refine q_n ?_
    refine w_ret ?_
    refine r_r rfl ?_
    exact a_b (by simp only [true_iff]; exact (fix_ge _ _).1 h1)
  refine v_assign rfl ?_
  refine v_nil ?_
  refine q_n ?_
  refine w_ret ?_
  refine r_r rfl ?_
  exact a_b (by simp only [Bool.false_eq_true, false_iff]; exact fun h => h1 ((fix_ge _ _).2 h))
theorem c46 (ps : List Pln) (ts : List Int) (m n : Nat) (hW : okW ps ts m n) : PureC X 46 [.c (pls false ps), .c (ints false ts), cI m] (cI 0) := by
  refine PureC.of_body (drawD_ok X) (fun _ _ => Go.Proofs.Try.call46 _ _) Go.Proofs.Try.func46 rfl (n := 62) rfl ?_
  have w1 := hW.ne
  have w2 := hW.le
  have w3 := hW.tl
  have w4 := hW.mm
  refine w_seq ?_
  refine w_reg rfl ?_
  refine v_box (m := 0) (H' := [_]) lay2 rfl rfl rfl ?_
  refine v_assign (c := .v (.int .i64 0)) rfl ?_
  refine v_nil ?_
  refine q_n ?_
  refine w_seq ?_
  refine w_reg rfl ?_
  refine v_move rfl ?_
  refine v_callb (c66a 67 (fun p => ¬ okP p.1 p.2.1 p.2.2) _ (by omega) (fun p hp => c67 p (by have := (hW.ok p hp).1.1; omega))) rfl rfl (.cons vw_sl (.cons (vw_fn .nil) .nil)) (fun h1 => ?_) (fun h1 => ?_)
  · exfalso; obtain ⟨p, h1, h2⟩ := h1; exact h2 (hW.ok p h1)
  refine v_assign rfl ?_
  refine v_nil ?_
  refine q_n ?_
  refine w_seq ?_
  refine w_reg rfl ?_
  refine v_move rfl ?_
  refine v_len_sl lay38 rfl ?_
  refine v_callb (cInR _ _ _) rfl rfl (.cons vw_v (.cons vw_v (.cons vw_v .nil))) (fun h2 => ?_) (fun h2 => ?_)
  rotate_left
  · exact absurd (by omega) h2
  refine v_not false rfl rfl ?_
  refine v_move rfl ?_
  refine v_guard_on rfl rfl ?_
  refine v_move rfl ?_
  refine v_guard_on rfl rfl ?_
  refine v_len_sl lay36 rfl ?_
  refine v_guard_on rfl rfl ?_
  refine v_move rfl ?_
  refine v_guard_on rfl rfl ?_
  refine v_len_sl lay38 rfl ?_
  refine v_guard_on rfl rfl ?_
  refine v_sub lay3 rfl rfl (i64r (by omega)) ?_
  refine v_guard_on rfl rfl ?_
  refine v_neq lay3 rfl rfl (fun h3 => ?_) (fun h3 => ?_)
  · exact absurd (by omega) h3
  refine v_pick_f rfl rfl ?_
  refine v_move rfl ?_
  refine v_guard_on rfl rfl ?_
  refine v_load_pt (.c _) lay2 rfl rfl rfl rfl ?_
  refine v_guard_on rfl rfl ?_
  refine v_callb (c68 _) rfl rfl (.cons vw_v .nil) (fun h4 => ?_) (fun h4 => ?_)
  rotate_left
  · exact absurd (by omega) h4
  refine v_guard_on rfl rfl ?_
  refine v_not false rfl rfl ?_
  refine v_pick_f rfl rfl ?_
  refine v_move rfl ?_
  refine v_guard_on rfl rfl ?_
  refine v_move rfl ?_
  refine v_guard_on rfl rfl ?_
  refine v_callb (c69 70 (fun t => ¬ (0 ≤ t ∧ t ≤ 100000)) _ (by omega) (fun t _ => c70 t)) rfl rfl (.cons vw_sl (.cons (vw_fn .nil) .nil)) (fun h5 => ?_) (fun h5 => ?_)
  · exact absurd (show _ from (by obtain ⟨t, h1, h2⟩ := h5; exact absurd (hW.tr t h1) h2)) (fun h : False => h)
  refine v_pick_f rfl rfl ?_
  refine v_assign rfl ?_
  refine v_nil ?_
  refine q_n ?_
  refine w_seq ?_
  refine w_seq ?_
  refine w_reg rfl ?_
  refine v_move rfl ?_
  refine v_call (cCodeIf _ _) rfl rfl rfl (.cons vw_v (.cons vw_v .nil)) ?_
  refine v_move rfl ?_
  refine v_call (cCodeIf _ _) rfl rfl rfl (.cons vw_v (.cons vw_v .nil)) ?_
  refine v_lit (flat int [_, _]) (H' := [_, _]) lay36 lay2 rfl rfl ⟨by decide, by decide⟩ rfl rfl ?_
  refine v_call (cFirst [_, _] (Nat.le_of_ble_eq_true rfl)) rfl rfl rfl (.cons (vw_mu2 int_sc int_len rfl (by first | (simp; done) | (simp; omega))) .nil) ?_
  refine v_assign rfl ?_
  refine v_nil ?_
  refine q_n ?_
  refine w_seq ?_
  refine w_reg rfl ?_
  refine v_move rfl ?_
  refine v_neq lay2 rfl rfl (fun h6 => ?_) (fun h6 => ?_)
  · exact absurd (by rfl) h6
  refine v_nil ?_
  refine q_n ?_
  refine w_f rfl ?_
  refine w_skip ?_
  refine q_n ?_
  refine w_seq ?_
  refine w_seq ?_
  refine w_reg rfl ?_
  refine v_move rfl ?_
  refine v_len_sl lay38 rfl ?_
  refine v_move (c := .v (.int .i64 0)) rfl ?_
  refine v_nil ?_
  refine q_n ?_
  refine w_block ?_
  refine w_loop (fun k sl H => ∃ i : Nat, k = ps.length - i ∧ i ≤ ps.length ∧ sl = sls [(0, .c (pls false ps)), (5, .c (.pt 0 0)), (44, .c (pls false ps)), (45, cI ps.length), (46, cI i)] ∧ H = [⟨[.v (.int .i64 m)], 2, true⟩]) ?_ ?_
  · refine ⟨_, _, _, ?_, 0, rfl, Nat.zero_le _, rfl, rfl⟩
    exact turn [some 0] rfl rfl rfl ⟨⟨_, rfl, .cons tr_v .nil⟩, trivial⟩ ⟨tr_sl, tr_pt rfl, tr_sl, tr_v, tr_v, trivial⟩
  rintro k sl H ⟨i, rfl, hi, rfl, rfl⟩
  refine w_seq ?_
  refine w_reg rfl ?_
  refine v_lss lay3 rfl rfl (fun h7 => ?_) (fun h7 => ?_)
  rotate_left
  · refine v_nil ?_
    refine q_n ?_
    refine w_seq ?_
    refine w_f rfl ?_
    refine w_exit ?_
    refine q_e ?_
    refine q_e ?_
    refine q_hit ?_
    refine q_n ?_
    refine w_seq ?_
    refine w_reg rfl ?_
    refine v_move rfl ?_
    refine v_fn rfl ?_
    refine v_callb (c66b 71 _ (fun p => ¬ ∃ x ∈ grL p.1 p.2.1 p.2.2 m n 0, x = true) _ (by omega) (fun p hp => c71 p (hW.ok p hp) m n (hW.cy p hp) hW.mm)) rfl rfl (.cons vw_sl (.cons (vw_fn (.cons (vw_pt rfl (.cons .v .nil)) .nil)) .nil)) (fun h11 => ?_) (fun h11 => ?_)
    · exfalso; obtain ⟨p, h1, h2⟩ := h11; exact h2 (grL_ex (hW.gn p h1))
    refine v_call (cCodeIf _ _) rfl rfl rfl (.cons vw_v (.cons vw_v .nil)) ?_
    refine v_assign rfl ?_
    refine v_nil ?_
    refine q_n ?_
    refine w_ret ?_
    refine r_r rfl ?_
    exact a_i (by rfl)
  have hi1 : i < ps.length := by omega
  obtain ⟨hk, hn, hg⟩ := hW.at hi1
  obtain ⟨n1, n2, n3, n4, n5⟩ := ok_n hk hn
  have h0 := hW.at (show 0 < ps.length by omega)
  have h01 := h0.2.1
  refine v_nil ?_
  refine q_n ?_
  refine w_seq ?_
  refine w_t rfl ?_
  refine w_skip ?_
  refine q_n ?_
  refine w_seq ?_
  refine w_block ?_
  refine w_seq ?_
  refine w_reg rfl ?_
  refine v_idx_e (k := 3) (i) plc_len lay38 lay28 rfl rfl rfl (rfl) rfl (rfl) (hi1) ?_
  refine v_load_vw (.agg [_, .v _, .v _]) lay28 rfl rfl rfl ?_
  refine v_alloc (m := 1) (H' := [_, ⟨[.v _, .v _, .v _], 28, true⟩]) lay28 rfl rfl ?_
  refine v_store (H' := [_, ⟨[_, _, _], 28, true⟩]) lay28 rfl rfl rfl rfl rfl rfl ?_
  refine v_nil ?_
  refine q_n ?_
  refine w_seq ?_
  refine w_draw [0, 1, 0, 4, 12, 31, 63] [⟨0, 0, []⟩, ⟨1, 0, []⟩, ⟨2, 0, []⟩, ⟨3, 0, []⟩, ⟨4, 0, []⟩, ⟨5, 0, []⟩, ⟨6, 0, []⟩] rfl rfl ?_
  refine d_q rfl rfl rfl rfl rfl ?_
  refine v_load_pt (.agg [_, _, _]) lay28 rfl rfl rfl rfl ?_
  refine v_nil ?_
  refine d_call (c40 _ _ _ hk.1.2.1 (by have := hk.1.2.2; omega) (by omega)) rfl rfl rfl rfl rfl (.cons (vw_agg (.cons vw_sl (.cons vw_v (.cons vw_v .nil)))) .nil) ?_
  refine d_q rfl rfl rfl rfl rfl ?_
  refine v_move rfl ?_
  refine v_nil ?_
  refine d_q rfl rfl rfl rfl rfl ?_
  refine v_idx_e (k := 3) (0) plc_len lay38 lay28 rfl rfl rfl (rfl) rfl (rfl) (by omega) ?_
  refine v_nil ?_
  refine d_q rfl rfl rfl rfl rfl ?_
  refine v_load_vw (.agg [_, .v _, .v _]) lay28 rfl rfl rfl ?_
  refine v_nil ?_
  refine d_call (c40 _ _ _ h0.1.1.2.1 (by have := h0.1.1.2.2; omega) (by have := h0.1.1.1; omega)) rfl rfl rfl rfl rfl (.cons (vw_agg (.cons vw_sl (.cons vw_v (.cons vw_v .nil)))) .nil) ?_
  refine d_q rfl rfl rfl rfl rfl ?_
  refine v_neq lay2 rfl rfl (fun h10 => ?_) (fun h10 => ?_)
  · exact absurd (by omega) h10
  refine v_nil ?_
  refine d_nil ?_
  refine q_n ?_
  refine w_f rfl ?_
  refine w_skip ?_
  refine q_bn ?_
  refine q_n ?_
  refine w_reg rfl ?_
  refine v_add lay3 rfl rfl (i64r (by omega)) ?_
  refine v_move rfl ?_
  refine v_nil ?_
  refine q_n ?_
  refine ⟨_, _, _, ?_, ⟨i + 1, rfl, by omega, rfl, rfl⟩, by omega⟩
  exact turn [some 0] rfl rfl rfl ⟨⟨_, rfl, .cons tr_v .nil⟩, trivial⟩ ⟨tr_sl, tr_pt rfl, tr_sl, tr_v, tr_v, trivial⟩
end Go.VL
namespace Go.VL
open Go.RowKit
set_option maxRecDepth 20000
set_option maxHeartbeats 8000000
theorem c40n (xs : List Slo) (b f : Int) {n : Nat} (hk : okP xs b f) (hn : cyc xs b = n) : PureC X 40 [.agg (pln false xs b f)] (cI n) := by
  rw [← hn]
  exact c40 xs b f hk.1.2.1 hk.1.2.2 (by have := hk.1.1; omega)
theorem pl_frz {xs : List Slo} {b f : Int} : TrV [⟨flat stc xs, 82, true⟩] [] (.agg [.mu 0 0 xs.length 9, .v (.int .i64 b), .v (.int .i64 f)]) (.agg (pln true xs b f)) := a_agg (.cons (a_flat stc_sc stc_len rfl rfl) (.cons tr_v (.cons tr_v .nil)))
theorem c17 (ps : List Pln) (ts : List Int) (m n : Nat) (hW : okW ps ts m n) : PureC X 17 [.c (pls false ps), .c (ints false ts), cI m] (.tup [.c (.sl true ps.length 3 (flat plc ((List.range ps.length).map (wvp ps ts m n)))), cI 0]) := by
  refine PureC.of_body (drawD_ok X) (fun _ _ => Go.Proofs.Try.call17 _ _) Go.Proofs.Try.func17 rfl (n := 63) rfl ?_
  have w1 := hW.ne
  have w2 := hW.le
  have w3 := hW.tl
  have w4 := hW.mm
  refine w_seq ?_
  refine w_reg rfl ?_
  refine v_assign rfl ?_
  refine v_assign (c := .v (.int .i64 0)) rfl ?_
  refine v_nil ?_
  refine q_n ?_
  refine w_seq ?_
  refine w_seq ?_
  refine w_reg rfl ?_
  refine v_move rfl ?_
  refine v_move rfl ?_
  refine v_move rfl ?_
  refine v_call (c46 ps ts m n hW) rfl rfl rfl (.cons vw_sl (.cons vw_sl (.cons vw_v .nil))) ?_
  refine v_assign rfl ?_
  refine v_nil ?_
  refine q_n ?_
  refine w_seq ?_
  refine w_reg rfl ?_
  refine v_move rfl ?_
  refine v_neq lay2 rfl rfl (fun h1 => ?_) (fun h1 => ?_)
  · exact absurd rfl h1
  refine v_nil ?_
  refine q_n ?_
  refine w_f rfl ?_
  refine w_skip ?_
  refine q_n ?_
  refine w_seq ?_
  refine w_reg rfl ?_
  refine v_lit (flat plc []) (H' := [_]) lay38 lay28 rfl rfl ⟨by decide, by decide⟩ rfl rfl ?_
  refine v_assign rfl ?_
  refine v_assign (c := .v (.int .i64 0)) rfl ?_
  refine v_nil ?_
  refine q_n ?_
  refine w_seq ?_
  refine w_seq ?_
  refine w_reg rfl ?_
  refine v_move rfl ?_
  refine v_len_sl lay38 rfl ?_
  refine v_move (c := .v (.int .i64 0)) rfl ?_
  refine v_nil ?_
  refine q_n ?_
  refine w_block ?_
  refine w_loop (fun k sl H => ∃ i : Nat, k = ps.length - i ∧ i ≤ ps.length ∧ sl = sls [(1, .c (ints false ts)), (2, cI m), (9, .c (.mu 0 0 i 3)), (10, cI (gG ps ts m n i)), (23, .c (pls false ps)), (24, cI ps.length), (25, cI i)] ∧ H = [⟨flat plc ((List.range i).map (wvp ps ts m n)), 28, true⟩]) ?_ ?_
  · refine ⟨_, _, _, ?_, 0, rfl, Nat.zero_le _, rfl, rfl⟩
    exact turn [some 0] rfl rfl rfl ⟨⟨_, rfl, trc_flatz plc_sc (xs := []) rfl⟩, trivial⟩ ⟨tr_sl, tr_v, tr_mun rfl rfl, tr_v, tr_sl, tr_v, tr_v, trivial⟩
  rintro k sl H ⟨i, rfl, hi, rfl, rfl⟩
  refine w_seq ?_
  refine w_reg rfl ?_
  refine v_lss lay3 rfl rfl (fun h2 => ?_) (fun h2 => ?_)
  rotate_left
  · refine v_nil ?_
    refine q_n ?_
    refine w_seq ?_
    refine w_f rfl ?_
    refine w_exit ?_
    refine q_e ?_
    refine q_e ?_
    refine q_hit ?_
    refine q_n ?_
    refine w_seq ?_
    refine w_reg rfl ?_
    refine v_move rfl ?_
    refine v_assign rfl ?_
    refine v_assign (c := .v (.int .i64 0)) rfl ?_
    refine v_nil ?_
    refine q_n ?_
    refine w_ret ?_
    refine r_r rfl ?_
    obtain rfl : i = ps.length := by omega
    exact a_tup (.cons (a_flatz plc_sc plc_len rfl rfl (by simp) rfl) (.cons tr_v .nil))
  have hi1 : i < ps.length := by omega
  obtain ⟨hk, hn, hg⟩ := hW.at hi1
  obtain ⟨n1, n2, n3, n4, n5⟩ := ok_n hk hn
  refine v_nil ?_
  refine q_n ?_
  refine w_seq ?_
  refine w_t rfl ?_
  refine w_skip ?_
  refine q_n ?_
  refine w_seq ?_
  refine w_block ?_
  refine w_seq ?_
  refine w_reg rfl ?_
  refine v_move rfl ?_
  refine v_idx_e (k := 3) (i) plc_len lay38 lay28 rfl rfl rfl (rfl) rfl (rfl) (hi1) ?_
  refine v_load_vw (.agg [_, .v _, .v _]) lay28 rfl rfl rfl ?_
  refine v_alloc (m := 1) (H' := [_, ⟨[.v _, .v _, .v _], 28, true⟩]) lay28 rfl rfl ?_
  refine v_assign rfl ?_
  refine v_store (H' := [_, ⟨[_, _, _], 28, true⟩]) lay28 rfl rfl rfl rfl rfl rfl ?_
  refine v_nil ?_
  refine q_n ?_
  refine w_seq ?_
  refine w_reg rfl ?_
  refine v_load_pt (.agg [_, _, _]) lay28 rfl rfl rfl rfl ?_
  refine v_move rfl ?_
  refine v_fa_pt (off' := 2) lay28 rfl rfl rfl ?_
  refine v_load_pt (.c _) lay2 rfl rfl rfl rfl ?_
  refine v_call (c48 _ _ _ _ hk m n hn w4 (by omega)) rfl rfl rfl (.cons (vw_agg (.cons vw_sl (.cons vw_v (.cons vw_v .nil)))) (.cons vw_v (.cons vw_v .nil))) ?_
  refine v_call (c47 _ grL_len (by omega)) rfl rfl rfl (.cons vw_sl (.cons vw_v .nil)) ?_
  refine v_assign rfl ?_
  refine v_nil ?_
  refine q_n ?_
  refine w_seq ?_
  refine w_reg rfl ?_
  refine v_load_pt (.agg [_, _, _]) lay28 rfl rfl rfl rfl ?_
  refine v_call ((c38l _ _ _ (by omega)).pure pl_frz) rfl rfl rfl (.cons (vw_agg (.cons vw_sl (.cons vw_v (.cons vw_v .nil)))) .nil) ?_
  refine v_alloc (m := 2) (H' := [_, _, ⟨[.v _, .v _, .v _], 28, true⟩]) lay28 rfl rfl ?_
  refine v_store (H' := [_, _, ⟨[_, _, _], 28, true⟩]) lay28 rfl rfl rfl rfl rfl rfl ?_
  refine v_nil ?_
  refine q_n ?_
  refine w_seq ?_
  refine w_seq ?_
  refine w_reg rfl ?_
  refine v_move rfl ?_
  refine v_gtr lay3 rfl rfl (fun h4 => ?_) (fun h4 => ?_)
  rotate_left
  · obtain rfl : i = 0 := by omega
    have hbi := bgn_rng hg
    have hbu : bgn ps[0] m n = fix (fun x => x = true) (grL ps[0].1 ps[0].2.1 ps[0].2.2 m n ps[0].2.2) := rfl
    rw [hbu] at hbi
    refine v_nil ?_
    refine q_n ?_
    refine w_f rfl ?_
    refine w_skip ?_
    refine q_n ?_
    refine w_seq ?_
    refine w_reg rfl ?_
    refine v_fa_pt (off' := 2) lay28 rfl rfl rfl ?_
    refine v_load_pt (.c _) lay2 rfl rfl rfl rfl ?_
    refine v_move rfl ?_
    refine v_add lay2 rfl rfl (i64r (by omega)) ?_
    refine v_assign rfl ?_
    refine v_nil ?_
    refine q_n ?_
    refine w_reg rfl ?_
    refine v_move rfl ?_
    refine v_load_pt (.agg [_, _, _]) lay28 rfl rfl rfl rfl ?_
    refine v_lit (flat plc [(ps[0].1, ps[0].2.1, _)]) (H' := [_, _, _, _]) lay38 lay28 rfl rfl ⟨by decide, by decide⟩ rfl rfl ?_
    refine v_app_flatz (H' := [_, _, _, _, _]) plc_sc plc_len lay38 lay28 rfl rfl (by simp) rfl rfl (by simp) rfl rfl (by unfold maxLen; simp only []; omega) rfl rfl ?_
    refine v_assign rfl ?_
    refine v_nil ?_
    refine q_bn ?_
    refine q_n ?_
    refine w_reg rfl ?_
    refine v_add lay3 rfl rfl (i64r (by omega)) ?_
    refine v_move rfl ?_
    refine v_nil ?_
    refine q_n ?_
    refine ⟨_, _, _, ?_, ⟨0 + 1, rfl, by omega, rfl, rfl⟩, by omega⟩
    exact turn [some 4] rfl rfl rfl ⟨⟨_, rfl, trc_flatz plc_sc (snoc_eq _ (0) (by unfold wvp; rw [wof_0 (by rw [pa_at hi1]; exact ⟨n3, n4⟩), pa_at hi1]; rfl))⟩, trivial⟩ ⟨tr_sl, tr_v, tr_mun rfl (by simp), tr_i (by simp only [gG]; rw [wof_0 (by rw [pa_at hi1]; exact ⟨n3, n4⟩), pa_at hi1]; rfl), tr_sl, tr_v, tr_v, trivial⟩
  obtain ⟨j, rfl⟩ : ∃ j, i = j + 1 := ⟨i - 1, by omega⟩
  have hj : j < ts.length := by omega
  have htj := hW.tr _ (List.getElem_mem hj)
  have hwj := wof_rng (ps := ps) (ts := ts) (m := m) (i := j) (show 0 < n by omega)
  have hbj := bgn_rng (hW.at (show j < ps.length by omega)).2.2
  have hbi := bgn_rng hg
  have hwo := wof_step (ps := ps) (m := m) hj (show 0 < n by omega)
  rw [pa_at hi1] at hwo
  have hgv : gG ps ts m n (j + 1) = wof ps ts m n j + bgn ps[j] m n := by simp only [gG]; rw [pa_at (by omega)]
  have hbu : bgn ps[j + 1] m n = fix (fun x => x = true) (grL ps[j + 1].1 ps[j + 1].2.1 ps[j + 1].2.2 m n ps[j + 1].2.2) := rfl
  rw [hbu] at hbi
  have hwr := wof_rng (ps := ps) (ts := ts) (m := m) (i := j + 1) (show 0 < n by omega)
  rw [← hwo, hbu] at hwr
  rw [hbu] at hwo
  refine v_nil ?_
  refine q_n ?_
  refine w_t rfl ?_
  refine w_draw [0, 0, 0, 4, 14, 30, 63, 0, 255, 0, 512, 2047, 4095, 8191] [⟨0, 0, []⟩, ⟨1, 0, []⟩, ⟨2, 0, []⟩, ⟨3, 0, []⟩, ⟨4, 0, []⟩, ⟨5, 0, []⟩, ⟨6, 0, []⟩, ⟨7, 0, []⟩, ⟨8, 0, []⟩, ⟨9, 0, []⟩, ⟨10, 0, []⟩, ⟨11, 0, []⟩, ⟨12, 0, []⟩, ⟨13, 1, []⟩] rfl rfl ?_
  refine d_q rfl rfl rfl rfl rfl ?_
  refine v_move rfl ?_
  refine v_nil ?_
  refine d_q rfl rfl rfl rfl rfl ?_
  refine v_move rfl ?_
  refine v_nil ?_
  refine d_q rfl rfl rfl rfl rfl ?_
  refine v_move rfl ?_
  refine v_nil ?_
  refine d_q rfl rfl rfl rfl rfl ?_
  refine v_sub lay3 rfl rfl (i64r (by omega)) ?_
  refine v_nil ?_
  refine d_q rfl rfl rfl rfl rfl ?_
  refine v_idx_e (k := 1) (j) int_len lay36 lay2 rfl rfl rfl (rfl) rfl (by push_cast; omega) (hj) ?_
  refine v_nil ?_
  refine d_q rfl rfl rfl rfl rfl ?_
  refine v_load_vw (.c (.v _)) lay2 rfl rfl rfl ?_
  refine v_nil ?_
  refine d_q rfl rfl rfl rfl rfl ?_
  refine v_add lay2 rfl rfl (i64r (by omega)) ?_
  refine v_nil ?_
  refine d_q rfl rfl rfl rfl rfl ?_
  refine v_move rfl ?_
  refine v_nil ?_
  refine d_q rfl rfl rfl rfl rfl ?_
  refine v_sub lay2 rfl rfl (i64r (by omega)) ?_
  refine v_nil ?_
  refine d_q rfl rfl rfl rfl rfl ?_
  refine v_load_pt (.agg [_, _, _]) lay28 rfl rfl rfl rfl ?_
  refine v_nil ?_
  refine d_call (c40n _ _ _ hk hn) rfl rfl rfl rfl rfl (.cons (vw_agg (.cons vw_sl (.cons vw_v (.cons vw_v .nil)))) .nil) ?_
  refine d_call (c39 _ _ (by omega) (by omega)) rfl rfl rfl rfl rfl (.cons vw_v (.cons vw_v .nil)) ?_
  refine d_q rfl rfl rfl rfl rfl ?_
  refine v_fa_pt (off' := 2) lay28 rfl rfl rfl ?_
  refine v_nil ?_
  refine d_e rfl rfl rfl ?_
  refine v_store (H' := [_, _, ⟨[_, _, _], 28, true⟩]) lay2 rfl rfl rfl rfl rfl rfl ?_
  refine v_nil ⟨again_nil, ?_⟩
  refine d_nil ?_
  refine q_n ?_
  refine w_seq ?_
  refine w_reg rfl ?_
  refine v_fa_pt (off' := 2) lay28 rfl rfl rfl ?_
  refine v_load_pt (.c _) lay2 rfl rfl rfl rfl ?_
  refine v_move rfl ?_
  refine v_add lay2 rfl rfl (i64r (by omega)) ?_
  refine v_assign rfl ?_
  refine v_nil ?_
  refine q_n ?_
  refine w_reg rfl ?_
  refine v_move rfl ?_
  refine v_load_pt (.agg [_, _, _]) lay28 rfl rfl rfl rfl ?_
  refine v_lit (flat plc [(ps[j + 1].1, ps[j + 1].2.1, ((gG ps ts m n (j + 1) + ts[j] - fix (fun x => x = true) (grL ps[j + 1].1 ps[j + 1].2.1 ps[j + 1].2.2 m n ps[j + 1].2.2)).tmod n + n).tmod n)]) (H' := [_, _, _, _]) lay38 lay28 rfl rfl ⟨by decide, by decide⟩ rfl rfl ?_
  refine v_app_flatz (H' := [_, _, _, _, _]) plc_sc plc_len lay38 lay28 rfl rfl (by simp) rfl rfl (by simp) rfl rfl (by unfold maxLen; simp only []; omega) rfl rfl ?_
  refine v_assign rfl ?_
  refine v_nil ?_
  refine q_bn ?_
  refine q_n ?_
  refine w_reg rfl ?_
  refine v_add lay3 rfl rfl (i64r (by omega)) ?_
  refine v_move rfl ?_
  refine v_nil ?_
  refine q_n ?_
  refine ⟨_, _, _, ?_, ⟨j + 1 + 1, rfl, by omega, rfl, rfl⟩, by omega⟩
  exact turn [some 4] rfl rfl rfl ⟨⟨_, rfl, trc_flatz plc_sc (snoc_eq _ (j + 1) (by unfold wvp; rw [pa_at hi1]; exact congrArg (fun z => ((ps[j + 1].1, ps[j + 1].2.1, z) : Pln)) hwo.symm))⟩, trivial⟩ ⟨tr_sl, tr_v, tr_mun rfl (by simp), tr_i (by rw [hwo, ← hbu, ← pa_at hi1]; rfl), tr_sl, tr_v, tr_v, trivial⟩
theorem c27 (ps : List Pln) (ts : List Int) (m n : Nat) (hW : okW ps ts m n) : PureC X 27 [.c (pls false ps), .c (ints false ts), cI m] (.tup [cI (wid ps ts m n n), cI 0]) := by
  refine PureC.of_body (drawD_ok X) (fun _ _ => Go.Proofs.Try.call27 _ _) Go.Proofs.Try.func27 rfl (n := 57) rfl ?_
  have w1 := hW.ne
  have w2 := hW.le
  have w3 := hW.tl
  have w4 := hW.mm
  have h0 := hW.at (show 0 < ps.length by omega)
  obtain ⟨z1, z2, -, -, -⟩ := ok_n h0.1 h0.2.1
  refine w_seq ?_
  refine w_reg rfl ?_
  refine v_assign (c := .v (.int .i64 0)) rfl ?_
  refine v_assign (c := .v (.int .i64 0)) rfl ?_
  refine v_nil ?_
  refine q_n ?_
  refine w_seq ?_
  refine w_seq ?_
  refine w_reg rfl ?_
  refine v_move rfl ?_
  refine v_move rfl ?_
  refine v_move rfl ?_
  refine v_call (c46 ps ts m n hW) rfl rfl rfl (.cons vw_sl (.cons vw_sl (.cons vw_v .nil))) ?_
  refine v_assign rfl ?_
  refine v_nil ?_
  refine q_n ?_
  refine w_seq ?_
  refine w_reg rfl ?_
  refine v_move rfl ?_
  refine v_neq lay2 rfl rfl (fun h1 => ?_) (fun h1 => ?_)
  · exact absurd rfl h1
  refine v_nil ?_
  refine q_n ?_
  refine w_f rfl ?_
  refine w_skip ?_
  refine q_n ?_
  refine w_seq ?_
  refine w_reg rfl ?_
  refine v_assign (c := .v (.int .i64 0)) rfl ?_
  refine v_nil ?_
  refine q_n ?_
  refine w_seq ?_
  refine w_seq ?_
  refine w_reg rfl ?_
  refine v_move rfl ?_
  refine v_idx_e (k := 3) (0) plc_len lay38 lay28 rfl rfl rfl (rfl) rfl (rfl) (by omega) ?_
  refine v_load_vw (.agg [_, .v _, .v _]) lay28 rfl rfl rfl ?_
  refine v_call (c40n _ _ _ h0.1 h0.2.1) rfl rfl rfl (.cons (vw_agg (.cons vw_sl (.cons vw_v (.cons vw_v .nil)))) .nil) ?_
  refine v_move (c := .v (.int .i64 0)) rfl ?_
  refine v_nil ?_
  refine q_n ?_
  refine w_block ?_
  refine w_loop (fun k sl H => ∃ i : Nat, k = n - i ∧ i ≤ n ∧ sl = sls [(0, .c (pls false ps)), (1, .c (ints false ts)), (2, cI m), (9, cI (wid ps ts m n i)), (24, cI n), (25, cI i)] ∧ H = []) ?_ ?_
  · refine ⟨_, _, _, ?_, 0, rfl, Nat.zero_le _, rfl, rfl⟩
    exact turn0 ⟨tr_sl, tr_sl, tr_v, tr_v, tr_v, tr_v, trivial⟩
  rintro k sl H ⟨i, rfl, hi, rfl, rfl⟩
  have hcl : wid ps ts m n i ≤ i := cnb_le
  refine w_seq ?_
  refine w_reg rfl ?_
  refine v_lss lay2 rfl rfl (fun h3 => ?_) (fun h3 => ?_)
  rotate_left
  · refine v_nil ?_
    refine q_n ?_
    refine w_seq ?_
    refine w_f rfl ?_
    refine w_exit ?_
    refine q_e ?_
    refine q_e ?_
    refine q_hit ?_
    refine q_n ?_
    refine w_seq ?_
    refine w_reg rfl ?_
    refine v_move rfl ?_
    refine v_assign rfl ?_
    refine v_assign (c := .v (.int .i64 0)) rfl ?_
    refine v_nil ?_
    refine q_n ?_
    refine w_ret ?_
    refine r_r rfl ?_
    obtain rfl : i = n := by omega
    exact a_tup (.cons tr_v (.cons tr_v .nil))
  refine v_nil ?_
  refine q_n ?_
  refine w_seq ?_
  refine w_t rfl ?_
  refine w_skip ?_
  refine q_n ?_
  refine w_seq ?_
  refine w_block ?_
  refine w_seq ?_
  refine w_reg rfl ?_
  refine v_move rfl ?_
  refine v_assign rfl ?_
  refine v_nil ?_
  refine q_n ?_
  refine w_seq ?_
  refine w_reg rfl ?_
  refine v_assign (c := .v (.bool true)) rfl ?_
  refine v_nil ?_
  refine q_n ?_
  refine w_seq ?_
  refine w_seq ?_
  refine w_reg rfl ?_
  refine v_move rfl ?_
  refine v_len_sl lay38 rfl ?_
  refine v_move (c := .v (.int .i64 0)) rfl ?_
  refine v_nil ?_
  refine q_n ?_
  refine w_block ?_
  refine w_loop (fun k sl H => ∃ j : Nat, k = ps.length - j ∧ j ≤ ps.length ∧ sl = sls [(0, .c (pls false ps)), (1, .c (ints false ts)), (2, cI m), (9, cI (wid ps ts m n i)), (10, cI ((i : Int) + sumT ts (j - 1))), (11, cB (mtb ps ts m n i j)), (24, cI n), (25, cI i), (28, .c (pls false ps)), (29, cI ps.length), (30, cI j)] ∧ H = []) ?_ ?_
  · refine ⟨_, _, _, ?_, 0, rfl, Nat.zero_le _, rfl, rfl⟩
    exact turn0 ⟨tr_sl, tr_sl, tr_v, tr_v, tr_i (by simp [sumT]), tr_v, tr_v, tr_v, tr_sl, tr_v, tr_v, trivial⟩
  rintro k sl H ⟨j, rfl, hj, rfl, rfl⟩
  have hS := sumT_rng hW.tr (i := j - 1) (by omega)
  rcases hacc : mtb ps ts m n i j with _ | _
  · skip
    refine w_seq ?_
    refine w_reg rfl ?_
    refine v_lss lay3 rfl rfl (fun h4 => ?_) (fun h4 => ?_)
    rotate_left
    · refine v_nil ?_
      refine q_n ?_
      refine w_seq ?_
      refine w_f rfl ?_
      refine w_exit ?_
      refine q_e ?_
      refine q_e ?_
      refine q_hit ?_
      refine q_n ?_
      refine w_seq ?_
      refine w_reg rfl ?_
      refine v_move rfl ?_
      refine v_nil ?_
      refine q_n ?_
      refine w_f rfl ?_
      refine w_skip ?_
      refine q_bn ?_
      refine q_n ?_
      refine w_reg rfl ?_
      refine v_add lay2 rfl rfl (i64r (by omega)) ?_
      refine v_move rfl ?_
      refine v_nil ?_
      refine q_n ?_
      obtain rfl : j = ps.length := by omega
      refine ⟨_, _, _, ?_, ⟨i + 1, rfl, by omega, rfl, rfl⟩, by omega⟩
      exact turn0 ⟨tr_sl, tr_sl, tr_v, tr_i (cnb_f hacc), tr_v, tr_v, trivial⟩
    have hi1 : j < ps.length := by omega
    obtain ⟨hk, hn, hg⟩ := hW.at hi1
    obtain ⟨n1, n2, n3, n4, n5⟩ := ok_n hk hn
    refine v_nil ?_
    refine q_n ?_
    refine w_seq ?_
    refine w_t rfl ?_
    refine w_skip ?_
    refine q_n ?_
    refine w_seq ?_
    refine w_block ?_
    refine w_seq ?_
    refine w_reg rfl ?_
    refine v_move rfl ?_
    refine v_idx_e (k := 3) (j) plc_len lay38 lay28 rfl rfl rfl (rfl) rfl (rfl) (hi1) ?_
    refine v_load_vw (.agg [_, .v _, .v _]) lay28 rfl rfl rfl ?_
    refine v_alloc (m := 0) (H' := [⟨[.v _, .v _, .v _], 28, true⟩]) lay28 rfl rfl ?_
    refine v_assign rfl ?_
    refine v_store (H' := [⟨[_, _, _], 28, true⟩]) lay28 rfl rfl rfl rfl rfl rfl ?_
    refine v_nil ?_
    refine q_n ?_
    refine w_seq ?_
    refine w_seq ?_
    refine w_reg rfl ?_
    refine v_move rfl ?_
    refine v_gtr lay3 rfl rfl (fun h6 => ?_) (fun h6 => ?_)
    rotate_left
    · obtain rfl : j = 0 := by omega
      have hx : (i : Int) + sumT ts (0 - 1) = (i : Int) + sumT ts 0 := rfl
      refine v_nil ?_
      refine q_n ?_
      refine w_f rfl ?_
      refine w_skip ?_
      refine q_n ?_
      refine w_reg rfl ?_
      refine v_move rfl ?_
      refine v_move rfl ?_
      refine v_guard_off rfl rfl rfl ?_
      refine v_guard_off rfl rfl rfl ?_
      refine v_guard_off rfl rfl rfl ?_
      refine v_guard_off rfl rfl rfl ?_
      refine v_pick_f (v := .v (.bool false)) rfl rfl ?_
      refine v_assign rfl ?_
      refine v_nil ?_
      refine q_bn ?_
      refine q_n ?_
      refine w_reg rfl ?_
      refine v_add lay3 rfl rfl (i64r (by omega)) ?_
      refine v_move rfl ?_
      refine v_nil ?_
      refine q_n ?_
      refine ⟨_, _, _, ?_, ⟨0 + 1, rfl, by omega, rfl, rfl⟩, by omega⟩
      exact turn0 ⟨tr_sl, tr_sl, tr_v, tr_v, tr_i hx, tr_bb (Eq.symm (by rw [mtb_s hi1 hx, hacc]; first | (simp; done) | simpa using hgr)), tr_v, tr_v, tr_sl, tr_v, tr_v, trivial⟩
    obtain ⟨q, rfl⟩ : ∃ q, j = q + 1 := ⟨j - 1, by omega⟩
    have hq : q < ts.length := by omega
    have htq := hW.tr _ (List.getElem_mem hq)
    have hx : (i : Int) + sumT ts (q + 1 - 1) + ts[q] = (i : Int) + sumT ts (q + 1) := by rw [sumT_step hq]; simp only [Nat.add_sub_cancel]; omega
    refine v_nil ?_
    refine q_n ?_
    refine w_t rfl ?_
    refine w_reg rfl ?_
    refine v_move rfl ?_
    refine v_move rfl ?_
    refine v_move rfl ?_
    refine v_sub lay3 rfl rfl (i64r (by omega)) ?_
    refine v_idx_e (k := 1) (q) int_len lay36 lay2 rfl rfl rfl (rfl) rfl (by push_cast; omega) (hq) ?_
    refine v_load_vw (.c (.v _)) lay2 rfl rfl rfl ?_
    refine v_add lay2 rfl rfl (i64r (by omega)) ?_
    refine v_assign rfl ?_
    refine v_nil ?_
    refine q_n ?_
    refine w_reg rfl ?_
    refine v_move rfl ?_
    refine v_move rfl ?_
    refine v_guard_off rfl rfl rfl ?_
    refine v_guard_off rfl rfl rfl ?_
    refine v_guard_off rfl rfl rfl ?_
    refine v_guard_off rfl rfl rfl ?_
    refine v_pick_f (v := .v (.bool false)) rfl rfl ?_
    refine v_assign rfl ?_
    refine v_nil ?_
    refine q_bn ?_
    refine q_n ?_
    refine w_reg rfl ?_
    refine v_add lay3 rfl rfl (i64r (by omega)) ?_
    refine v_move rfl ?_
    refine v_nil ?_
    refine q_n ?_
    refine ⟨_, _, _, ?_, ⟨q + 1 + 1, rfl, by omega, rfl, rfl⟩, by omega⟩
    exact turn0 ⟨tr_sl, tr_sl, tr_v, tr_v, tr_i hx, tr_bb (Eq.symm (by rw [mtb_s hi1 hx, hacc]; first | (simp; done) | simpa using hgr)), tr_v, tr_v, tr_sl, tr_v, tr_v, trivial⟩
  · skip
    refine w_seq ?_
    refine w_reg rfl ?_
    refine v_lss lay3 rfl rfl (fun h8 => ?_) (fun h8 => ?_)
    rotate_left
    · refine v_nil ?_
      refine q_n ?_
      refine w_seq ?_
      refine w_f rfl ?_
      refine w_exit ?_
      refine q_e ?_
      refine q_e ?_
      refine q_hit ?_
      refine q_n ?_
      refine w_seq ?_
      refine w_reg rfl ?_
      refine v_move rfl ?_
      refine v_nil ?_
      refine q_n ?_
      refine w_t rfl ?_
      refine w_reg rfl ?_
      refine v_move rfl ?_
      refine v_add lay2 rfl rfl (i64r (by omega)) ?_
      refine v_assign rfl ?_
      refine v_nil ?_
      refine q_bn ?_
      refine q_n ?_
      refine w_reg rfl ?_
      refine v_add lay2 rfl rfl (i64r (by omega)) ?_
      refine v_move rfl ?_
      refine v_nil ?_
      refine q_n ?_
      obtain rfl : j = ps.length := by omega
      refine ⟨_, _, _, ?_, ⟨i + 1, rfl, by omega, rfl, rfl⟩, by omega⟩
      exact turn0 ⟨tr_sl, tr_sl, tr_v, tr_i (cnb_t hacc), tr_v, tr_v, trivial⟩
    have hi1 : j < ps.length := by omega
    obtain ⟨hk, hn, hg⟩ := hW.at hi1
    obtain ⟨n1, n2, n3, n4, n5⟩ := ok_n hk hn
    refine v_nil ?_
    refine q_n ?_
    refine w_seq ?_
    refine w_t rfl ?_
    refine w_skip ?_
    refine q_n ?_
    refine w_seq ?_
    refine w_block ?_
    refine w_seq ?_
    refine w_reg rfl ?_
    refine v_move rfl ?_
    refine v_idx_e (k := 3) (j) plc_len lay38 lay28 rfl rfl rfl (rfl) rfl (rfl) (hi1) ?_
    refine v_load_vw (.agg [_, .v _, .v _]) lay28 rfl rfl rfl ?_
    refine v_alloc (m := 0) (H' := [⟨[.v _, .v _, .v _], 28, true⟩]) lay28 rfl rfl ?_
    refine v_assign rfl ?_
    refine v_store (H' := [⟨[_, _, _], 28, true⟩]) lay28 rfl rfl rfl rfl rfl rfl ?_
    refine v_nil ?_
    refine q_n ?_
    refine w_seq ?_
    refine w_seq ?_
    refine w_reg rfl ?_
    refine v_move rfl ?_
    refine v_gtr lay3 rfl rfl (fun h10 => ?_) (fun h10 => ?_)
    rotate_left
    · obtain rfl : j = 0 := by omega
      have hx : (i : Int) + sumT ts (0 - 1) = (i : Int) + sumT ts 0 := rfl
      refine v_nil ?_
      refine q_n ?_
      refine w_f rfl ?_
      refine w_skip ?_
      refine q_n ?_
      refine w_reg rfl ?_
      refine v_move rfl ?_
      refine v_move rfl ?_
      refine v_guard_on rfl rfl ?_
      refine v_load_pt (.agg [_, _, _]) lay28 rfl rfl rfl rfl ?_
      refine v_guard_on rfl rfl ?_
      refine v_move rfl ?_
      refine v_guard_on rfl rfl ?_
      refine v_move rfl ?_
      refine v_guard_on rfl rfl ?_
      refine v_callb (c55 _ _ _ _ hk m n hn w4 (by omega)) rfl rfl (.cons (vw_agg (.cons vw_sl (.cons vw_v (.cons vw_v .nil)))) (.cons vw_v (.cons vw_v .nil))) (fun h13 => ?_) (fun h13 => ?_)
      · have hgr := h13
        refine v_pick_t rfl rfl ?_
        refine v_assign rfl ?_
        refine v_nil ?_
        refine q_bn ?_
        refine q_n ?_
        refine w_reg rfl ?_
        refine v_add lay3 rfl rfl (i64r (by omega)) ?_
        refine v_move rfl ?_
        refine v_nil ?_
        refine q_n ?_
        refine ⟨_, _, _, ?_, ⟨0 + 1, rfl, by omega, rfl, rfl⟩, by omega⟩
        exact turn0 ⟨tr_sl, tr_sl, tr_v, tr_v, tr_i hx, tr_bb (Eq.symm (by rw [mtb_s hi1 hx, hacc]; first | (simp; done) | simpa using hgr)), tr_v, tr_v, tr_sl, tr_v, tr_v, trivial⟩
      have hgr := h13
      refine v_pick_t rfl rfl ?_
      refine v_assign rfl ?_
      refine v_nil ?_
      refine q_bn ?_
      refine q_n ?_
      refine w_reg rfl ?_
      refine v_add lay3 rfl rfl (i64r (by omega)) ?_
      refine v_move rfl ?_
      refine v_nil ?_
      refine q_n ?_
      refine ⟨_, _, _, ?_, ⟨0 + 1, rfl, by omega, rfl, rfl⟩, by omega⟩
      exact turn0 ⟨tr_sl, tr_sl, tr_v, tr_v, tr_i hx, tr_bb (Eq.symm (by rw [mtb_s hi1 hx, hacc]; first | (simp; done) | simpa using hgr)), tr_v, tr_v, tr_sl, tr_v, tr_v, trivial⟩
    obtain ⟨q, rfl⟩ : ∃ q, j = q + 1 := ⟨j - 1, by omega⟩
    have hq : q < ts.length := by omega
    have htq := hW.tr _ (List.getElem_mem hq)
    have hx : (i : Int) + sumT ts (q + 1 - 1) + ts[q] = (i : Int) + sumT ts (q + 1) := by rw [sumT_step hq]; simp only [Nat.add_sub_cancel]; omega
    refine v_nil ?_
    refine q_n ?_
    refine w_t rfl ?_
    refine w_reg rfl ?_
    refine v_move rfl ?_
    refine v_move rfl ?_
    refine v_move rfl ?_
    refine v_sub lay3 rfl rfl (i64r (by omega)) ?_
    refine v_idx_e (k := 1) (q) int_len lay36 lay2 rfl rfl rfl (rfl) rfl (by push_cast; omega) (hq) ?_
    refine v_load_vw (.c (.v _)) lay2 rfl rfl rfl ?_
    refine v_add lay2 rfl rfl (i64r (by omega)) ?_
    refine v_assign rfl ?_
    refine v_nil ?_
    refine q_n ?_
    refine w_reg rfl ?_
    refine v_move rfl ?_
    refine v_move rfl ?_
    refine v_guard_on rfl rfl ?_
    refine v_load_pt (.agg [_, _, _]) lay28 rfl rfl rfl rfl ?_
    refine v_guard_on rfl rfl ?_
    refine v_move rfl ?_
    refine v_guard_on rfl rfl ?_
    refine v_move rfl ?_
    refine v_guard_on rfl rfl ?_
    refine v_callb (c55 _ _ _ _ hk m n hn w4 (by omega)) rfl rfl (.cons (vw_agg (.cons vw_sl (.cons vw_v (.cons vw_v .nil)))) (.cons vw_v (.cons vw_v .nil))) (fun h12 => ?_) (fun h12 => ?_)
    · have hgr := h12
      refine v_pick_t rfl rfl ?_
      refine v_assign rfl ?_
      refine v_nil ?_
      refine q_bn ?_
      refine q_n ?_
      refine w_reg rfl ?_
      refine v_add lay3 rfl rfl (i64r (by omega)) ?_
      refine v_move rfl ?_
      refine v_nil ?_
      refine q_n ?_
      refine ⟨_, _, _, ?_, ⟨q + 1 + 1, rfl, by omega, rfl, rfl⟩, by omega⟩
      exact turn0 ⟨tr_sl, tr_sl, tr_v, tr_v, tr_i hx, tr_bb (Eq.symm (by rw [mtb_s hi1 hx, hacc]; first | (simp; done) | simpa using hgr)), tr_v, tr_v, tr_sl, tr_v, tr_v, trivial⟩
    have hgr := h12
    refine v_pick_t rfl rfl ?_
    refine v_assign rfl ?_
    refine v_nil ?_
    refine q_bn ?_
    refine q_n ?_
    refine w_reg rfl ?_
    refine v_add lay3 rfl rfl (i64r (by omega)) ?_
    refine v_move rfl ?_
    refine v_nil ?_
    refine q_n ?_
    refine ⟨_, _, _, ?_, ⟨q + 1 + 1, rfl, by omega, rfl, rfl⟩, by omega⟩
    exact turn0 ⟨tr_sl, tr_sl, tr_v, tr_v, tr_i hx, tr_bb (Eq.symm (by rw [mtb_s hi1 hx, hacc]; first | (simp; done) | simpa using hgr)), tr_v, tr_v, tr_sl, tr_v, tr_v, trivial⟩
end Go.VL
namespace Go.VL
open Go.RowKit
set_option maxRecDepth 20000
set_option maxHeartbeats 8000000
theorem c33n (xs : List Slo) (b f : Int) {n : Nat} (hk : okP xs b f) (hn : cyc xs b = n) : PureC X 33 [.c (.vw false (pln true xs b f) 0)] (cI n) := by
  rw [← hn, ← cyS_cyc hk]
  exact c33 xs b f (by have := hk.1.1; omega)
def gr0 (xs : List Slo) (b : Int) (m n : Nat) : List Bool := (List.range n).map fun k : Nat => gr xs b m k
theorem gr0_len {xs : List Slo} {b : Int} {m n : Nat} : (gr0 xs b m n).length = n := by simp [gr0]
theorem gr0_at {xs : List Slo} {b : Int} {m n i : Nat} (h : i < (gr0 xs b m n).length) : (gr0 xs b m n)[i] = gr xs b m i := mk_at (f := fun k : Nat => gr xs b m k) h
theorem gr0_eq {xs : List Slo} {b f : Int} {m n : Nat} : grL xs b f m n f = gr0 xs b m n := by
  unfold grL gr0
  refine List.map_congr_left fun k hk => ?_
  have hk := List.mem_range.1 hk
  have e : f + (k : Int) - f = k := by omega
  rw [e, Int.emod_eq_of_lt (by omega) (by omega)]
theorem gr0_ex {xs : List Slo} {b : Int} {m n : Nat} (hg : grn xs b m n) : ∃ x ∈ gr0 xs b m n, x = true := by
  rw [← gr0_eq (f := 0)]
  exact grL_ex hg
theorem cnb_grn {xs : List Slo} {b : Int} {m n : Nat} (hg : grn xs b m n) : 1 ≤ cnb (fun k : Nat => gr xs b m k) n := by
  obtain ⟨k, hk, h⟩ := hg
  exact cnb_pos hk h
theorem c56 (xs : List Slo) (b f : Int) (a : Int) (hs : ticksOk xs) (hb2 : 0 ≤ b ∧ b ≤ 240) (hx : xs.length ≤ 8) (ha : 0 ≤ a ∧ a ≤ 1000) : PureC X 56 [.c (.vw false (pln true xs b f) 0), cI a] (.tup [.agg (phc (atR xs b a).1), cI (atR xs b a).2]) := by
  refine PureC.of_body (drawD_ok X) (fun _ _ => Go.Proofs.Try.call56 _ _) Go.Proofs.Try.func56 rfl (n := 74) rfl ?_
  refine w_seq ?_
  refine w_reg rfl ?_
  refine v_alloc (m := 0) (H' := [⟨[.v _, .v _, .v _, .v _, .v _, .v _, .v _, .v _], 80, true⟩]) lay80 rfl rfl ?_
  refine v_assign (c := .v (.int .i64 0)) rfl ?_
  refine v_nil ?_
  refine q_n ?_
  refine w_seq ?_
  refine w_seq ?_
  refine w_reg rfl ?_
  refine v_assign (c := .v (.int .i64 0)) rfl ?_
  refine v_nil ?_
  refine q_n ?_
  refine w_block ?_
  refine w_loop (fun k sl H => ∃ (i : Nat) (r : Int), k = xs.length - i ∧ i ≤ xs.length ∧ atR (xs.drop i) b r = atR xs b a ∧ (0 ≤ r ∧ r ≤ 1000) ∧ sl = sls [(0, .c (.vw false (pln true xs b f) 0)), (1, cI r), (4, .c (.pt 0 0)), (6, cI i)] ∧ H = [⟨phc zg, 80, true⟩]) ?_ ?_
  · refine ⟨_, _, _, ?_, 0, a, rfl, Nat.zero_le _, rfl, ha, rfl, rfl⟩
    exact turn [some 0] rfl rfl rfl ⟨⟨_, rfl, (.cons tr_v (.cons tr_v (.cons tr_v (.cons tr_v (.cons tr_v (.cons tr_v (.cons tr_v (.cons tr_v .nil))))))))⟩, trivial⟩ ⟨tr_vw, tr_v, tr_pt rfl, tr_v, trivial⟩
  rintro k sl H ⟨i, r, rfl, hi, hp, hr, rfl, rfl⟩
  refine w_seq ?_
  refine w_seq ?_
  refine w_reg rfl ?_
  refine v_move rfl ?_
  refine v_move rfl ?_
  refine v_nil_vw rfl ?_
  refine v_fa_vw (off' := 0) lay28 rfl rfl rfl ?_
  refine v_load_vw (.c (_)) lay26 rfl rfl rfl ?_
  refine v_len_sl lay26 rfl ?_
  refine v_lss lay3 rfl rfl (fun h1 => ?_) (fun h1 => ?_)
  rotate_left
  · refine v_nil ?_
    refine q_n ?_
    refine w_f rfl ?_
    refine w_exit ?_
    refine q_e ?_
    refine q_e ?_
    refine q_hit ?_
    refine q_n ?_
    refine w_seq ?_
    refine w_reg rfl ?_
    refine v_build_a [.v _, .v _, .v _, .v _, .v _, .v _, .v _, .v _] lay80 lay4 rfl ?_
    refine v_store (H' := [⟨[_, _, _, _, _, _, _, _], 80, true⟩]) lay80 rfl rfl rfl rfl rfl rfl ?_
    refine v_assign (c := .v (.int .i64 0)) rfl ?_
    refine v_nil ?_
    refine q_n ?_
    refine w_ret ?_
    refine r_r rfl ?_
    obtain rfl : i = xs.length := by omega
    rw [← hp, List.drop_length]
    exact a_tup (.cons (a_agg (.cons tr_v (.cons tr_v (.cons tr_v (.cons tr_v (.cons tr_v (.cons tr_v (.cons tr_v (.cons tr_v .nil))))))))) (.cons tr_v .nil))
  have hi1 : i < xs.length := by omega
  have htk := tk_at hs hi1
  refine v_nil ?_
  refine q_n ?_
  refine w_t rfl ?_
  refine w_skip ?_
  refine q_n ?_
  refine w_seq ?_
  refine w_block ?_
  refine w_seq ?_
  refine w_seq ?_
  refine w_reg rfl ?_
  refine v_move rfl ?_
  refine v_move rfl ?_
  refine v_nil_vw rfl ?_
  refine v_fa_vw (off' := 0) lay28 rfl rfl rfl ?_
  refine v_load_vw (.c (_)) lay26 rfl rfl rfl ?_
  refine v_move rfl ?_
  refine v_idx_e (k := 9) (i) stc_len lay26 lay82 rfl rfl rfl (rfl) rfl (rfl) (hi1) ?_
  refine v_fa_vw (off' := 8) lay82 rfl rfl rfl ?_
  refine v_load_vw (.c (.v _)) lay2 rfl rfl rfl ?_
  refine v_lss lay2 rfl rfl (fun h3 => ?_) (fun h3 => ?_)
  · have hr3 := h3
    refine v_nil ?_
    refine q_n ?_
    refine w_t rfl ?_
    refine w_seq ?_
    refine w_draw [0, 1, 3, 7, 0, 31, 63, 127, 0, 256, 768, 1792, 0, 7936, 16128, 32512, 0, 130816, 255, 524287] [⟨0, 0, []⟩, ⟨1, 0, []⟩, ⟨2, 0, []⟩, ⟨3, 0, []⟩, ⟨4, 0, []⟩, ⟨5, 0, []⟩, ⟨6, 0, []⟩, ⟨7, 0, []⟩, ⟨8, 0, []⟩, ⟨9, 0, []⟩, ⟨10, 0, []⟩, ⟨11, 0, []⟩, ⟨12, 0, []⟩, ⟨13, 0, []⟩, ⟨14, 0, []⟩, ⟨15, 0, []⟩, ⟨16, 0, []⟩, ⟨17, 0, []⟩, ⟨18, 1, [11, 15]⟩, ⟨19, 0, []⟩] rfl rfl ?_
    refine d_q rfl rfl rfl rfl rfl ?_
    refine v_move rfl ?_
    refine v_nil ?_
    refine d_q rfl rfl rfl rfl rfl ?_
    refine v_nil_vw rfl ?_
    refine v_nil ?_
    refine d_q rfl rfl rfl rfl rfl ?_
    refine v_fa_vw (off' := 0) lay28 rfl rfl rfl ?_
    refine v_nil ?_
    refine d_q rfl rfl rfl rfl rfl ?_
    refine v_load_vw (.c (_)) lay26 rfl rfl rfl ?_
    refine v_nil ?_
    refine d_q rfl rfl rfl rfl rfl ?_
    refine v_move rfl ?_
    refine v_nil ?_
    refine d_q rfl rfl rfl rfl rfl ?_
    refine v_idx_e (k := 9) (i) stc_len lay26 lay82 rfl rfl rfl (rfl) rfl (rfl) (hi1) ?_
    refine v_nil ?_
    refine d_q rfl rfl rfl rfl rfl ?_
    refine v_fa_vw (off' := 0) lay82 rfl rfl rfl ?_
    refine v_nil ?_
    refine d_q rfl rfl rfl rfl rfl ?_
    refine v_load_vw (.agg [.v _, .v _, .v _, .v _, .v _, .v _, .v _, .v _]) lay80 rfl rfl rfl ?_
    refine v_nil ?_
    refine d_q rfl rfl rfl rfl rfl ?_
    refine v_move rfl ?_
    refine v_nil ?_
    refine d_q rfl rfl rfl rfl rfl ?_
    refine v_nil_vw rfl ?_
    refine v_nil ?_
    refine d_q rfl rfl rfl rfl rfl ?_
    refine v_fa_vw (off' := 0) lay28 rfl rfl rfl ?_
    refine v_nil ?_
    refine d_q rfl rfl rfl rfl rfl ?_
    refine v_load_vw (.c (_)) lay26 rfl rfl rfl ?_
    refine v_nil ?_
    refine d_q rfl rfl rfl rfl rfl ?_
    refine v_move rfl ?_
    refine v_nil ?_
    refine d_q rfl rfl rfl rfl rfl ?_
    refine v_idx_e (k := 9) (i) stc_len lay26 lay82 rfl rfl rfl (rfl) rfl (rfl) (hi1) ?_
    refine v_nil ?_
    refine d_q rfl rfl rfl rfl rfl ?_
    refine v_fa_vw (off' := 8) lay82 rfl rfl rfl ?_
    refine v_nil ?_
    refine d_q rfl rfl rfl rfl rfl ?_
    refine v_load_vw (.c (.v _)) lay2 rfl rfl rfl ?_
    refine v_nil ?_
    refine d_q rfl rfl rfl rfl rfl ?_
    refine v_move rfl ?_
    refine v_nil ?_
    refine d_q rfl rfl rfl rfl rfl ?_
    refine v_sub lay2 rfl rfl (i64r (by omega)) ?_
    refine v_nil ?_
    refine d_e rfl rfl rfl ?_
    refine v_store (H' := [⟨[_, _, _, _, _, _, _, _], 80, true⟩]) lay80 rfl rfl rfl rfl rfl rfl ?_
    refine v_nil ⟨⟨ag_load_vw (.c (.v _)) lay2 rfl rfl rfl, ⟨ag_load_vw (.c (_)) lay26 rfl rfl rfl, ⟨trivial, ⟨trivial, trivial⟩⟩⟩⟩, ?_⟩
    refine d_q rfl rfl rfl rfl rfl ?_
    refine v_assign rfl ?_
    refine v_nil ?_
    refine d_nil ?_
    refine q_n ?_
    refine w_ret (q_r (q_br (q_r (q_r (q_br (q_r ?_))))))
    refine r_r rfl ?_
    rw [← hp, at_at hi1, if_pos hr3]
    exact a_tup (.cons (a_agg (.cons tr_v (.cons tr_v (.cons tr_v (.cons tr_v (.cons tr_v (.cons tr_v (.cons tr_v (.cons tr_v .nil))))))))) (.cons tr_v .nil))
  have hr3 := h3
  refine v_nil ?_
  refine q_n ?_
  refine w_f rfl ?_
  refine w_skip ?_
  refine q_n ?_
  refine w_seq ?_
  refine w_reg rfl ?_
  refine v_move rfl ?_
  refine v_move rfl ?_
  refine v_nil_vw rfl ?_
  refine v_fa_vw (off' := 0) lay28 rfl rfl rfl ?_
  refine v_load_vw (.c (_)) lay26 rfl rfl rfl ?_
  refine v_move rfl ?_
  refine v_idx_e (k := 9) (i) stc_len lay26 lay82 rfl rfl rfl (rfl) rfl (rfl) (hi1) ?_
  refine v_fa_vw (off' := 8) lay82 rfl rfl rfl ?_
  refine v_load_vw (.c (.v _)) lay2 rfl rfl rfl ?_
  refine v_sub lay2 rfl rfl (i64r (by omega)) ?_
  refine v_assign rfl ?_
  refine v_nil ?_
  refine q_n ?_
  refine w_seq ?_
  refine w_seq ?_
  refine w_reg rfl ?_
  refine v_move rfl ?_
  refine v_move rfl ?_
  refine v_nil_vw rfl ?_
  refine v_fa_vw (off' := 1) lay28 rfl rfl rfl ?_
  refine v_load_vw (.c (.v _)) lay2 rfl rfl rfl ?_
  refine v_lss lay2 rfl rfl (fun h7 => ?_) (fun h7 => ?_)
  rotate_left
  · have hr4 := h7
    refine v_nil ?_
    refine q_n ?_
    refine w_f rfl ?_
    refine w_skip ?_
    refine q_n ?_
    refine w_reg rfl ?_
    refine v_move rfl ?_
    refine v_move rfl ?_
    refine v_nil_vw rfl ?_
    refine v_fa_vw (off' := 1) lay28 rfl rfl rfl ?_
    refine v_load_vw (.c (.v _)) lay2 rfl rfl rfl ?_
    refine v_sub lay2 rfl rfl (i64r (by omega)) ?_
    refine v_assign rfl ?_
    refine v_nil ?_
    refine q_bn ?_
    refine q_n ?_
    refine w_reg rfl ?_
    refine v_move rfl ?_
    refine v_add lay3 rfl rfl (i64r (by omega)) ?_
    refine v_assign rfl ?_
    refine v_nil ?_
    refine q_n ?_
    rw [at_at hi1, if_neg hr3, if_neg hr4] at hp
    refine ⟨_, _, _, ?_, ⟨i + 1, r - xs[i].2 - b, rfl, by omega, hp, ⟨by omega, by omega⟩, rfl, rfl⟩, by omega⟩
    exact turn [some 0] rfl rfl rfl ⟨⟨_, rfl, (.cons tr_v (.cons tr_v (.cons tr_v (.cons tr_v (.cons tr_v (.cons tr_v (.cons tr_v (.cons tr_v .nil))))))))⟩, trivial⟩ ⟨tr_vw, tr_v, tr_pt rfl, tr_v, trivial⟩
  have hr4 := h7
  refine v_nil ?_
  refine q_n ?_
  refine w_t rfl ?_
  refine w_seq ?_
  refine w_draw [0, 0, 2, 6, 14, 0, 62, 1, 255] [⟨0, 0, []⟩, ⟨1, 0, []⟩, ⟨2, 0, []⟩, ⟨3, 0, []⟩, ⟨4, 0, []⟩, ⟨5, 0, []⟩, ⟨6, 0, []⟩, ⟨7, 1, [4]⟩, ⟨8, 0, []⟩] rfl rfl ?_
  refine d_q rfl rfl rfl rfl rfl ?_
  refine v_build_a [.v _, .v _, .v _, .v _, .v _, .v _, .v _, .v _] lay80 lay4 rfl ?_
  refine v_nil ?_
  refine d_q rfl rfl rfl rfl rfl ?_
  refine v_move rfl ?_
  refine v_nil ?_
  refine d_q rfl rfl rfl rfl rfl ?_
  refine v_nil_vw rfl ?_
  refine v_nil ?_
  refine d_q rfl rfl rfl rfl rfl ?_
  refine v_fa_vw (off' := 1) lay28 rfl rfl rfl ?_
  refine v_nil ?_
  refine d_q rfl rfl rfl rfl rfl ?_
  refine v_load_vw (.c (.v _)) lay2 rfl rfl rfl ?_
  refine v_nil ?_
  refine d_q rfl rfl rfl rfl rfl ?_
  refine v_move rfl ?_
  refine v_nil ?_
  refine d_q rfl rfl rfl rfl rfl ?_
  refine v_sub lay2 rfl rfl (i64r (by omega)) ?_
  refine v_nil ?_
  refine d_e rfl rfl rfl ?_
  refine v_store (H' := [⟨[_, _, _, _, _, _, _, _], 80, true⟩]) lay80 rfl rfl rfl rfl rfl rfl ?_
  refine v_nil ⟨⟨ag_load_vw (.c (.v _)) lay2 rfl rfl rfl, trivial⟩, ?_⟩
  refine d_q rfl rfl rfl rfl rfl ?_
  refine v_assign rfl ?_
  refine v_nil ?_
  refine d_nil ?_
  refine q_n ?_
  refine w_ret (q_r (q_br (q_r (q_r (q_br (q_r ?_))))))
  refine r_r rfl ?_
  rw [← hp, at_at hi1, if_neg hr3, if_pos hr4]
  exact a_tup (.cons (a_agg (.cons tr_v (.cons tr_v (.cons tr_v (.cons tr_v (.cons tr_v (.cons tr_v (.cons tr_v (.cons tr_v .nil))))))))) (.cons tr_v .nil))
theorem c57 (xs : List Slo) (b f : Int) (t : Int) (hk : okP xs b f) (n : Nat) (hn : cyc xs b = n) (ht : 0 ≤ t ∧ t ≤ 1000000) : PureC X 57 [.c (.vw false (pln true xs b f) 0), cI t] (cI ((t - f) % n)) := by
  refine PureC.of_body (drawD_ok X) (fun _ _ => Go.Proofs.Try.call57 _ _) Go.Proofs.Try.func57 rfl (n := 20) rfl ?_
  obtain ⟨n1, n2, n3, n4, n5⟩ := ok_n hk hn
  have hT := tmod_in (a := t) (show (1 : Int) ≤ n by omega)
  refine w_seq ?_
  refine w_reg rfl ?_
  refine v_assign (c := .v (.int .i64 0)) rfl ?_
  refine v_nil ?_
  refine q_n ?_
  refine w_seq ?_
  refine w_reg rfl ?_
  refine v_move rfl ?_
  refine v_call (c33n _ _ _ hk hn) rfl rfl rfl (.cons vw_vw .nil) ?_
  refine v_assign rfl ?_
  refine v_nil ?_
  refine q_n ?_
  refine w_seq ?_
  refine w_draw [0, 0, 3, 0, 8, 24, 56, 127, 0, 511, 0, 2047, 4095] [⟨0, 0, []⟩, ⟨1, 0, []⟩, ⟨2, 0, []⟩, ⟨3, 0, []⟩, ⟨4, 0, []⟩, ⟨5, 0, []⟩, ⟨6, 0, []⟩, ⟨7, 0, []⟩, ⟨8, 0, []⟩, ⟨9, 0, []⟩, ⟨10, 0, []⟩, ⟨11, 0, []⟩, ⟨12, 0, []⟩] rfl rfl ?_
  refine d_q rfl rfl rfl rfl rfl ?_
  refine v_move rfl ?_
  refine v_nil ?_
  refine d_q rfl rfl rfl rfl rfl ?_
  refine v_move rfl ?_
  refine v_nil ?_
  refine d_q rfl rfl rfl rfl rfl ?_
  refine v_rem lay2 rfl rfl (by omega) ?_
  refine v_nil ?_
  refine d_q rfl rfl rfl rfl rfl ?_
  refine v_move rfl ?_
  refine v_nil ?_
  refine d_q rfl rfl rfl rfl rfl ?_
  refine v_nil_vw rfl ?_
  refine v_nil ?_
  refine d_q rfl rfl rfl rfl rfl ?_
  refine v_fa_vw (off' := 2) lay28 rfl rfl rfl ?_
  refine v_nil ?_
  refine d_q rfl rfl rfl rfl rfl ?_
  refine v_load_vw (.c (.v _)) lay2 rfl rfl rfl ?_
  refine v_nil ?_
  refine d_q rfl rfl rfl rfl rfl ?_
  refine v_sub lay2 rfl rfl (i64r (by omega)) ?_
  refine v_nil ?_
  refine d_q rfl rfl rfl rfl rfl ?_
  refine v_move rfl ?_
  refine v_nil ?_
  refine d_q rfl rfl rfl rfl rfl ?_
  refine v_add lay2 rfl rfl (i64r (by omega)) ?_
  refine v_nil ?_
  refine d_q rfl rfl rfl rfl rfl ?_
  refine v_move rfl ?_
  refine v_nil ?_
  refine d_q rfl rfl rfl rfl rfl ?_
  refine v_rem lay2 rfl rfl (by omega) ?_
  refine v_nil ?_
  refine d_q rfl rfl rfl rfl rfl ?_
  refine v_assign rfl ?_
  refine v_nil ?_
  refine d_nil ?_
  refine q_n ?_
  refine w_ret ?_
  refine r_r rfl ?_
  exact a_i (pl_eq (by omega) ht.1 ⟨n3, n4⟩)
theorem c65 (xs : List Slo) (b f : Int) (hk : okP xs b f) (m n : Nat) (hn : cyc xs b = n) (hm : m < 8) : PureC X 65 [.c (.vw false (pln true xs b f) 0), cI m] (.tup [.c (.sl true n 1 (flat bo (gr0 xs b m n))), cI (cnb (fun k : Nat => gr xs b m k) n)]) := by
  refine PureC.of_body (drawD_ok X) (fun _ _ => Go.Proofs.Try.call65 _ _) Go.Proofs.Try.func65 rfl (n := 37) rfl ?_
  obtain ⟨n1, n2, n3, n4, n5⟩ := ok_n hk hn
  refine w_seq ?_
  refine w_reg rfl ?_
  refine v_assign rfl ?_
  refine v_assign (c := .v (.int .i64 0)) rfl ?_
  refine v_nil ?_
  refine q_n ?_
  refine w_seq ?_
  refine w_reg rfl ?_
  refine v_lit (flat bo []) (H' := [_]) lay73 lay4 rfl rfl ⟨by decide, by decide⟩ rfl rfl ?_
  refine v_assign rfl ?_
  refine v_nil ?_
  refine q_n ?_
  refine w_seq ?_
  refine w_reg rfl ?_
  refine v_assign (c := .v (.int .i64 0)) rfl ?_
  refine v_nil ?_
  refine q_n ?_
  refine w_seq ?_
  refine w_seq ?_
  refine w_reg rfl ?_
  refine v_assign (c := .v (.int .i64 0)) rfl ?_
  refine v_nil ?_
  refine q_n ?_
  refine w_block ?_
  refine w_loop (fun k sl H => ∃ i : Nat, k = n - i ∧ i ≤ n ∧ sl = sls [(0, .c (.vw false (pln true xs b f) 0)), (1, cI m), (6, .c (.mu 0 0 i 1)), (7, cI (cnb (fun k : Nat => gr xs b m k) i)), (8, cI i)] ∧ H = [⟨flat bo ((List.range i).map fun k : Nat => gr xs b m k), 4, true⟩]) ?_ ?_
  · refine ⟨_, _, _, ?_, 0, rfl, Nat.zero_le _, rfl, rfl⟩
    exact turn [some 0] rfl rfl rfl ⟨⟨_, rfl, trc_flat bo_sc (xs := []) rfl⟩, trivial⟩ ⟨tr_vw, tr_v, tr_mun rfl rfl, tr_v, tr_v, trivial⟩
  rintro k sl H ⟨i, rfl, hi, rfl, rfl⟩
  have hcl := cnb_le (F := fun k : Nat => gr xs b m k) (i := i)
  refine w_seq ?_
  refine w_seq ?_
  refine w_reg rfl ?_
  refine v_move rfl ?_
  refine v_move rfl ?_
  refine v_call (c33n _ _ _ hk hn) rfl rfl rfl (.cons vw_vw .nil) ?_
  refine v_lss lay2 rfl rfl (fun h1 => ?_) (fun h1 => ?_)
  rotate_left
  · refine v_nil ?_
    refine q_n ?_
    refine w_f rfl ?_
    refine w_exit ?_
    refine q_e ?_
    refine q_e ?_
    refine q_hit ?_
    refine q_n ?_
    refine w_seq ?_
    refine w_reg rfl ?_
    refine v_move rfl ?_
    refine v_move rfl ?_
    refine v_assign rfl ?_
    refine v_assign rfl ?_
    refine v_nil ?_
    refine q_n ?_
    refine w_ret ?_
    refine r_r rfl ?_
    obtain rfl : i = n := by omega
    exact a_tup (.cons (a_flat2 bo_sc bo_len rfl rfl (by simp [gr0]) rfl) (.cons tr_v .nil))
  refine v_nil ?_
  refine q_n ?_
  refine w_t rfl ?_
  refine w_skip ?_
  refine q_n ?_
  refine w_seq ?_
  refine w_block ?_
  refine w_seq ?_
  refine w_reg rfl ?_
  refine v_move rfl ?_
  refine v_move rfl ?_
  refine v_call (c56 _ _ _ _ hk.1.2.1 hk.1.2.2 n5 (by omega)) rfl rfl rfl (.cons vw_vw (.cons vw_v .nil)) ?_
  refine v_move_t rfl ?_
  refine v_extract_a rfl rfl ?_
  refine v_extract_c rfl rfl ?_
  refine v_alloc (m := 1) (H' := [_, ⟨[.v _, .v _, .v _, .v _, .v _, .v _, .v _, .v _], 80, true⟩]) lay80 rfl rfl ?_
  refine v_store (H' := [_, ⟨[_, _, _, _, _, _, _, _], 80, true⟩]) lay80 rfl rfl rfl rfl rfl rfl ?_
  refine v_assign rfl ?_
  refine v_nil ?_
  refine q_n ?_
  refine w_seq ?_
  refine w_reg rfl ?_
  refine v_move rfl ?_
  refine v_move rfl ?_
  refine v_idx_arr_e (k := 1) (m) lay80 lay4 rfl rfl rfl (rfl) (hm) ?_
  refine v_load_flat_e (enc := bo) (ys := pl (atR xs b i).1) m 0 (.c (.v (.bool ((atR xs b i).1 ⟨m, hm⟩)))) bo_len lay4 rfl rfl (by omega) hm (by decide) (pl_ld _ hm _) ?_
  refine v_lit (flat bo [(atR xs b i).1 ⟨m, hm⟩]) (H' := [_, _, _]) lay73 lay4 rfl rfl ⟨by decide, by decide⟩ rfl rfl ?_
  refine v_app_flat (H' := [_, _, _, _]) bo_sc bo_len lay73 lay4 rfl rfl (by simp) rfl rfl (by simp) rfl rfl (by unfold maxLen; simp only []; omega) rfl rfl ?_
  refine v_assign rfl ?_
  refine v_nil ?_
  refine q_n ?_
  refine w_seq ?_
  refine w_reg rfl ?_
  refine v_move rfl ?_
  refine v_idx_arr_e (k := 1) (m) lay80 lay4 rfl rfl rfl (rfl) (hm) ?_
  refine v_load_flatb (enc := bo) (ys := pl (atR xs b i).1) m 0 bo_len lay4 rfl rfl (by omega) hm (by decide) (pl_ld _ hm _) (fun h2 => ?_) (fun h2 => ?_)
  rotate_left
  · have hg := h2
    refine v_nil ?_
    refine q_n ?_
    refine w_f rfl ?_
    refine w_skip ?_
    refine q_bn ?_
    refine q_n ?_
    refine w_reg rfl ?_
    refine v_move rfl ?_
    refine v_add lay2 rfl rfl (i64r (by omega)) ?_
    refine v_assign rfl ?_
    refine v_nil ?_
    refine q_n ?_
    rw [gr_eq hm] at hg
    refine ⟨_, _, _, ?_, ⟨i + 1, rfl, by omega, rfl, rfl⟩, by omega⟩
    exact turn [some 3] rfl rfl rfl ⟨⟨_, rfl, trc_flat bo_sc (snoc_eq (fun k : Nat => gr xs b m k) i (gr_eq hm).symm)⟩, trivial⟩ ⟨tr_vw, tr_v, tr_mun rfl (by simp), tr_i (cnb_f hg), tr_v, trivial⟩
  have hg := h2
  refine v_nil ?_
  refine q_n ?_
  refine w_t rfl ?_
  refine w_reg rfl ?_
  refine v_move rfl ?_
  refine v_add lay2 rfl rfl (i64r (by omega)) ?_
  refine v_assign rfl ?_
  refine v_nil ?_
  refine q_bn ?_
  refine q_n ?_
  refine w_reg rfl ?_
  refine v_move rfl ?_
  refine v_add lay2 rfl rfl (i64r (by omega)) ?_
  refine v_assign rfl ?_
  refine v_nil ?_
  refine q_n ?_
  rw [gr_eq hm] at hg
  refine ⟨_, _, _, ?_, ⟨i + 1, rfl, by omega, rfl, rfl⟩, by omega⟩
  exact turn [some 3] rfl rfl rfl ⟨⟨_, rfl, trc_flat bo_sc (snoc_eq (fun k : Nat => gr xs b m k) i (gr_eq hm).symm)⟩, trivial⟩ ⟨tr_vw, tr_v, tr_mun rfl (by simp), tr_i (cnb_t hg), tr_v, trivial⟩
theorem c45 (xs : List Slo) (b f : Int) (hk : okP xs b f) (m n : Nat) (hn : cyc xs b = n) (hm : m < 8) (hg : grn xs b m n) : PureC X 45 [.c (.vw false (pln true xs b f) 0), cI m] (cI (bgn (xs, b, f) m n)) := by
  refine PureC.of_body (drawD_ok X) (fun _ _ => Go.Proofs.Try.call45 _ _) Go.Proofs.Try.func45 rfl (n := 25) rfl ?_
  obtain ⟨n1, n2, n3, n4, n5⟩ := ok_n hk hn
  refine w_seq ?_
  refine w_reg rfl ?_
  refine v_assign (c := .v (.int .i64 0)) rfl ?_
  refine v_nil ?_
  refine q_n ?_
  refine w_seq ?_
  refine w_reg rfl ?_
  refine v_move rfl ?_
  refine v_move rfl ?_
  refine v_call (c65 _ _ _ hk m n hn hm) rfl rfl rfl (.cons vw_vw (.cons vw_v .nil)) ?_
  refine v_move_t rfl ?_
  refine v_extract_c rfl rfl ?_
  refine v_extract_c rfl rfl ?_
  refine v_assign rfl ?_
  refine v_assign rfl ?_
  refine v_nil ?_
  refine q_n ?_
  refine w_seq ?_
  refine w_seq ?_
  refine w_reg rfl ?_
  refine v_assign (c := .v (.int .i64 0)) rfl ?_
  refine v_nil ?_
  refine q_n ?_
  refine w_block ?_
  refine w_loop (fun k sl H => ∃ i : Nat, k = n - i ∧ i ≤ n ∧ (∀ x ∈ (gr0 xs b m n).take i, ¬ x = true) ∧ sl = sls [(5, .c (.sl false n 1 (flat bo (gr0 xs b m n)))), (7, cI i)] ∧ H = []) ?_ ?_
  · refine ⟨_, _, _, ?_, 0, rfl, Nat.zero_le _, by simp, rfl, rfl⟩
    exact turn0 ⟨(.c (.sl (fun h => by cases h))), tr_v, trivial⟩
  rintro k sl H ⟨i, rfl, hi, hp, rfl, rfl⟩
  refine w_seq ?_
  refine w_seq ?_
  refine w_reg rfl ?_
  refine v_move rfl ?_
  refine v_move rfl ?_
  refine v_len_sl lay73 rfl ?_
  refine v_lss lay3 rfl rfl (fun h1 => ?_) (fun h1 => ?_)
  rotate_left
  · refine v_nil ?_
    refine q_n ?_
    refine w_f rfl ?_
    refine w_exit ?_
    refine q_e ?_
    refine q_e ?_
    refine q_hit ?_
    refine q_n ?_
    refine w_seq ?_
    refine w_reg rfl ?_
    refine v_assign (c := .v (.int .i64 0)) rfl ?_
    refine v_nil ?_
    refine q_n ?_
    refine w_ret ?_
    refine r_r rfl ?_
    obtain rfl : i = n := by omega
    exfalso
    obtain ⟨x, hx, h2⟩ := gr0_ex hg
    rw [List.take_of_length_le (by rw [gr0_len]; exact Nat.le_refl _)] at hp
    exact hp x hx h2
  have hi1 : i < (gr0 xs b m n).length := by rw [gr0_len]; omega
  refine v_nil ?_
  refine q_n ?_
  refine w_t rfl ?_
  refine w_skip ?_
  refine q_n ?_
  refine w_seq ?_
  refine w_block ?_
  refine w_seq ?_
  refine w_reg rfl ?_
  refine v_move rfl ?_
  refine v_move rfl ?_
  refine v_idx_e (k := 1) (i) bo_len lay73 lay4 rfl rfl rfl (by rw [gr0_len]) rfl (rfl) (hi1) ?_
  refine v_load_vwb lay4 rfl rfl rfl (fun h3 => ?_) (fun h3 => ?_)
  · have hgb := h3
    refine v_nil ?_
    refine q_n ?_
    refine w_t rfl ?_
    refine w_seq ?_
    refine w_reg rfl ?_
    refine v_move rfl ?_
    refine v_assign rfl ?_
    refine v_nil ?_
    refine q_n ?_
    refine w_ret (q_br (q_r (q_r (q_br (q_r ?_)))))
    refine r_r rfl ?_
    exact a_i (by unfold bgn; simp only []; rw [gr0_eq]; exact (fix_hit hi1 hp hgb).symm)
  have hgb := h3
  refine v_nil ?_
  refine q_n ?_
  refine w_f rfl ?_
  refine w_skip ?_
  refine q_bn ?_
  refine q_n ?_
  refine w_reg rfl ?_
  refine v_move rfl ?_
  refine v_add lay3 rfl rfl (i64r (by omega)) ?_
  refine v_assign rfl ?_
  refine v_nil ?_
  refine q_n ?_
  refine ⟨_, _, _, ?_, ⟨i + 1, rfl, by omega, all_step hi1 hp (by rw [hgb]; decide), rfl, rfl⟩, by omega⟩
  exact turn0 ⟨tr_sl, tr_v, trivial⟩
end Go.VL
namespace Go.VL
open Go.RowKit
set_option maxRecDepth 20000
set_option maxHeartbeats 8000000
theorem c64 (a : Int) : PureC X 64 [cI a] (cB (decide (0 ≤ a ∧ a ≤ 7))) := by
  refine PureC.of_body (drawD_ok X) (fun _ _ => Go.Proofs.Try.call64 _ _) Go.Proofs.Try.func64 rfl (n := 5) rfl ?_
  refine w_seq ?_
  refine w_reg rfl ?_
  refine v_assign (c := .v (.bool false)) rfl ?_
  refine v_nil ?_
  refine q_n ?_
  refine w_seq ?_
  refine w_reg rfl ?_
  refine v_move rfl ?_
  refine v_callb (cIn _ _ _) rfl rfl (.cons vw_v (.cons vw_v (.cons vw_v .nil))) (fun h1 => ?_) (fun h1 => ?_)
  · refine v_assign rfl ?_
    refine v_nil ?_
    refine q_n ?_
    refine w_ret ?_
    refine r_r rfl ?_
    exact a_b (by simp_all)
  refine v_assign rfl ?_
  refine v_nil ?_
  refine q_n ?_
  refine w_ret ?_
  refine r_r rfl ?_
  exact a_b (by simp_all)
theorem c44 (ps : List Pln) (ts : List Int) (m n : Nat) (hW : okW ps ts m n) : PureC X 44 [.c (pls false ps), .c (ints false ts), cI m] (cI 0) := by
  refine PureC.of_body (drawD_ok X) (fun _ _ => Go.Proofs.Try.call44 _ _) Go.Proofs.Try.func44 rfl (n := 86) rfl ?_
  have w1 := hW.ne
  have w2 := hW.le
  have w3 := hW.tl
  have w4 := hW.mm
  have h0 := hW.at (show 0 < ps.length by omega)
  obtain ⟨z1, z2, z3, z4, z5⟩ := ok_n h0.1 h0.2.1
  refine w_seq ?_
  refine w_reg rfl ?_
  refine v_assign (c := .v (.int .i64 0)) rfl ?_
  refine v_nil ?_
  refine q_n ?_
  refine w_seq ?_
  refine w_seq ?_
  refine w_reg rfl ?_
  refine v_assign (c := .v (.int .i64 0)) rfl ?_
  refine v_nil ?_
  refine q_n ?_
  refine w_block ?_
  refine w_loop (fun k sl H => ∃ i : Nat, k = ps.length - i ∧ i ≤ ps.length ∧ sl = sls [(0, .c (pls false ps)), (1, .c (ints false ts)), (2, cI m), (7, cI i)] ∧ H = []) ?_ ?_
  · refine ⟨_, _, _, ?_, 0, rfl, Nat.zero_le _, rfl, rfl⟩
    exact turn0 ⟨tr_sl, tr_sl, tr_v, tr_v, trivial⟩
  rintro k sl H ⟨i, rfl, hi, rfl, rfl⟩
  refine w_seq ?_
  refine w_seq ?_
  refine w_reg rfl ?_
  refine v_move rfl ?_
  refine v_move rfl ?_
  refine v_len_sl lay38 rfl ?_
  refine v_lss lay3 rfl rfl (fun h1 => ?_) (fun h1 => ?_)
  · have hi2 : i < ps.length := by omega
    obtain ⟨hk, hn, hg⟩ := hW.at hi2
    obtain ⟨n1, n2, n3, n4, n5⟩ := ok_n hk hn
    refine v_nil ?_
    refine q_n ?_
    refine w_t rfl ?_
    refine w_skip ?_
    refine q_n ?_
    refine w_seq ?_
    refine w_block ?_
    refine w_seq ?_
    refine w_reg rfl ?_
    refine v_move rfl ?_
    refine v_move rfl ?_
    refine v_idx_e (k := 3) (i) plc_len lay38 lay28 rfl rfl rfl (rfl) rfl (rfl) (hi2) ?_
    refine v_callb (c31 _ _ _ (by omega)) rfl rfl (.cons vw_vw .nil) (fun h3 => ?_) (fun h3 => ?_)
    rotate_left
    · exact absurd hk h3
    refine v_not false rfl rfl ?_
    refine v_nil ?_
    refine q_n ?_
    refine w_f rfl ?_
    refine w_skip ?_
    refine q_bn ?_
    refine q_n ?_
    refine w_reg rfl ?_
    refine v_move rfl ?_
    refine v_add lay3 rfl rfl (i64r (by omega)) ?_
    refine v_assign rfl ?_
    refine v_nil ?_
    refine q_n ?_
    refine ⟨_, _, _, ?_, ⟨i + 1, rfl, by omega, rfl, rfl⟩, by omega⟩
    exact turn0 ⟨tr_sl, tr_sl, tr_v, tr_i (by push_cast; omega), trivial⟩
  refine v_nil ?_
  refine q_n ?_
  refine w_f rfl ?_
  refine w_exit ?_
  refine q_e ?_
  refine q_e ?_
  refine q_hit ?_
  refine q_n ?_
  refine w_seq ?_
  refine w_reg rfl ?_
  refine v_move rfl ?_
  refine v_len_sl lay38 rfl ?_
  refine v_callb (cIn _ _ _) rfl rfl (.cons vw_v (.cons vw_v (.cons vw_v .nil))) (fun h4 => ?_) (fun h4 => ?_)
  rotate_left
  · exact absurd (by omega) h4
  refine v_move rfl ?_
  refine v_guard_on rfl rfl ?_
  refine v_move rfl ?_
  refine v_guard_on rfl rfl ?_
  refine v_len_sl lay36 rfl ?_
  refine v_guard_on rfl rfl ?_
  refine v_add lay3 rfl rfl (i64r (by omega)) ?_
  refine v_guard_on rfl rfl ?_
  refine v_move rfl ?_
  refine v_guard_on rfl rfl ?_
  refine v_len_sl lay38 rfl ?_
  refine v_guard_on rfl rfl ?_
  refine v_eql lay3 rfl rfl (fun h5 => ?_) (fun h5 => ?_)
  rotate_left
  · exact absurd (by omega) h5
  refine v_pick_t rfl rfl ?_
  refine v_move rfl ?_
  refine v_guard_on rfl rfl ?_
  refine v_move rfl ?_
  refine v_guard_on rfl rfl ?_
  refine v_callb (c64 _) rfl rfl (.cons vw_v .nil) (fun h6 => ?_) (fun h6 => ?_)
  rotate_left
  · exact absurd (by omega) h6
  refine v_pick_t rfl rfl ?_
  refine v_assign rfl ?_
  refine v_nil ?_
  refine q_n ?_
  refine w_seq ?_
  refine w_seq ?_
  refine w_reg rfl ?_
  refine v_assign (c := .v (.int .i64 0)) rfl ?_
  refine v_nil ?_
  refine q_n ?_
  refine w_block ?_
  refine w_loop (fun k sl H => ∃ i : Nat, k = ts.length - i ∧ i ≤ ts.length ∧ sl = sls [(0, .c (pls false ps)), (1, .c (ints false ts)), (2, cI m), (8, cB true), (9, cI i)] ∧ H = []) ?_ ?_
  · refine ⟨_, _, _, ?_, 0, rfl, Nat.zero_le _, rfl, rfl⟩
    exact turn0 ⟨tr_sl, tr_sl, tr_v, tr_v, tr_v, trivial⟩
  rintro k sl H ⟨i, rfl, hi, rfl, rfl⟩
  refine w_seq ?_
  refine w_seq ?_
  refine w_reg rfl ?_
  refine v_move rfl ?_
  refine v_move rfl ?_
  refine v_len_sl lay36 rfl ?_
  refine v_lss lay3 rfl rfl (fun h7 => ?_) (fun h7 => ?_)
  · have hi2 : i < ts.length := by omega
    have htj := hW.tr _ (List.getElem_mem hi2)
    refine v_move rfl ?_
    refine v_guard_on rfl rfl ?_
    refine v_move rfl ?_
    refine v_pick_t rfl rfl ?_
    refine v_nil ?_
    refine q_n ?_
    refine w_t rfl ?_
    refine w_skip ?_
    refine q_n ?_
    refine w_seq ?_
    refine w_block ?_
    refine w_reg rfl ?_
    refine v_move rfl ?_
    refine v_move rfl ?_
    refine v_idx_e (k := 1) (i) int_len lay36 lay2 rfl rfl rfl (rfl) rfl (rfl) (hi2) ?_
    refine v_load_vw (.c (.v _)) lay2 rfl rfl rfl ?_
    refine v_callb (cIn _ _ _) rfl rfl (.cons vw_v (.cons vw_v (.cons vw_v .nil))) (fun h9 => ?_) (fun h9 => ?_)
    rotate_left
    · exact absurd (by omega) h9
    refine v_assign rfl ?_
    refine v_nil ?_
    refine q_bn ?_
    refine q_n ?_
    refine w_reg rfl ?_
    refine v_move rfl ?_
    refine v_add lay3 rfl rfl (i64r (by omega)) ?_
    refine v_assign rfl ?_
    refine v_nil ?_
    refine q_n ?_
    refine ⟨_, _, _, ?_, ⟨i + 1, rfl, by omega, rfl, rfl⟩, by omega⟩
    exact turn0 ⟨tr_sl, tr_sl, tr_v, tr_v, tr_i (by push_cast; omega), trivial⟩
  refine v_move rfl ?_
  refine v_guard_off rfl rfl rfl ?_
  refine v_pick_f (v := .v (.bool false)) rfl rfl ?_
  refine v_nil ?_
  refine q_n ?_
  refine w_f rfl ?_
  refine w_exit ?_
  refine q_e ?_
  refine q_e ?_
  refine q_hit ?_
  refine q_n ?_
  refine w_seq ?_
  refine w_seq ?_
  refine w_reg rfl ?_
  refine v_move rfl ?_
  refine v_not false rfl rfl ?_
  refine v_nil ?_
  refine q_n ?_
  refine w_f rfl ?_
  refine w_skip ?_
  refine q_n ?_
  refine w_seq ?_
  refine w_seq ?_
  refine w_reg rfl ?_
  refine v_assign (c := .v (.int .i64 1)) rfl ?_
  refine v_nil ?_
  refine q_n ?_
  refine w_block ?_
  refine w_loop (fun k sl H => ∃ i : Nat, k = ps.length - i ∧ 1 ≤ i ∧ i ≤ ps.length ∧ sl = sls [(0, .c (pls false ps)), (1, .c (ints false ts)), (2, cI m), (10, cI i)] ∧ H = []) ?_ ?_
  · refine ⟨_, _, _, ?_, 1, rfl, by omega, by omega, rfl, rfl⟩
    exact turn0 ⟨tr_sl, tr_sl, tr_v, tr_v, trivial⟩
  rintro k sl H ⟨i, rfl, hi1, hi, rfl, rfl⟩
  refine w_seq ?_
  refine w_seq ?_
  refine w_reg rfl ?_
  refine v_move rfl ?_
  refine v_move rfl ?_
  refine v_len_sl lay38 rfl ?_
  refine v_lss lay3 rfl rfl (fun h10 => ?_) (fun h10 => ?_)
  · have hi2 : i < ps.length := by omega
    obtain ⟨hk, hn, hg⟩ := hW.at hi2
    obtain ⟨n1, n2, n3, n4, n5⟩ := ok_n hk hn
    refine v_nil ?_
    refine q_n ?_
    refine w_t rfl ?_
    refine w_skip ?_
    refine q_n ?_
    refine w_seq ?_
    refine w_block ?_
    refine w_seq ?_
    refine w_draw [0, 0, 3, 7, 0, 16, 63, 127] [⟨0, 0, []⟩, ⟨1, 0, []⟩, ⟨2, 0, []⟩, ⟨3, 0, []⟩, ⟨4, 0, []⟩, ⟨5, 0, []⟩, ⟨6, 0, []⟩, ⟨7, 0, []⟩] rfl rfl ?_
    refine d_q rfl rfl rfl rfl rfl ?_
    refine v_move rfl ?_
    refine v_nil ?_
    refine d_q rfl rfl rfl rfl rfl ?_
    refine v_move rfl ?_
    refine v_nil ?_
    refine d_q rfl rfl rfl rfl rfl ?_
    refine v_idx_e (k := 3) (i) plc_len lay38 lay28 rfl rfl rfl (rfl) rfl (rfl) (hi2) ?_
    refine v_nil ?_
    refine d_call (c33n _ _ _ hk hn) rfl rfl rfl rfl rfl (.cons vw_vw .nil) ?_
    refine d_q rfl rfl rfl rfl rfl ?_
    refine v_move rfl ?_
    refine v_nil ?_
    refine d_q rfl rfl rfl rfl rfl ?_
    refine v_idx_e (k := 3) (0) plc_len lay38 lay28 rfl rfl rfl (rfl) rfl (rfl) (by omega) ?_
    refine v_nil ?_
    refine d_call (c33n _ _ _ h0.1 h0.2.1) rfl rfl rfl rfl rfl (.cons vw_vw .nil) ?_
    refine d_q rfl rfl rfl rfl rfl ?_
    refine v_neq lay2 rfl rfl (fun h13 => ?_) (fun h13 => ?_)
    · exact absurd rfl h13
    refine v_nil ?_
    refine d_nil ?_
    refine q_n ?_
    refine w_f rfl ?_
    refine w_skip ?_
    refine q_bn ?_
    refine q_n ?_
    refine w_reg rfl ?_
    refine v_move rfl ?_
    refine v_add lay3 rfl rfl (i64r (by omega)) ?_
    refine v_assign rfl ?_
    refine v_nil ?_
    refine q_n ?_
    refine ⟨_, _, _, ?_, ⟨i + 1, rfl, by omega, by omega, rfl, rfl⟩, by omega⟩
    exact turn0 ⟨tr_sl, tr_sl, tr_v, tr_i (by push_cast; omega), trivial⟩
  refine v_nil ?_
  refine q_n ?_
  refine w_f rfl ?_
  refine w_exit ?_
  refine q_e ?_
  refine q_e ?_
  refine q_hit ?_
  refine q_n ?_
  refine w_seq ?_
  refine w_seq ?_
  refine w_reg rfl ?_
  refine v_assign (c := .v (.int .i64 0)) rfl ?_
  refine v_nil ?_
  refine q_n ?_
  refine w_block ?_
  refine w_loop (fun k sl H => ∃ i : Nat, k = ps.length - i ∧ i ≤ ps.length ∧ sl = sls [(0, .c (pls false ps)), (1, .c (ints false ts)), (2, cI m), (11, cI i)] ∧ H = []) ?_ ?_
  · refine ⟨_, _, _, ?_, 0, rfl, Nat.zero_le _, rfl, rfl⟩
    exact turn0 ⟨tr_sl, tr_sl, tr_v, tr_v, trivial⟩
  rintro k sl H ⟨i, rfl, hi, rfl, rfl⟩
  refine w_seq ?_
  refine w_seq ?_
  refine w_reg rfl ?_
  refine v_move rfl ?_
  refine v_move rfl ?_
  refine v_len_sl lay38 rfl ?_
  refine v_lss lay3 rfl rfl (fun h14 => ?_) (fun h14 => ?_)
  rotate_left
  · refine v_nil ?_
    refine q_n ?_
    refine w_f rfl ?_
    refine w_exit ?_
    refine q_e ?_
    refine q_e ?_
    refine q_hit ?_
    refine q_n ?_
    refine w_seq ?_
    refine w_reg rfl ?_
    refine v_assign (c := .v (.int .i64 0)) rfl ?_
    refine v_nil ?_
    refine q_n ?_
    refine w_ret ?_
    refine r_r rfl ?_
    exact a_i rfl
  have hi2 : i < ps.length := by omega
  obtain ⟨hk, hn, hg⟩ := hW.at hi2
  obtain ⟨n1, n2, n3, n4, n5⟩ := ok_n hk hn
  refine v_nil ?_
  refine q_n ?_
  refine w_t rfl ?_
  refine w_skip ?_
  refine q_n ?_
  refine w_seq ?_
  refine w_block ?_
  refine w_seq ?_
  refine w_reg rfl ?_
  refine v_move rfl ?_
  refine v_move rfl ?_
  refine v_idx_e (k := 3) (i) plc_len lay38 lay28 rfl rfl rfl (rfl) rfl (rfl) (hi2) ?_
  refine v_move rfl ?_
  refine v_call (c65 _ _ _ hk m n hn w4) rfl rfl rfl (.cons vw_vw (.cons vw_v .nil)) ?_
  refine v_move_t rfl ?_
  refine v_extract_c rfl rfl ?_
  refine v_extract_c rfl rfl ?_
  refine v_assign rfl ?_
  refine v_assign rfl ?_
  refine v_nil ?_
  refine q_n ?_
  refine w_seq ?_
  refine w_reg rfl ?_
  refine v_move rfl ?_
  refine v_eql lay2 rfl rfl (fun h16 => ?_) (fun h16 => ?_)
  · exact absurd h16 (by have := cnb_grn hg; omega)
  refine v_nil ?_
  refine q_n ?_
  refine w_f rfl ?_
  refine w_skip ?_
  refine q_bn ?_
  refine q_n ?_
  refine w_reg rfl ?_
  refine v_move rfl ?_
  refine v_add lay3 rfl rfl (i64r (by omega)) ?_
  refine v_assign rfl ?_
  refine v_nil ?_
  refine q_n ?_
  refine ⟨_, _, _, ?_, ⟨i + 1, rfl, by omega, rfl, rfl⟩, by omega⟩
  exact turn0 ⟨tr_sl, tr_sl, tr_v, tr_i (by push_cast; omega), trivial⟩
theorem c34 (xs : List Slo) (b f q : Int) (hx : xs.length ≤ 2 ^ 40) : PureC X 34 [.c (.vw false (pln true xs b f) 0), cI q] (.agg (pln true xs b q)) := (c34l xs b f q hx).pure pl_frz
theorem c45p (p : Pln) (hk : okP p.1 p.2.1 p.2.2) (m n : Nat) (hn : cyc p.1 p.2.1 = n) (hm : m < 8) (hg : grn p.1 p.2.1 m n) : PureC X 45 [.c (.vw false (plc p) 0), cI m] (cI (bgn p m n)) := c45 p.1 p.2.1 p.2.2 hk m n hn hm hg
theorem c14 (ps : List Pln) (ts : List Int) (m n : Nat) (hW : okW ps ts m n) : PureC X 14 [.c (pls false ps), .c (ints false ts), cI m] (.tup [.c (.sl true ps.length 3 (flat plc ((List.range ps.length).map (wvp ps ts m n)))), cI 0]) := by
  refine PureC.of_body (drawD_ok X) (fun _ _ => Go.Proofs.Try.call14 _ _) Go.Proofs.Try.func14 rfl (n := 75) rfl ?_
  have w1 := hW.ne
  have w2 := hW.le
  have w3 := hW.tl
  have w4 := hW.mm
  have h0 := hW.at (show 0 < ps.length by omega)
  obtain ⟨z1, z2, z3, z4, z5⟩ := ok_n h0.1 h0.2.1
  refine w_seq ?_
  refine w_reg rfl ?_
  refine v_assign rfl ?_
  refine v_assign (c := .v (.int .i64 0)) rfl ?_
  refine v_nil ?_
  refine q_n ?_
  refine w_seq ?_
  refine w_seq ?_
  refine w_reg rfl ?_
  refine v_move rfl ?_
  refine v_move rfl ?_
  refine v_move rfl ?_
  refine v_call (c44 ps ts m n hW) rfl rfl rfl (.cons vw_sl (.cons vw_sl (.cons vw_v .nil))) ?_
  refine v_assign rfl ?_
  refine v_nil ?_
  refine q_n ?_
  refine w_seq ?_
  refine w_reg rfl ?_
  refine v_move rfl ?_
  refine v_neq lay2 rfl rfl (fun h1 => ?_) (fun h1 => ?_)
  · exact absurd rfl h1
  have hb0 := bgn_rng h0.2.2
  refine v_nil ?_
  refine q_n ?_
  refine w_f rfl ?_
  refine w_skip ?_
  refine q_n ?_
  refine w_seq ?_
  refine w_reg rfl ?_
  refine v_move rfl ?_
  refine v_idx_e (k := 3) (0) plc_len lay38 lay28 rfl rfl rfl (rfl) rfl (rfl) (by omega) ?_
  refine v_call (c33n _ _ _ h0.1 h0.2.1) rfl rfl rfl (.cons vw_vw .nil) ?_
  refine v_assign rfl ?_
  refine v_nil ?_
  refine q_n ?_
  refine w_seq ?_
  refine w_draw [0, 1, 0, 4, 12, 28, 63, 127, 255] [⟨0, 0, []⟩, ⟨1, 0, []⟩, ⟨2, 0, []⟩, ⟨3, 0, []⟩, ⟨4, 0, []⟩, ⟨5, 0, []⟩, ⟨6, 0, []⟩, ⟨7, 1, []⟩, ⟨8, 0, []⟩] rfl rfl ?_
  refine d_q rfl rfl rfl rfl rfl ?_
  refine v_move rfl ?_
  refine v_nil ?_
  refine d_q rfl rfl rfl rfl rfl ?_
  refine v_idx_e (k := 3) (0) plc_len lay38 lay28 rfl rfl rfl (rfl) rfl (rfl) (by omega) ?_
  refine v_nil ?_
  refine d_q rfl rfl rfl rfl rfl ?_
  refine v_move rfl ?_
  refine v_nil ?_
  refine d_q rfl rfl rfl rfl rfl ?_
  refine v_idx_e (k := 3) (0) plc_len lay38 lay28 rfl rfl rfl (rfl) rfl (rfl) (by omega) ?_
  refine v_nil ?_
  refine d_q rfl rfl rfl rfl rfl ?_
  refine v_fa_vw (off' := 2) lay28 rfl rfl rfl ?_
  refine v_nil ?_
  refine d_q rfl rfl rfl rfl rfl ?_
  refine v_load_vw (.c (.v _)) lay2 rfl rfl rfl ?_
  refine v_nil ?_
  refine d_call (c34 _ _ _ _ (by omega)) rfl rfl rfl rfl rfl (.cons vw_vw (.cons vw_v .nil)) ?_
  refine d_e rfl rfl rfl ?_
  refine v_lit (flat plc [(ps[0].1, ps[0].2.1, ps[0].2.2)]) (H' := [_]) lay38 lay28 rfl rfl ⟨by decide, by decide⟩ rfl rfl ?_
  refine v_nil ⟨again_nil, ?_⟩
  refine d_q rfl rfl rfl rfl rfl ?_
  refine v_assign rfl ?_
  refine v_nil ?_
  refine d_nil ?_
  refine q_n ?_
  refine w_seq ?_
  refine w_draw [0, 1, 3, 7, 0, 16, 0, 112, 255, 511] [⟨0, 0, []⟩, ⟨1, 0, []⟩, ⟨2, 0, []⟩, ⟨3, 0, []⟩, ⟨4, 0, []⟩, ⟨5, 0, []⟩, ⟨6, 0, []⟩, ⟨7, 0, []⟩, ⟨8, 0, []⟩, ⟨9, 0, []⟩] rfl rfl ?_
  refine d_q rfl rfl rfl rfl rfl ?_
  refine v_move rfl ?_
  refine v_nil ?_
  refine d_q rfl rfl rfl rfl rfl ?_
  refine v_idx_e (k := 3) (0) plc_len lay38 lay28 rfl rfl rfl (rfl) rfl (rfl) (by omega) ?_
  refine v_nil ?_
  refine d_q rfl rfl rfl rfl rfl ?_
  refine v_fa_vw (off' := 2) lay28 rfl rfl rfl ?_
  refine v_nil ?_
  refine d_q rfl rfl rfl rfl rfl ?_
  refine v_load_vw (.c (.v _)) lay2 rfl rfl rfl ?_
  refine v_nil ?_
  refine d_q rfl rfl rfl rfl rfl ?_
  refine v_move rfl ?_
  refine v_nil ?_
  refine d_q rfl rfl rfl rfl rfl ?_
  refine v_idx_e (k := 3) (0) plc_len lay38 lay28 rfl rfl rfl (rfl) rfl (rfl) (by omega) ?_
  refine v_nil ?_
  refine d_q rfl rfl rfl rfl rfl ?_
  refine v_move rfl ?_
  refine v_nil ?_
  refine d_call (c45p ps[0] h0.1 m n h0.2.1 w4 h0.2.2) rfl rfl rfl rfl rfl (.cons vw_vw (.cons vw_v .nil)) ?_
  refine d_q rfl rfl rfl rfl rfl ?_
  refine v_add lay2 rfl rfl (i64r (by omega)) ?_
  refine v_nil ?_
  refine d_q rfl rfl rfl rfl rfl ?_
  refine v_assign rfl ?_
  refine v_nil ?_
  refine d_nil ?_
  refine q_n ?_
  refine w_seq ?_
  refine w_seq ?_
  refine w_reg rfl ?_
  refine v_assign (c := .v (.int .i64 1)) rfl ?_
  refine v_nil ?_
  refine q_n ?_
  refine w_block ?_
  refine w_loop (fun k sl H => ∃ q : Nat, k = ps.length - (q + 1) ∧ q + 1 ≤ ps.length ∧ sl = sls [(0, .c (pls false ps)), (1, .c (ints false ts)), (2, cI m), (9, cI n), (10, .c (.mu 0 0 (q + 1) 3)), (11, cI ((pa ps 0).2.2 + bgn (pa ps 0) m n + sumT ts q)), (12, cI ((q + 1 : Nat) : Int))] ∧ H = [⟨flat plc ((List.range (q + 1)).map (wvp ps ts m n)), 28, true⟩]) ?_ ?_
  · have hw0 : wvp ps ts m n 0 = (ps[0].1, ps[0].2.1, ps[0].2.2) := by unfold wvp; rw [wof_0 (by rw [pa_at (show 0 < ps.length by omega)]; exact ⟨z3, z4⟩), pa_at (show 0 < ps.length by omega)] <;> rfl
    refine ⟨_, _, _, ?_, 0, rfl, by omega, rfl, rfl⟩
    exact turn [some 0] rfl rfl rfl ⟨⟨_, rfl, trc_flatz plc_sc (congrArg (fun z => flat plc [z]) hw0.symm)⟩, trivial⟩ ⟨tr_sl, tr_sl, tr_v, tr_v, tr_mun rfl rfl, tr_i (by rw [pa_at (show 0 < ps.length by omega), sumT_0]; exact (Int.add_zero _).symm), tr_v, trivial⟩
  rintro k sl H ⟨q, rfl, hi, rfl, rfl⟩
  refine w_seq ?_
  refine w_seq ?_
  refine w_reg rfl ?_
  refine v_move rfl ?_
  refine v_move rfl ?_
  refine v_len_sl lay38 rfl ?_
  refine v_lss lay3 rfl rfl (fun h7 => ?_) (fun h7 => ?_)
  rotate_left
  · refine v_nil ?_
    refine q_n ?_
    refine w_f rfl ?_
    refine w_exit ?_
    refine q_e ?_
    refine q_e ?_
    refine q_hit ?_
    refine q_n ?_
    refine w_seq ?_
    refine w_reg rfl ?_
    refine v_move rfl ?_
    refine v_assign rfl ?_
    refine v_assign (c := .v (.int .i64 0)) rfl ?_
    refine v_nil ?_
    refine q_n ?_
    refine w_ret ?_
    refine r_r rfl ?_
    obtain hqe : q + 1 = ps.length := by omega
    rw [← hqe]
    exact a_tup (.cons (a_flatz plc_sc plc_len rfl rfl (by simp) rfl) (.cons tr_v .nil))
  have hi2 : q + 1 < ps.length := by omega
  obtain ⟨hk, hn, hg⟩ := hW.at hi2
  obtain ⟨n1, n2, n3, n4, n5⟩ := ok_n hk hn
  have hq : q < ts.length := by omega
  have htq := hW.tr _ (List.getElem_mem hq)
  have hS := sumT_rng hW.tr (i := q) (by omega)
  have hbi := bgn_rng hg
  have hbz : 0 ≤ bgn (pa ps 0) m n ∧ bgn (pa ps 0) m n < n := by rw [pa_at (show 0 < ps.length by omega)]; exact hb0
  have hoz : 0 ≤ (pa ps 0).2.2 ∧ (pa ps 0).2.2 < n := by rw [pa_at (show 0 < ps.length by omega)]; exact ⟨z3, z4⟩
  have hT := tmod_in (a := (pa ps 0).2.2 + bgn (pa ps 0) m n + sumT ts q + ts[q] - bgn ps[q + 1] m n) (show (1 : Int) ≤ n by omega)
  have hwn : wvp ps ts m n (q + 1) = (ps[q + 1].1, ps[q + 1].2.1, (((pa ps 0).2.2 + bgn (pa ps 0) m n + sumT ts q + ts[q] - bgn ps[q + 1] m n).tmod n + n).tmod n) := by unfold wvp wof; rw [mo_eq (by omega), sumT_step hq, pa_at hi2, show (pa ps 0).2.2 + bgn (pa ps 0) m n + (sumT ts q + ts[q]) - bgn ps[q + 1] m n = (pa ps 0).2.2 + bgn (pa ps 0) m n + sumT ts q + ts[q] - bgn ps[q + 1] m n by omega]
  refine v_nil ?_
  refine q_n ?_
  refine w_t rfl ?_
  refine w_skip ?_
  refine q_n ?_
  refine w_seq ?_
  refine w_block ?_
  refine w_seq ?_
  refine w_reg rfl ?_
  refine v_move rfl ?_
  refine v_move rfl ?_
  refine v_move rfl ?_
  refine v_sub lay3 rfl rfl (i64r (by omega)) ?_
  refine v_idx_e (k := 1) (q) int_len lay36 lay2 rfl rfl rfl (rfl) rfl (by push_cast; omega) (hq) ?_
  refine v_load_vw (.c (.v _)) lay2 rfl rfl rfl ?_
  refine v_add lay2 rfl rfl (i64r (by omega)) ?_
  refine v_assign rfl ?_
  refine v_nil ?_
  refine q_n ?_
  refine w_draw [0, 0, 0, 6, 0, 0, 0, 96, 0, 480, 1008, 0, 4080, 0, 16368, 0, 65520, 131070, 262142, 524287, 1048575] [⟨0, 0, []⟩, ⟨1, 0, []⟩, ⟨2, 0, []⟩, ⟨3, 0, []⟩, ⟨4, 0, []⟩, ⟨5, 0, []⟩, ⟨6, 0, []⟩, ⟨7, 0, []⟩, ⟨8, 0, []⟩, ⟨9, 0, []⟩, ⟨10, 0, []⟩, ⟨11, 0, []⟩, ⟨12, 0, []⟩, ⟨13, 0, []⟩, ⟨14, 0, []⟩, ⟨15, 0, []⟩, ⟨16, 0, []⟩, ⟨17, 0, []⟩, ⟨18, 2, []⟩, ⟨19, 1, []⟩, ⟨20, 0, []⟩] rfl rfl ?_
  refine d_q rfl rfl rfl rfl rfl ?_
  refine v_move rfl ?_
  refine v_nil ?_
  refine d_q rfl rfl rfl rfl rfl ?_
  refine v_move rfl ?_
  refine v_nil ?_
  refine d_q rfl rfl rfl rfl rfl ?_
  refine v_move rfl ?_
  refine v_nil ?_
  refine d_q rfl rfl rfl rfl rfl ?_
  refine v_idx_e (k := 3) (q + 1) plc_len lay38 lay28 rfl rfl rfl (rfl) rfl (rfl) (hi2) ?_
  refine v_nil ?_
  refine d_q rfl rfl rfl rfl rfl ?_
  refine v_move rfl ?_
  refine v_nil ?_
  refine d_q rfl rfl rfl rfl rfl ?_
  refine v_move rfl ?_
  refine v_nil ?_
  refine d_q rfl rfl rfl rfl rfl ?_
  refine v_move rfl ?_
  refine v_nil ?_
  refine d_q rfl rfl rfl rfl rfl ?_
  refine v_idx_e (k := 3) (q + 1) plc_len lay38 lay28 rfl rfl rfl (rfl) rfl (rfl) (hi2) ?_
  refine v_nil ?_
  refine d_q rfl rfl rfl rfl rfl ?_
  refine v_move rfl ?_
  refine v_nil ?_
  refine d_call (c45p ps[q + 1] hk m n hn w4 hg) rfl rfl rfl rfl rfl (.cons vw_vw (.cons vw_v .nil)) ?_
  refine d_q rfl rfl rfl rfl rfl ?_
  refine v_sub lay2 rfl rfl (i64r (by omega)) ?_
  refine v_nil ?_
  refine d_q rfl rfl rfl rfl rfl ?_
  refine v_move rfl ?_
  refine v_nil ?_
  refine d_q rfl rfl rfl rfl rfl ?_
  refine v_rem lay2 rfl rfl (by omega) ?_
  refine v_nil ?_
  refine d_q rfl rfl rfl rfl rfl ?_
  refine v_move rfl ?_
  refine v_nil ?_
  refine d_q rfl rfl rfl rfl rfl ?_
  refine v_add lay2 rfl rfl (i64r (by omega)) ?_
  refine v_nil ?_
  refine d_q rfl rfl rfl rfl rfl ?_
  refine v_move rfl ?_
  refine v_nil ?_
  refine d_q rfl rfl rfl rfl rfl ?_
  refine v_rem lay2 rfl rfl (by omega) ?_
  refine v_nil ?_
  refine d_call (c34 _ _ _ _ (by omega)) rfl rfl rfl rfl rfl (.cons vw_vw (.cons vw_v .nil)) ?_
  refine d_z (.c (.sl true 1 3 (flat plc [(ps[q + 1].1, ps[q + 1].2.1, (((pa ps 0).2.2 + bgn (pa ps 0) m n + sumT ts q + ts[q] - bgn ps[q + 1] m n).tmod n + n).tmod n)]))) rfl rfl rfl ?_
  refine d_e rfl rfl rfl ?_
  refine v_app_flatz_sl (H' := [_, _]) plc_sc plc_len lay38 lay28 rfl rfl (by simp) rfl rfl rfl (by unfold maxLen; simp only []; omega) rfl rfl ?_
  refine v_nil ⟨again_nil, ?_⟩
  refine d_q rfl rfl rfl rfl rfl ?_
  refine v_assign rfl ?_
  refine v_nil ?_
  refine d_nil ?_
  refine q_bn ?_
  refine q_n ?_
  refine w_reg rfl ?_
  refine v_move rfl ?_
  refine v_add lay3 rfl rfl (i64r (by omega)) ?_
  refine v_assign rfl ?_
  refine v_nil ?_
  refine q_n ?_
  refine ⟨_, _, _, ?_, ⟨q + 1, rfl, by omega, rfl, rfl⟩, by omega⟩
  exact turn [some 1] rfl rfl rfl ⟨⟨_, rfl, trc_flatz plc_sc (snoc_eq _ (q + 1) hwn)⟩, trivial⟩ ⟨tr_sl, tr_sl, tr_v, tr_v, tr_mun rfl (by simp), tr_i (by rw [sumT_step hq]; omega), tr_i (by push_cast; omega), trivial⟩
end Go.VL
namespace Go.VL
open Go.RowKit
set_option maxRecDepth 20000
set_option maxHeartbeats 8000000
theorem emr {a : Int} {n : Nat} (h1 : 1 ≤ n) (h2 : n ≤ 240) : 0 ≤ a % n ∧ a % n ≤ 1000 := by
  have := Int.emod_lt_of_pos a (show (0 : Int) < n by omega)
  exact ⟨Int.emod_nonneg _ (by omega), by omega⟩
theorem mtb_no {ps : List Pln} {ts : List Int} {m n t j : Nat} (hj : j ≤ ps.length) (h : mtb ps ts m n t j = false) : mtb ps ts m n t ps.length = false := by
  rw [Bool.eq_false_iff]
  intro h1
  rw [mtb_mono hj h1] at h
  cases h
theorem c28 (ps : List Pln) (ts : List Int) (m n : Nat) (hW : okW ps ts m n) : PureC X 28 [.c (pls false ps), .c (ints false ts), cI m] (.tup [cI (wid ps ts m n n), cI 0]) := by
  refine PureC.of_body (drawD_ok X) (fun _ _ => Go.Proofs.Try.call28 _ _) Go.Proofs.Try.func28 rfl (n := 68) rfl ?_
  have w1 := hW.ne
  have w2 := hW.le
  have w3 := hW.tl
  have w4 := hW.mm
  have h0 := hW.at (show 0 < ps.length by omega)
  obtain ⟨z1, z2, z3, z4, z5⟩ := ok_n h0.1 h0.2.1
  refine w_seq ?_
  refine w_reg rfl ?_
  refine v_assign (c := .v (.int .i64 0)) rfl ?_
  refine v_assign (c := .v (.int .i64 0)) rfl ?_
  refine v_nil ?_
  refine q_n ?_
  refine w_seq ?_
  refine w_seq ?_
  refine w_reg rfl ?_
  refine v_move rfl ?_
  refine v_move rfl ?_
  refine v_move rfl ?_
  refine v_call (c44 ps ts m n hW) rfl rfl rfl (.cons vw_sl (.cons vw_sl (.cons vw_v .nil))) ?_
  refine v_assign rfl ?_
  refine v_nil ?_
  refine q_n ?_
  refine w_seq ?_
  refine w_reg rfl ?_
  refine v_move rfl ?_
  refine v_neq lay2 rfl rfl (fun h1 => ?_) (fun h1 => ?_)
  · exact absurd rfl h1
  refine v_nil ?_
  refine q_n ?_
  refine w_f rfl ?_
  refine w_skip ?_
  refine q_n ?_
  refine w_seq ?_
  refine w_reg rfl ?_
  refine v_assign (c := .v (.int .i64 0)) rfl ?_
  refine v_nil ?_
  refine q_n ?_
  refine w_seq ?_
  refine w_seq ?_
  refine w_reg rfl ?_
  refine v_assign (c := .v (.int .i64 0)) rfl ?_
  refine v_nil ?_
  refine q_n ?_
  refine w_block ?_
  refine w_loop (fun k sl H => ∃ i : Nat, k = n - i ∧ i ≤ n ∧ sl = sls [(0, .c (pls false ps)), (1, .c (ints false ts)), (2, cI m), (9, cI (wid ps ts m n i)), (10, cI i)] ∧ H = []) ?_ ?_
  · refine ⟨_, _, _, ?_, 0, rfl, Nat.zero_le _, rfl, rfl⟩
    exact turn0 ⟨tr_sl, tr_sl, tr_v, tr_v, tr_v, trivial⟩
  rintro k sl H ⟨i, rfl, hi, rfl, rfl⟩
  have hcl : wid ps ts m n i ≤ i := cnb_le
  refine w_seq ?_
  refine w_seq ?_
  refine w_reg rfl ?_
  refine v_move rfl ?_
  refine v_move rfl ?_
  refine v_idx_e (k := 3) (0) plc_len lay38 lay28 rfl rfl rfl (rfl) rfl (rfl) (by omega) ?_
  refine v_call (c33n _ _ _ h0.1 h0.2.1) rfl rfl rfl (.cons vw_vw .nil) ?_
  refine v_lss lay2 rfl rfl (fun h3 => ?_) (fun h3 => ?_)
  rotate_left
  · refine v_nil ?_
    refine q_n ?_
    refine w_f rfl ?_
    refine w_exit ?_
    refine q_e ?_
    refine q_e ?_
    refine q_hit ?_
    refine q_n ?_
    refine w_seq ?_
    refine w_reg rfl ?_
    refine v_move rfl ?_
    refine v_assign rfl ?_
    refine v_assign (c := .v (.int .i64 0)) rfl ?_
    refine v_nil ?_
    refine q_n ?_
    refine w_ret ?_
    refine r_r rfl ?_
    obtain rfl : i = n := by omega
    exact a_tup (.cons tr_v (.cons tr_v .nil))
  refine v_nil ?_
  refine q_n ?_
  refine w_t rfl ?_
  refine w_skip ?_
  refine q_n ?_
  refine w_seq ?_
  refine w_block ?_
  refine w_seq ?_
  refine w_reg rfl ?_
  refine v_move rfl ?_
  refine v_assign rfl ?_
  refine v_nil ?_
  refine q_n ?_
  refine w_seq ?_
  refine w_reg rfl ?_
  refine v_assign (c := .v (.bool true)) rfl ?_
  refine v_nil ?_
  refine q_n ?_
  refine w_seq ?_
  refine w_seq ?_
  refine w_reg rfl ?_
  refine v_assign (c := .v (.int .i64 0)) rfl ?_
  refine v_nil ?_
  refine q_n ?_
  refine w_block ?_
  refine w_loop (fun k sl H => ∃ j : Nat, k = ps.length - j ∧ j ≤ ps.length ∧ sl = sls [(0, .c (pls false ps)), (1, .c (ints false ts)), (2, cI m), (9, cI (wid ps ts m n i)), (10, cI i), (11, cI ((i : Int) + sumT ts (j - 1))), (12, cB (mtb ps ts m n i j)), (13, cI j)] ∧ H = []) ?_ ?_
  · refine ⟨_, _, _, ?_, 0, rfl, Nat.zero_le _, rfl, rfl⟩
    exact turn0 ⟨tr_sl, tr_sl, tr_v, tr_v, tr_v, tr_i (by simp [sumT]), tr_v, tr_v, trivial⟩
  rintro k sl H ⟨j, rfl, hj, rfl, rfl⟩
  have hS := sumT_rng hW.tr (i := j - 1) (by omega)
  rcases hacc : mtb ps ts m n i j with _ | _
  · skip
    refine w_seq ?_
    refine w_seq ?_
    refine w_reg rfl ?_
    refine v_move rfl ?_
    refine v_move rfl ?_
    refine v_len_sl lay38 rfl ?_
    refine v_lss lay3 rfl rfl (fun h4 => ?_) (fun h4 => ?_)
    rotate_left
    · refine v_move rfl ?_
      refine v_guard_off rfl rfl rfl ?_
      refine v_pick_f (v := .v (.bool false)) rfl rfl ?_
      refine v_nil ?_
      refine q_n ?_
      refine w_f rfl ?_
      refine w_exit ?_
      refine q_e ?_
      refine q_e ?_
      refine q_hit ?_
      refine q_n ?_
      refine w_seq ?_
      refine w_reg rfl ?_
      refine v_move rfl ?_
      refine v_nil ?_
      refine q_n ?_
      refine w_f rfl ?_
      refine w_skip ?_
      refine q_bn ?_
      refine q_n ?_
      refine w_reg rfl ?_
      refine v_move rfl ?_
      refine v_add lay2 rfl rfl (i64r (by omega)) ?_
      refine v_assign rfl ?_
      refine v_nil ?_
      refine q_n ?_
      have hno := mtb_no hj hacc
      refine ⟨_, _, _, ?_, ⟨i + 1, rfl, by omega, rfl, rfl⟩, by omega⟩
      exact turn0 ⟨tr_sl, tr_sl, tr_v, tr_i (cnb_f hno), tr_i (by push_cast; omega), trivial⟩
    have hi1 : j < ps.length := by omega
    obtain ⟨hk, hn, hg⟩ := hW.at hi1
    obtain ⟨n1, n2, n3, n4, n5⟩ := ok_n hk hn
    refine v_move rfl ?_
    refine v_guard_on rfl rfl ?_
    refine v_move rfl ?_
    refine v_pick_t rfl rfl ?_
    refine v_nil ?_
    refine q_n ?_
    refine w_f rfl ?_
    refine w_exit ?_
    refine q_e ?_
    refine q_e ?_
    refine q_hit ?_
    refine q_n ?_
    refine w_seq ?_
    refine w_reg rfl ?_
    refine v_move rfl ?_
    refine v_nil ?_
    refine q_n ?_
    refine w_f rfl ?_
    refine w_skip ?_
    refine q_bn ?_
    refine q_n ?_
    refine w_reg rfl ?_
    refine v_move rfl ?_
    refine v_add lay2 rfl rfl (i64r (by omega)) ?_
    refine v_assign rfl ?_
    refine v_nil ?_
    refine q_n ?_
    have hno := mtb_no hj hacc
    refine ⟨_, _, _, ?_, ⟨i + 1, rfl, by omega, rfl, rfl⟩, by omega⟩
    exact turn0 ⟨tr_sl, tr_sl, tr_v, tr_i (cnb_f hno), tr_i (by push_cast; omega), trivial⟩
  · skip
    refine w_seq ?_
    refine w_seq ?_
    refine w_reg rfl ?_
    refine v_move rfl ?_
    refine v_move rfl ?_
    refine v_len_sl lay38 rfl ?_
    refine v_lss lay3 rfl rfl (fun h5 => ?_) (fun h5 => ?_)
    rotate_left
    · refine v_move rfl ?_
      refine v_guard_off rfl rfl rfl ?_
      refine v_pick_f (v := .v (.bool false)) rfl rfl ?_
      refine v_nil ?_
      refine q_n ?_
      refine w_f rfl ?_
      refine w_exit ?_
      refine q_e ?_
      refine q_e ?_
      refine q_hit ?_
      refine q_n ?_
      refine w_seq ?_
      refine w_reg rfl ?_
      refine v_move rfl ?_
      refine v_nil ?_
      refine q_n ?_
      refine w_t rfl ?_
      refine w_reg rfl ?_
      refine v_move rfl ?_
      refine v_add lay2 rfl rfl (i64r (by omega)) ?_
      refine v_assign rfl ?_
      refine v_nil ?_
      refine q_bn ?_
      refine q_n ?_
      refine w_reg rfl ?_
      refine v_move rfl ?_
      refine v_add lay2 rfl rfl (i64r (by omega)) ?_
      refine v_assign rfl ?_
      refine v_nil ?_
      refine q_n ?_
      obtain rfl : j = ps.length := by omega
      refine ⟨_, _, _, ?_, ⟨i + 1, rfl, by omega, rfl, rfl⟩, by omega⟩
      exact turn0 ⟨tr_sl, tr_sl, tr_v, tr_i (cnb_t hacc), tr_i (by push_cast; omega), trivial⟩
    have hi1 : j < ps.length := by omega
    obtain ⟨hk, hn, hg⟩ := hW.at hi1
    obtain ⟨n1, n2, n3, n4, n5⟩ := ok_n hk hn
    refine v_move rfl ?_
    refine v_guard_on rfl rfl ?_
    refine v_move rfl ?_
    refine v_pick_t rfl rfl ?_
    refine v_nil ?_
    refine q_n ?_
    refine w_t rfl ?_
    refine w_skip ?_
    refine q_n ?_
    refine w_seq ?_
    refine w_block ?_
    refine w_seq ?_
    refine w_seq ?_
    refine w_reg rfl ?_
    refine v_move rfl ?_
    refine v_gtr lay3 rfl rfl (fun h6 => ?_) (fun h6 => ?_)
    rotate_left
    · obtain rfl : j = 0 := by omega
      have hx : (i : Int) + sumT ts (0 - 1) = (i : Int) + sumT ts 0 := rfl
      refine v_nil ?_
      refine q_n ?_
      refine w_f rfl ?_
      refine w_skip ?_
      refine q_n ?_
      refine w_seq ?_
      refine w_draw [0, 0, 3, 0, 0, 24, 0, 120, 255, 511, 1023, 1023, 0, 6143, 16383] [⟨0, 0, []⟩, ⟨1, 0, []⟩, ⟨2, 0, []⟩, ⟨3, 0, []⟩, ⟨4, 0, []⟩, ⟨5, 0, []⟩, ⟨6, 0, []⟩, ⟨7, 0, []⟩, ⟨8, 0, []⟩, ⟨9, 0, []⟩, ⟨10, 0, []⟩, ⟨11, 0, []⟩, ⟨12, 1, [7, 8]⟩, ⟨13, 1, []⟩, ⟨14, 0, []⟩] rfl rfl ?_
      refine d_q rfl rfl rfl rfl rfl ?_
      refine v_move rfl ?_
      refine v_nil ?_
      refine d_q rfl rfl rfl rfl rfl ?_
      refine v_move rfl ?_
      refine v_nil ?_
      refine d_q rfl rfl rfl rfl rfl ?_
      refine v_idx_e (k := 3) (0) plc_len lay38 lay28 rfl rfl rfl (rfl) rfl (rfl) (hi1) ?_
      refine v_nil ?_
      refine d_q rfl rfl rfl rfl rfl ?_
      refine v_move rfl ?_
      refine v_nil ?_
      refine d_q rfl rfl rfl rfl rfl ?_
      refine v_move rfl ?_
      refine v_nil ?_
      refine d_q rfl rfl rfl rfl rfl ?_
      refine v_idx_e (k := 3) (0) plc_len lay38 lay28 rfl rfl rfl (rfl) rfl (rfl) (hi1) ?_
      refine v_nil ?_
      refine d_q rfl rfl rfl rfl rfl ?_
      refine v_move rfl ?_
      refine v_nil ?_
      refine d_call (c57 _ _ _ _ hk n hn (by omega)) rfl rfl rfl rfl rfl (.cons vw_vw (.cons vw_v .nil)) ?_
      refine d_call (c56 _ _ _ _ hk.1.2.1 hk.1.2.2 n5 (emr n1 n2)) rfl rfl rfl rfl rfl (.cons vw_vw (.cons vw_v .nil)) ?_
      refine d_q rfl rfl rfl rfl rfl ?_
      refine v_move_t rfl ?_
      refine v_nil ?_
      refine d_q rfl rfl rfl rfl rfl ?_
      refine v_extract_a rfl rfl ?_
      refine v_nil ?_
      refine d_q rfl rfl rfl rfl rfl ?_
      refine v_extract_c rfl rfl ?_
      refine v_nil ?_
      refine d_e rfl rfl rfl ?_
      refine v_alloc (m := 0) (H' := [⟨[.v _, .v _, .v _, .v _, .v _, .v _, .v _, .v _], 80, true⟩]) lay80 rfl rfl ?_
      refine v_nil ⟨⟨ag_if rfl (ag_call (c56 _ _ _ _ hk.1.2.1 hk.1.2.2 n5 (emr n1 n2)) rfl rfl rfl (.cons vw_vw (.cons vw_v .nil))), ⟨ag_if rfl (ag_call (c57 _ _ _ _ hk n hn (by omega)) rfl rfl rfl (.cons vw_vw (.cons vw_v .nil))), trivial⟩⟩, ?_⟩
      refine d_e rfl rfl rfl ?_
      refine v_store (H' := [⟨[_, _, _, _, _, _, _, _], 80, true⟩]) lay80 rfl rfl rfl rfl rfl rfl ?_
      refine v_nil ⟨again_nil, ?_⟩
      refine d_q rfl rfl rfl rfl rfl ?_
      refine v_assign rfl ?_
      refine v_nil ?_
      refine d_nil ?_
      refine q_n ?_
      refine w_reg rfl ?_
      refine v_move rfl ?_
      refine v_idx_arr_e (k := 1) (m) lay80 lay4 rfl rfl rfl (rfl) (w4) ?_
      refine v_load_flat_e (enc := bo) (ys := pl (atR ps[0].1 ps[0].2.1 (((i : Int) + sumT ts (0 - 1) - ps[0].2.2) % n)).1) m 0 (.c (.v (.bool ((atR ps[0].1 ps[0].2.1 (((i : Int) + sumT ts (0 - 1) - ps[0].2.2) % n)).1 ⟨m, w4⟩)))) bo_len lay4 rfl rfl (by omega) w4 (by decide) (pl_ld _ w4 _) ?_
      refine v_assign rfl ?_
      refine v_nil ?_
      refine q_bn ?_
      refine q_n ?_
      refine w_reg rfl ?_
      refine v_move rfl ?_
      refine v_add lay3 rfl rfl (i64r (by omega)) ?_
      refine v_assign rfl ?_
      refine v_nil ?_
      refine q_n ?_
      refine ⟨_, _, _, ?_, ⟨0 + 1, rfl, by omega, rfl, rfl⟩, by omega⟩
      exact turn0 ⟨tr_sl, tr_sl, tr_v, tr_v, tr_v, tr_i hx, tr_bb (by rw [mtb_s hi1 hx, hacc, gr_eq w4] <;> rfl), tr_i (by first | rfl | (push_cast; omega)), trivial⟩
    obtain ⟨q, rfl⟩ : ∃ q, j = q + 1 := ⟨j - 1, by omega⟩
    have hq : q < ts.length := by omega
    have htq := hW.tr _ (List.getElem_mem hq)
    have hx : (i : Int) + sumT ts (q + 1 - 1) + ts[q] = (i : Int) + sumT ts (q + 1) := by rw [sumT_step hq]; simp only [Nat.add_sub_cancel]; omega
    refine v_nil ?_
    refine q_n ?_
    refine w_t rfl ?_
    refine w_reg rfl ?_
    refine v_move rfl ?_
    refine v_move rfl ?_
    refine v_move rfl ?_
    refine v_sub lay3 rfl rfl (i64r (by omega)) ?_
    refine v_idx_e (k := 1) (q) int_len lay36 lay2 rfl rfl rfl (rfl) rfl (by push_cast; omega) (hq) ?_
    refine v_load_vw (.c (.v _)) lay2 rfl rfl rfl ?_
    refine v_add lay2 rfl rfl (i64r (by omega)) ?_
    refine v_assign rfl ?_
    refine v_nil ?_
    refine q_n ?_
    refine w_seq ?_
    refine w_draw [0, 0, 3, 0, 0, 24, 0, 120, 255, 511, 1023, 1023, 0, 6143, 16383] [⟨0, 0, []⟩, ⟨1, 0, []⟩, ⟨2, 0, []⟩, ⟨3, 0, []⟩, ⟨4, 0, []⟩, ⟨5, 0, []⟩, ⟨6, 0, []⟩, ⟨7, 0, []⟩, ⟨8, 0, []⟩, ⟨9, 0, []⟩, ⟨10, 0, []⟩, ⟨11, 0, []⟩, ⟨12, 1, [7, 8]⟩, ⟨13, 1, []⟩, ⟨14, 0, []⟩] rfl rfl ?_
    refine d_q rfl rfl rfl rfl rfl ?_
    refine v_move rfl ?_
    refine v_nil ?_
    refine d_q rfl rfl rfl rfl rfl ?_
    refine v_move rfl ?_
    refine v_nil ?_
    refine d_q rfl rfl rfl rfl rfl ?_
    refine v_idx_e (k := 3) (q + 1) plc_len lay38 lay28 rfl rfl rfl (rfl) rfl (rfl) (hi1) ?_
    refine v_nil ?_
    refine d_q rfl rfl rfl rfl rfl ?_
    refine v_move rfl ?_
    refine v_nil ?_
    refine d_q rfl rfl rfl rfl rfl ?_
    refine v_move rfl ?_
    refine v_nil ?_
    refine d_q rfl rfl rfl rfl rfl ?_
    refine v_idx_e (k := 3) (q + 1) plc_len lay38 lay28 rfl rfl rfl (rfl) rfl (rfl) (hi1) ?_
    refine v_nil ?_
    refine d_q rfl rfl rfl rfl rfl ?_
    refine v_move rfl ?_
    refine v_nil ?_
    refine d_call (c57 _ _ _ _ hk n hn (by omega)) rfl rfl rfl rfl rfl (.cons vw_vw (.cons vw_v .nil)) ?_
    refine d_call (c56 _ _ _ _ hk.1.2.1 hk.1.2.2 n5 (emr n1 n2)) rfl rfl rfl rfl rfl (.cons vw_vw (.cons vw_v .nil)) ?_
    refine d_q rfl rfl rfl rfl rfl ?_
    refine v_move_t rfl ?_
    refine v_nil ?_
    refine d_q rfl rfl rfl rfl rfl ?_
    refine v_extract_a rfl rfl ?_
    refine v_nil ?_
    refine d_q rfl rfl rfl rfl rfl ?_
    refine v_extract_c rfl rfl ?_
    refine v_nil ?_
    refine d_e rfl rfl rfl ?_
    refine v_alloc (m := 0) (H' := [⟨[.v _, .v _, .v _, .v _, .v _, .v _, .v _, .v _], 80, true⟩]) lay80 rfl rfl ?_
    refine v_nil ⟨⟨ag_if rfl (ag_call (c56 _ _ _ _ hk.1.2.1 hk.1.2.2 n5 (emr n1 n2)) rfl rfl rfl (.cons vw_vw (.cons vw_v .nil))), ⟨ag_if rfl (ag_call (c57 _ _ _ _ hk n hn (by omega)) rfl rfl rfl (.cons vw_vw (.cons vw_v .nil))), trivial⟩⟩, ?_⟩
    refine d_e rfl rfl rfl ?_
    refine v_store (H' := [⟨[_, _, _, _, _, _, _, _], 80, true⟩]) lay80 rfl rfl rfl rfl rfl rfl ?_
    refine v_nil ⟨again_nil, ?_⟩
    refine d_q rfl rfl rfl rfl rfl ?_
    refine v_assign rfl ?_
    refine v_nil ?_
    refine d_nil ?_
    refine q_n ?_
    refine w_reg rfl ?_
    refine v_move rfl ?_
    refine v_idx_arr_e (k := 1) (m) lay80 lay4 rfl rfl rfl (rfl) (w4) ?_
    refine v_load_flat_e (enc := bo) (ys := pl (atR ps[q + 1].1 ps[q + 1].2.1 (((i : Int) + sumT ts (q + 1 - 1) + ts[q] - ps[q + 1].2.2) % n)).1) m 0 (.c (.v (.bool ((atR ps[q + 1].1 ps[q + 1].2.1 (((i : Int) + sumT ts (q + 1 - 1) + ts[q] - ps[q + 1].2.2) % n)).1 ⟨m, w4⟩)))) bo_len lay4 rfl rfl (by omega) w4 (by decide) (pl_ld _ w4 _) ?_
    refine v_assign rfl ?_
    refine v_nil ?_
    refine q_bn ?_
    refine q_n ?_
    refine w_reg rfl ?_
    refine v_move rfl ?_
    refine v_add lay3 rfl rfl (i64r (by omega)) ?_
    refine v_assign rfl ?_
    refine v_nil ?_
    refine q_n ?_
    refine ⟨_, _, _, ?_, ⟨q + 1 + 1, rfl, by omega, rfl, rfl⟩, by omega⟩
    exact turn0 ⟨tr_sl, tr_sl, tr_v, tr_v, tr_v, tr_i hx, tr_bb (by rw [mtb_s hi1 hx, hacc, gr_eq w4] <;> rfl), tr_i (by first | rfl | (push_cast; omega)), trivial⟩
end Go.VL
namespace Go.VL
open Go.RowKit
set_option maxRecDepth 20000
set_option maxHeartbeats 8000000
def stv (s : Slo) : List Value := [.bool (s.1 0), .bool (s.1 1), .bool (s.1 2), .bool (s.1 3), .bool (s.1 4), .bool (s.1 5), .bool (s.1 6), .bool (s.1 7), .int .i64 s.2]
def stl (s : Slo) : List Lit := [.bool (s.1 0), .bool (s.1 1), .bool (s.1 2), .bool (s.1 3), .bool (s.1 4), .bool (s.1 5), .bool (s.1 6), .bool (s.1 7), .int .i64 s.2]
theorem st_wf {s : Slo} (h : 1 ≤ s.2 ∧ s.2 ≤ 240) : (Lit.int .i64 s.2).wf = true := by
  simp only [Lit.wf, decide_eq_true_eq, Bool.and_eq_true]
  exact ⟨show (-9223372036854775808 : Int) ≤ s.2 by omega, show s.2 ≤ (9223372036854775807 : Int) by omega⟩
theorem st_lits {s : Slo} (h : 1 ≤ s.2 ∧ s.2 ≤ 240) : X.P.keyLits 3 82 (stv s) = some (stl s) := by
  have hw := st_wf h
  have e : ∀ w : Bool, w = true → Option.map List.flatten (do
      let a ← (some [Lit.bool (s.1 0), .bool (s.1 1), .bool (s.1 2), .bool (s.1 3), .bool (s.1 4), .bool (s.1 5), .bool (s.1 6), .bool (s.1 7)])
      let b ← (if IntKind.i64 = IntKind.i64 ∧ w = true then some [Lit.int .i64 s.2] else none)
      pure [a, b]) = some (stl s) := fun w hw => by subst hw; rfl
  refine Eq.trans ?_ (e _ hw)
  kernel_rfl
theorem stl_inj {a b : Slo} : a = b ↔ stl a = stl b := by
  refine ⟨fun e => by rw [e], fun e => ?_⟩
  simp only [stl, List.cons.injEq, Lit.bool.injEq, Lit.int.injEq, true_and, and_true] at e
  obtain ⟨h0, h1, h2, h3, h4, h5, h6, h7, h8⟩ := e
  refine Prod.ext ?_ h8
  funext ⟨i, hi⟩
  match i, hi with
  | 0, _ => exact h0
  | 1, _ => exact h1
  | 2, _ => exact h2
  | 3, _ => exact h3
  | 4, _ => exact h4
  | 5, _ => exact h5
  | 6, _ => exact h6
  | 7, _ => exact h7
theorem rq82 {x y : Operand} {ty2 : TypeId} {ρ : Operand → V} {a b : Slo} (ha : 1 ≤ a.2 ∧ a.2 ≤ 240) (hb : 1 ≤ b.2 ∧ b.2 ≤ 240) (hx : ρ x = .agg (stc a)) (hy : ρ y = .agg (stc b)) : RawQ X (.binOp .neq 82 x y ty2) ρ (cB (decide (¬ a = b))) :=
  rq_neqD (vs1 := stv a) (vs2 := stv b) 3 9997 rfl (by kernel_rfl) (by kernel_rfl) (by kernel_rfl) (st_lits ha) (st_lits hb) stl_inj (by kernel_rfl) hx hy
theorem pln_ext (p q : Pln) : p = q ↔ p.1 = q.1 ∧ p.2.1 = q.2.1 ∧ p.2.2 = q.2.2 := by
  rw [Prod.ext_iff, Prod.ext_iff]
theorem c52 (p q : Pln) (hp : ticksOk p.1) (hq : ticksOk q.1) (hx : p.1.length ≤ 2 ^ 40) (hy : q.1.length ≤ 2 ^ 40) : PureC X 52 [.c (.vw false (plc p) 0), .c (.vw false (plc q) 0)] (cB (decide (p = q))) := by
  refine PureC.of_body (drawD_ok X) (fun _ _ => Go.Proofs.Try.call52 _ _) Go.Proofs.Try.func52 rfl (n := 61) rfl ?_
  refine w_seq ?_
  refine w_reg rfl ?_
  refine v_assign (c := .v (.bool false)) rfl ?_
  refine v_nil ?_
  refine q_n ?_
  refine w_seq ?_
  refine w_seq ?_
  refine w_draw [0, 1, 3, 7, 15, 0, 32, 96, 224, 480, 1023] [⟨0, 0, []⟩, ⟨1, 0, []⟩, ⟨2, 0, []⟩, ⟨3, 0, []⟩, ⟨4, 0, []⟩, ⟨5, 0, []⟩, ⟨6, 0, []⟩, ⟨7, 0, []⟩, ⟨8, 0, []⟩, ⟨9, 0, []⟩, ⟨10, 0, []⟩] rfl rfl ?_
  refine d_q rfl rfl rfl rfl rfl ?_
  refine v_move rfl ?_
  refine v_nil ?_
  refine d_q rfl rfl rfl rfl rfl ?_
  refine v_nil_vw rfl ?_
  refine v_nil ?_
  refine d_q rfl rfl rfl rfl rfl ?_
  refine v_fa_vw (off' := 0) lay28 rfl rfl rfl ?_
  refine v_nil ?_
  refine d_q rfl rfl rfl rfl rfl ?_
  refine v_load_vw (.c (_)) lay26 rfl rfl rfl ?_
  refine v_nil ?_
  refine d_q rfl rfl rfl rfl rfl ?_
  refine v_len_sl lay26 rfl ?_
  refine v_nil ?_
  refine d_q rfl rfl rfl rfl rfl ?_
  refine v_move rfl ?_
  refine v_nil ?_
  refine d_q rfl rfl rfl rfl rfl ?_
  refine v_nil_vw rfl ?_
  refine v_nil ?_
  refine d_q rfl rfl rfl rfl rfl ?_
  refine v_fa_vw (off' := 0) lay28 rfl rfl rfl ?_
  refine v_nil ?_
  refine d_q rfl rfl rfl rfl rfl ?_
  refine v_load_vw (.c (_)) lay26 rfl rfl rfl ?_
  refine v_nil ?_
  refine d_q rfl rfl rfl rfl rfl ?_
  refine v_len_sl lay26 rfl ?_
  refine v_nil ?_
  refine d_q rfl rfl rfl rfl rfl ?_
  refine v_neq lay3 rfl rfl (fun h1 => ?_) (fun h1 => ?_)
  · have hl := h1
    refine v_nil ?_
    refine d_nil ?_
    refine q_n ?_
    refine w_t rfl ?_
    refine w_seq ?_
    refine w_reg rfl ?_
    refine v_assign (c := .v (.bool false)) rfl ?_
    refine v_nil ?_
    refine q_n ?_
    refine w_ret (q_r ?_)
    refine r_r rfl ?_
    exact a_b (by simp only [Bool.false_eq_true, false_iff]; rintro rfl; exact hl rfl)
  have hl := h1
  refine v_nil ?_
  refine d_nil ?_
  refine q_n ?_
  refine w_f rfl ?_
  refine w_skip ?_
  refine q_n ?_
  refine w_seq ?_
  refine w_seq ?_
  refine w_reg rfl ?_
  refine v_assign (c := .v (.int .i64 0)) rfl ?_
  refine v_nil ?_
  refine q_n ?_
  refine w_block ?_
  refine w_loop (fun k sl H => ∃ i : Nat, k = p.1.length - i ∧ i ≤ p.1.length ∧ p.1.take i = q.1.take i ∧ sl = sls [(0, .c (.vw false (plc p) 0)), (1, .c (.vw false (plc q) 0)), (5, cI i)] ∧ H = []) ?_ ?_
  · refine ⟨_, _, _, ?_, 0, rfl, Nat.zero_le _, rfl, rfl, rfl⟩
    exact turn0 ⟨tr_vw, tr_vw, tr_v, trivial⟩
  rintro k sl H ⟨i, rfl, hi, hpq, rfl, rfl⟩
  refine w_seq ?_
  refine w_seq ?_
  refine w_reg rfl ?_
  refine v_move rfl ?_
  refine v_move rfl ?_
  refine v_nil_vw rfl ?_
  refine v_fa_vw (off' := 0) lay28 rfl rfl rfl ?_
  refine v_load_vw (.c (_)) lay26 rfl rfl rfl ?_
  refine v_len_sl lay26 rfl ?_
  refine v_lss lay3 rfl rfl (fun h2 => ?_) (fun h2 => ?_)
  · have i1 : i < p.1.length := by omega
    have i2 : i < q.1.length := by omega
    refine v_nil ?_
    refine q_n ?_
    refine w_t rfl ?_
    refine w_skip ?_
    refine q_n ?_
    refine w_seq ?_
    refine w_block ?_
    refine w_seq ?_
    refine w_draw [0, 1, 3, 7, 0, 31, 63, 0, 128, 384, 896, 0, 3968, 8064, 16383] [⟨0, 0, []⟩, ⟨1, 0, []⟩, ⟨2, 0, []⟩, ⟨3, 0, []⟩, ⟨4, 0, []⟩, ⟨5, 0, []⟩, ⟨6, 0, []⟩, ⟨7, 0, []⟩, ⟨8, 0, []⟩, ⟨9, 0, []⟩, ⟨10, 0, []⟩, ⟨11, 0, []⟩, ⟨12, 0, []⟩, ⟨13, 0, []⟩, ⟨14, 0, []⟩] rfl rfl ?_
    refine d_q rfl rfl rfl rfl rfl ?_
    refine v_move rfl ?_
    refine v_nil ?_
    refine d_q rfl rfl rfl rfl rfl ?_
    refine v_nil_vw rfl ?_
    refine v_nil ?_
    refine d_q rfl rfl rfl rfl rfl ?_
    refine v_fa_vw (off' := 0) lay28 rfl rfl rfl ?_
    refine v_nil ?_
    refine d_q rfl rfl rfl rfl rfl ?_
    refine v_load_vw (.c (_)) lay26 rfl rfl rfl ?_
    refine v_nil ?_
    refine d_q rfl rfl rfl rfl rfl ?_
    refine v_move rfl ?_
    refine v_nil ?_
    refine d_q rfl rfl rfl rfl rfl ?_
    refine v_idx_e (k := 9) (i) stc_len lay26 lay82 rfl rfl rfl (rfl) rfl (rfl) (i1) ?_
    refine v_nil ?_
    refine d_q rfl rfl rfl rfl rfl ?_
    refine v_load_vw (.agg [.v _, .v _, .v _, .v _, .v _, .v _, .v _, .v _, .v _]) lay82 rfl rfl rfl ?_
    refine v_nil ?_
    refine d_q rfl rfl rfl rfl rfl ?_
    refine v_move rfl ?_
    refine v_nil ?_
    refine d_q rfl rfl rfl rfl rfl ?_
    refine v_nil_vw rfl ?_
    refine v_nil ?_
    refine d_q rfl rfl rfl rfl rfl ?_
    refine v_fa_vw (off' := 0) lay28 rfl rfl rfl ?_
    refine v_nil ?_
    refine d_q rfl rfl rfl rfl rfl ?_
    refine v_load_vw (.c (_)) lay26 rfl rfl rfl ?_
    refine v_nil ?_
    refine d_q rfl rfl rfl rfl rfl ?_
    refine v_move rfl ?_
    refine v_nil ?_
    refine d_q rfl rfl rfl rfl rfl ?_
    refine v_idx_e (k := 9) (i) stc_len lay26 lay82 rfl rfl rfl (rfl) rfl (rfl) (i2) ?_
    refine v_nil ?_
    refine d_q rfl rfl rfl rfl rfl ?_
    refine v_load_vw (.agg [.v _, .v _, .v _, .v _, .v _, .v _, .v _, .v _, .v _]) lay82 rfl rfl rfl ?_
    refine v_nil ?_
    refine d_rawb (rq82 (a := p.1[i]) (b := q.1[i]) (tk_at hp i1) (tk_at hq i2) rfl rfl) rfl rfl rfl rfl rfl (fun h5 => ?_) (fun h5 => ?_)
    · have heq := h5
      refine d_nil ?_
      refine q_n ?_
      refine w_t rfl ?_
      refine w_seq ?_
      refine w_reg rfl ?_
      refine v_assign (c := .v (.bool false)) rfl ?_
      refine v_nil ?_
      refine q_n ?_
      refine w_ret (q_br (q_r (q_r (q_br (q_r ?_)))))
      refine r_r rfl ?_
      exact a_b (by simp only [Bool.false_eq_true, false_iff]; rintro rfl; exact heq rfl)
    have heq := h5
    refine d_nil ?_
    refine q_n ?_
    refine w_f rfl ?_
    refine w_skip ?_
    refine q_bn ?_
    refine q_n ?_
    refine w_reg rfl ?_
    refine v_move rfl ?_
    refine v_add lay3 rfl rfl (i64r (by omega)) ?_
    refine v_assign rfl ?_
    refine v_nil ?_
    refine q_n ?_
    refine ⟨_, _, _, ?_, ⟨i + 1, rfl, by omega, take_step_eq hpq i1 i2 (Decidable.not_not.1 heq), rfl, rfl⟩, by omega⟩
    exact turn0 ⟨tr_vw, tr_vw, tr_v, trivial⟩
  have hpe : p.1 = q.1 := take_all_eq hpq (by omega) (by omega)
  refine v_nil ?_
  refine q_n ?_
  refine w_f rfl ?_
  refine w_exit ?_
  refine q_e ?_
  refine q_e ?_
  refine q_hit ?_
  refine q_n ?_
  refine w_seq ?_
  refine w_draw [0, 1, 3, 7, 0, 16, 48, 112, 255, 511, 1023, 2047, 4095, 8191, 1023, 17407, 50175, 115711, 262143, 524287, 1048575] [⟨0, 0, []⟩, ⟨1, 0, []⟩, ⟨2, 0, []⟩, ⟨3, 0, []⟩, ⟨4, 0, []⟩, ⟨5, 0, []⟩, ⟨6, 0, []⟩, ⟨7, 0, []⟩, ⟨8, 0, []⟩, ⟨9, 0, []⟩, ⟨10, 0, []⟩, ⟨11, 0, []⟩, ⟨12, 0, []⟩, ⟨13, 0, []⟩, ⟨14, 0, []⟩, ⟨15, 0, []⟩, ⟨16, 0, []⟩, ⟨17, 0, []⟩, ⟨18, 0, []⟩, ⟨19, 0, []⟩, ⟨20, 0, []⟩] rfl rfl ?_
  refine d_q rfl rfl rfl rfl rfl ?_
  refine v_move rfl ?_
  refine v_nil ?_
  refine d_q rfl rfl rfl rfl rfl ?_
  refine v_nil_vw rfl ?_
  refine v_nil ?_
  refine d_q rfl rfl rfl rfl rfl ?_
  refine v_fa_vw (off' := 1) lay28 rfl rfl rfl ?_
  refine v_nil ?_
  refine d_q rfl rfl rfl rfl rfl ?_
  refine v_load_vw (.c (.v _)) lay2 rfl rfl rfl ?_
  refine v_nil ?_
  refine d_q rfl rfl rfl rfl rfl ?_
  refine v_move rfl ?_
  refine v_nil ?_
  refine d_q rfl rfl rfl rfl rfl ?_
  refine v_nil_vw rfl ?_
  refine v_nil ?_
  refine d_q rfl rfl rfl rfl rfl ?_
  refine v_fa_vw (off' := 1) lay28 rfl rfl rfl ?_
  refine v_nil ?_
  refine d_q rfl rfl rfl rfl rfl ?_
  refine v_load_vw (.c (.v _)) lay2 rfl rfl rfl ?_
  refine v_nil ?_
  refine d_q rfl rfl rfl rfl rfl ?_
  refine v_eql lay2 rfl rfl (fun h6 => ?_) (fun h6 => ?_)
  rotate_left
  · refine v_nil ?_
    refine d_q rfl rfl rfl rfl rfl ?_
    refine v_move rfl ?_
    refine v_nil ?_
    refine d_off rfl rfl ?_
    refine d_off rfl rfl ?_
    refine d_off rfl rfl ?_
    refine d_off rfl rfl ?_
    refine d_off rfl rfl ?_
    refine d_off rfl rfl ?_
    refine d_off rfl rfl ?_
    refine d_off rfl rfl ?_
    refine d_off rfl rfl ?_
    refine d_q rfl rfl rfl rfl rfl ?_
    refine v_pick_f (v := .v (.bool false)) rfl rfl ?_
    refine v_nil ?_
    refine d_q rfl rfl rfl rfl rfl ?_
    refine v_assign rfl ?_
    refine v_nil ?_
    refine d_nil ?_
    refine q_n ?_
    refine w_ret ?_
    refine r_r rfl ?_
    exact a_b (by rw [pln_ext]; simp_all)
  refine v_nil ?_
  refine d_q rfl rfl rfl rfl rfl ?_
  refine v_move rfl ?_
  refine v_nil ?_
  refine d_q rfl rfl rfl rfl rfl ?_
  refine v_move rfl ?_
  refine v_nil ?_
  refine d_q rfl rfl rfl rfl rfl ?_
  refine v_nil_vw rfl ?_
  refine v_nil ?_
  refine d_q rfl rfl rfl rfl rfl ?_
  refine v_fa_vw (off' := 2) lay28 rfl rfl rfl ?_
  refine v_nil ?_
  refine d_q rfl rfl rfl rfl rfl ?_
  refine v_load_vw (.c (.v _)) lay2 rfl rfl rfl ?_
  refine v_nil ?_
  refine d_q rfl rfl rfl rfl rfl ?_
  refine v_move rfl ?_
  refine v_nil ?_
  refine d_q rfl rfl rfl rfl rfl ?_
  refine v_nil_vw rfl ?_
  refine v_nil ?_
  refine d_q rfl rfl rfl rfl rfl ?_
  refine v_fa_vw (off' := 2) lay28 rfl rfl rfl ?_
  refine v_nil ?_
  refine d_q rfl rfl rfl rfl rfl ?_
  refine v_load_vw (.c (.v _)) lay2 rfl rfl rfl ?_
  refine v_nil ?_
  refine d_q rfl rfl rfl rfl rfl ?_
  refine v_eql lay2 rfl rfl (fun h7 => ?_) (fun h7 => ?_)
  · refine v_nil ?_
    refine d_q rfl rfl rfl rfl rfl ?_
    refine v_pick_t rfl rfl ?_
    refine v_nil ?_
    refine d_q rfl rfl rfl rfl rfl ?_
    refine v_assign rfl ?_
    refine v_nil ?_
    refine d_nil ?_
    refine q_n ?_
    refine w_ret ?_
    refine r_r rfl ?_
    exact a_b (by rw [pln_ext]; simp_all)
  refine v_nil ?_
  refine d_q rfl rfl rfl rfl rfl ?_
  refine v_pick_t rfl rfl ?_
  refine v_nil ?_
  refine d_q rfl rfl rfl rfl rfl ?_
  refine v_assign rfl ?_
  refine v_nil ?_
  refine d_nil ?_
  refine q_n ?_
  refine w_ret ?_
  refine r_r rfl ?_
  exact a_b (by rw [pln_ext]; simp_all)
theorem c25 (p q : Pln) (hp : ticksOk p.1) (hq : ticksOk q.1) (hx : p.1.length ≤ 2 ^ 40) (hy : q.1.length ≤ 2 ^ 40) : PureC X 25 [.agg (plf p), .agg (plf q)] (cB (decide (p = q))) := by
  refine PureC.of_body (drawD_ok X) (fun _ _ => Go.Proofs.Try.call25 _ _) Go.Proofs.Try.func25 rfl (n := 6) rfl ?_
  refine w_seq ?_
  refine w_reg rfl ?_
  refine v_box (m := 0) (H' := [_]) lay28 rfl rfl rfl ?_
  refine v_box (m := 1) (H' := [_, _]) lay28 rfl rfl rfl ?_
  refine v_assign (c := .v (.bool false)) rfl ?_
  refine v_nil ?_
  refine q_n ?_
  refine w_seq ?_
  refine w_reg rfl ?_
  refine v_callb (c52 p q hp hq hx hy) rfl rfl (.cons (vw_pt rfl (.cons (.sl (fun h => by cases h)) (.cons .v (.cons .v .nil)))) (.cons (vw_pt rfl (.cons (.sl (fun h => by cases h)) (.cons .v (.cons .v .nil)))) .nil)) (fun h1 => ?_) (fun h1 => ?_)
  · refine v_assign rfl ?_
    refine v_nil ?_
    refine q_n ?_
    refine w_ret ?_
    refine r_r rfl ?_
    exact a_b (by simp_all)
  refine v_assign rfl ?_
  refine v_nil ?_
  refine q_n ?_
  refine w_ret ?_
  refine r_r rfl ?_
  exact a_b (by simp_all)
end Go.VL
namespace Go.VL
open Go.RowKit
set_option maxRecDepth 20000
set_option maxHeartbeats 8000000

abbrev srcO (code : List Int) (a s : Int) : Ob := srcT 105 code a s
theorem c74 {H : List Ob} {id : Nat} (code : List Int) (a : Nat) (s : Int) (hlt : id < H.length) (hc : ∀ b ∈ code, 0 ≤ b ∧ b ≤ 255) (_ : code.length ≤ 2 ^ 40) (ha : (a : Int) ≤ 2 ^ 40) : DetC X 74 [.c (.pt id 0)] (H.set id (srcO code a s)) (cI (nxR code a s)) (H.set id (srcO code ((a : Int) + 1) (nxS code a s))) := by
  refine DetC.of_body (drawD_ok X) (fun _ _ => Go.Proofs.Try.call74 _ _) Go.Proofs.Try.func74 rfl (n := 62) rfl ?_
  refine w_seq ?_
  refine w_reg rfl ?_
  refine v_assign (c := .v (.int .i64 0)) rfl ?_
  refine v_nil ?_
  refine q_n ?_
  refine w_seq ?_
  refine w_reg rfl ?_
  refine v_assign (c := .v (.int .i64 0)) rfl ?_
  refine v_nil ?_
  refine q_n ?_
  refine w_seq ?_
  refine w_seq ?_
  refine w_draw [0, 1, 3, 7, 0, 16, 48, 112, 240, 511] [⟨0, 0, []⟩, ⟨1, 0, []⟩, ⟨2, 0, []⟩, ⟨3, 0, []⟩, ⟨4, 0, []⟩, ⟨5, 0, []⟩, ⟨6, 0, []⟩, ⟨7, 0, []⟩, ⟨8, 0, []⟩, ⟨9, 0, []⟩] rfl rfl ?_
  refine d_q rfl rfl rfl rfl rfl ?_
  refine v_move rfl ?_
  refine v_nil ?_
  refine d_q rfl rfl rfl rfl rfl ?_
  refine v_nil_pt rfl ?_
  refine v_nil ?_
  refine d_q rfl rfl rfl rfl rfl ?_
  refine v_fa_pt (off' := 1) lay105 rfl rfl rfl ?_
  refine v_nil ?_
  refine d_q rfl rfl rfl rfl rfl ?_
  refine v_load_pt (.c _) lay3 rfl (List.getElem?_set_self hlt) rfl rfl ?_
  refine v_nil ?_
  refine d_q rfl rfl rfl rfl rfl ?_
  refine v_move rfl ?_
  refine v_nil ?_
  refine d_q rfl rfl rfl rfl rfl ?_
  refine v_nil_pt rfl ?_
  refine v_nil ?_
  refine d_q rfl rfl rfl rfl rfl ?_
  refine v_fa_pt (off' := 0) lay105 rfl rfl rfl ?_
  refine v_nil ?_
  refine d_q rfl rfl rfl rfl rfl ?_
  refine v_load_pt (.c _) lay48 rfl (List.getElem?_set_self hlt) rfl rfl ?_
  refine v_nil ?_
  refine d_q rfl rfl rfl rfl rfl ?_
  refine v_len_sl lay48 rfl ?_
  refine v_nil ?_
  refine d_q rfl rfl rfl rfl rfl ?_
  refine v_lss lay3 rfl rfl (fun h1 => ?_) (fun h1 => ?_)
  rotate_left
  · have ha1 : ¬ a < code.length := by omega
    have hb := and_le (x := (sd s 0).fdiv (2 ^ min (40 : Int).toNat IntKind.u64.bits)) (k := 8) (y := 255) (by decide) (by decide)
    unfold sd at hb
    refine v_nil ?_
    refine d_nil ?_
    refine q_n ?_
    refine w_f rfl ?_
    refine w_skip ?_
    refine q_n ?_
    refine w_seq ?_
    refine w_reg rfl ?_
    refine v_move rfl ?_
    refine v_nil_pt rfl ?_
    refine v_fa_pt (off' := 1) lay105 rfl rfl rfl ?_
    refine v_load_pt (.c _) lay3 rfl (List.getElem?_set_self hlt) rfl rfl ?_
    refine v_add lay3 rfl rfl (i64r (by omega)) ?_
    refine v_nil_pt rfl ?_
    refine v_fa_pt (off' := 1) lay105 rfl rfl rfl ?_
    refine v_store (H' := H.set id ⟨[_, _, _], 105, true⟩) lay3 rfl rfl (List.getElem?_set_self hlt) rfl rfl (List.set_set ..) ?_
    refine v_nil ?_
    refine q_n ?_
    refine w_seq ?_
    refine w_reg rfl ?_
    refine v_move rfl ?_
    refine v_move rfl ?_
    refine v_nil_pt rfl ?_
    refine v_fa_pt (off' := 2) lay105 rfl rfl rfl ?_
    refine v_load_pt (.c _) lay103 rfl (List.getElem?_set_self hlt) rfl rfl ?_
    refine v_bin (c := .v (.int .u64 _)) lay103 rfl rfl rfl ?_
    refine v_move rfl ?_
    refine v_conv_ii lay3 lay103 rfl (u64r (by omega)) ?_
    refine v_bin (c := .v (.int .u64 _)) lay103 rfl rfl rfl ?_
    refine v_bin (c := .v (.int .u64 _)) lay103 rfl rfl rfl ?_
    refine v_nil_pt rfl ?_
    refine v_fa_pt (off' := 2) lay105 rfl rfl rfl ?_
    refine v_store (H' := H.set id ⟨[_, _, _], 105, true⟩) lay103 rfl rfl (List.getElem?_set_self hlt) rfl rfl (List.set_set ..) ?_
    refine v_nil ?_
    refine q_n ?_
    refine w_seq ?_
    refine w_seq ?_
    refine w_draw [0, 1, 3, 7, 0, 16, 48, 112, 240, 511] [⟨0, 0, []⟩, ⟨1, 0, []⟩, ⟨2, 0, []⟩, ⟨3, 0, []⟩, ⟨4, 0, []⟩, ⟨5, 0, []⟩, ⟨6, 0, []⟩, ⟨7, 0, []⟩, ⟨8, 0, []⟩, ⟨9, 0, []⟩] rfl rfl ?_
    refine d_q rfl rfl rfl rfl rfl ?_
    refine v_move rfl ?_
    refine v_nil ?_
    refine d_q rfl rfl rfl rfl rfl ?_
    refine v_nil_pt rfl ?_
    refine v_nil ?_
    refine d_q rfl rfl rfl rfl rfl ?_
    refine v_fa_pt (off' := 1) lay105 rfl rfl rfl ?_
    refine v_nil ?_
    refine d_q rfl rfl rfl rfl rfl ?_
    refine v_load_pt (.c _) lay3 rfl (List.getElem?_set_self hlt) rfl rfl ?_
    refine v_nil ?_
    refine d_q rfl rfl rfl rfl rfl ?_
    refine v_move rfl ?_
    refine v_nil ?_
    refine d_q rfl rfl rfl rfl rfl ?_
    refine v_nil_pt rfl ?_
    refine v_nil ?_
    refine d_q rfl rfl rfl rfl rfl ?_
    refine v_fa_pt (off' := 0) lay105 rfl rfl rfl ?_
    refine v_nil ?_
    refine d_q rfl rfl rfl rfl rfl ?_
    refine v_load_pt (.c _) lay48 rfl (List.getElem?_set_self hlt) rfl rfl ?_
    refine v_nil ?_
    refine d_q rfl rfl rfl rfl rfl ?_
    refine v_len_sl lay48 rfl ?_
    refine v_nil ?_
    refine d_q rfl rfl rfl rfl rfl ?_
    refine v_leq lay3 rfl rfl (fun h4 => ?_) (fun h4 => ?_)
    · exact absurd h4 (by omega)
    refine v_nil ?_
    refine d_nil ?_
    refine q_n ?_
    refine w_f rfl ?_
    refine w_skip ?_
    refine q_n ?_
    refine w_seq ?_
    refine w_reg rfl ?_
    refine v_move rfl ?_
    refine v_nil_pt rfl ?_
    refine v_fa_pt (off' := 2) lay105 rfl rfl rfl ?_
    refine v_load_pt (.c _) lay103 rfl (List.getElem?_set_self hlt) rfl rfl ?_
    refine v_shr lay103 rfl rfl rfl (by decide) ?_
    refine v_and lay103 rfl rfl rfl ?_
    refine v_conv_ii lay103 lay2 rfl (i64r (by omega)) ?_
    refine v_assign rfl ?_
    refine v_nil ?_
    refine q_n ?_
    refine w_ret ?_
    refine r_r rfl ?_
    exact ⟨congrArg (fun z => (cI z : V)) (nxR_out ha1), congrArg (fun z => H.set id (srcO code ((a : Int) + 1) z)) (nxS_out ha1)⟩
  have ha1 : a < code.length := by omega
  have hb := hc _ (List.getElem_mem ha1)
  refine v_nil ?_
  refine d_nil ?_
  refine q_n ?_
  refine w_t rfl ?_
  refine w_draw [0, 1, 3, 7, 0, 16, 48, 112, 255, 511, 1023, 2047] [⟨0, 0, []⟩, ⟨1, 0, []⟩, ⟨2, 0, []⟩, ⟨3, 0, []⟩, ⟨4, 0, []⟩, ⟨5, 0, []⟩, ⟨6, 0, []⟩, ⟨7, 0, []⟩, ⟨8, 0, []⟩, ⟨9, 0, []⟩, ⟨10, 0, []⟩, ⟨11, 0, []⟩] rfl rfl ?_
  refine d_q rfl rfl rfl rfl rfl ?_
  refine v_move rfl ?_
  refine v_nil ?_
  refine d_q rfl rfl rfl rfl rfl ?_
  refine v_nil_pt rfl ?_
  refine v_nil ?_
  refine d_q rfl rfl rfl rfl rfl ?_
  refine v_fa_pt (off' := 0) lay105 rfl rfl rfl ?_
  refine v_nil ?_
  refine d_q rfl rfl rfl rfl rfl ?_
  refine v_load_pt (.c _) lay48 rfl (List.getElem?_set_self hlt) rfl rfl ?_
  refine v_nil ?_
  refine d_q rfl rfl rfl rfl rfl ?_
  refine v_move rfl ?_
  refine v_nil ?_
  refine d_q rfl rfl rfl rfl rfl ?_
  refine v_nil_pt rfl ?_
  refine v_nil ?_
  refine d_q rfl rfl rfl rfl rfl ?_
  refine v_fa_pt (off' := 1) lay105 rfl rfl rfl ?_
  refine v_nil ?_
  refine d_q rfl rfl rfl rfl rfl ?_
  refine v_load_pt (.c _) lay3 rfl (List.getElem?_set_self hlt) rfl rfl ?_
  refine v_nil ?_
  refine d_q rfl rfl rfl rfl rfl ?_
  refine v_idx_e (k := 1) (a) byt_len lay48 lay5 rfl rfl rfl (rfl) rfl (rfl) (by omega) ?_
  refine v_nil ?_
  refine d_q rfl rfl rfl rfl rfl ?_
  refine v_load_vw (.c (.v _)) lay5 rfl rfl rfl ?_
  refine v_nil ?_
  refine d_q rfl rfl rfl rfl rfl ?_
  refine v_conv_ii lay5 lay3 rfl (i64r (by omega)) ?_
  refine v_nil ?_
  refine d_q rfl rfl rfl rfl rfl ?_
  refine v_assign rfl ?_
  refine v_nil ?_
  refine d_nil ?_
  refine q_n ?_
  refine w_seq ?_
  refine w_reg rfl ?_
  refine v_move rfl ?_
  refine v_nil_pt rfl ?_
  refine v_fa_pt (off' := 1) lay105 rfl rfl rfl ?_
  refine v_load_pt (.c _) lay3 rfl (List.getElem?_set_self hlt) rfl rfl ?_
  refine v_add lay3 rfl rfl (i64r (by omega)) ?_
  refine v_nil_pt rfl ?_
  refine v_fa_pt (off' := 1) lay105 rfl rfl rfl ?_
  refine v_store (H' := H.set id ⟨[_, _, _], 105, true⟩) lay3 rfl rfl (List.getElem?_set_self hlt) rfl rfl (List.set_set ..) ?_
  refine v_nil ?_
  refine q_n ?_
  refine w_seq ?_
  refine w_reg rfl ?_
  refine v_move rfl ?_
  refine v_move rfl ?_
  refine v_nil_pt rfl ?_
  refine v_fa_pt (off' := 2) lay105 rfl rfl rfl ?_
  refine v_load_pt (.c _) lay103 rfl (List.getElem?_set_self hlt) rfl rfl ?_
  refine v_bin (c := .v (.int .u64 _)) lay103 rfl rfl rfl ?_
  refine v_move rfl ?_
  refine v_conv_ii lay3 lay103 rfl (u64r (by omega)) ?_
  refine v_bin (c := .v (.int .u64 _)) lay103 rfl rfl rfl ?_
  refine v_bin (c := .v (.int .u64 _)) lay103 rfl rfl rfl ?_
  refine v_nil_pt rfl ?_
  refine v_fa_pt (off' := 2) lay105 rfl rfl rfl ?_
  refine v_store (H' := H.set id ⟨[_, _, _], 105, true⟩) lay103 rfl rfl (List.getElem?_set_self hlt) rfl rfl (List.set_set ..) ?_
  refine v_nil ?_
  refine q_n ?_
  refine w_seq ?_
  refine w_seq ?_
  refine w_draw [0, 1, 3, 7, 0, 16, 48, 112, 240, 511] [⟨0, 0, []⟩, ⟨1, 0, []⟩, ⟨2, 0, []⟩, ⟨3, 0, []⟩, ⟨4, 0, []⟩, ⟨5, 0, []⟩, ⟨6, 0, []⟩, ⟨7, 0, []⟩, ⟨8, 0, []⟩, ⟨9, 0, []⟩] rfl rfl ?_
  refine d_q rfl rfl rfl rfl rfl ?_
  refine v_move rfl ?_
  refine v_nil ?_
  refine d_q rfl rfl rfl rfl rfl ?_
  refine v_nil_pt rfl ?_
  refine v_nil ?_
  refine d_q rfl rfl rfl rfl rfl ?_
  refine v_fa_pt (off' := 1) lay105 rfl rfl rfl ?_
  refine v_nil ?_
  refine d_q rfl rfl rfl rfl rfl ?_
  refine v_load_pt (.c _) lay3 rfl (List.getElem?_set_self hlt) rfl rfl ?_
  refine v_nil ?_
  refine d_q rfl rfl rfl rfl rfl ?_
  refine v_move rfl ?_
  refine v_nil ?_
  refine d_q rfl rfl rfl rfl rfl ?_
  refine v_nil_pt rfl ?_
  refine v_nil ?_
  refine d_q rfl rfl rfl rfl rfl ?_
  refine v_fa_pt (off' := 0) lay105 rfl rfl rfl ?_
  refine v_nil ?_
  refine d_q rfl rfl rfl rfl rfl ?_
  refine v_load_pt (.c _) lay48 rfl (List.getElem?_set_self hlt) rfl rfl ?_
  refine v_nil ?_
  refine d_q rfl rfl rfl rfl rfl ?_
  refine v_len_sl lay48 rfl ?_
  refine v_nil ?_
  refine d_q rfl rfl rfl rfl rfl ?_
  refine v_leq lay3 rfl rfl (fun h3 => ?_) (fun h3 => ?_)
  rotate_left
  · exact absurd h3 (by omega)
  refine v_nil ?_
  refine d_nil ?_
  refine q_n ?_
  refine w_t rfl ?_
  refine w_seq ?_
  refine w_reg rfl ?_
  refine v_move rfl ?_
  refine v_assign rfl ?_
  refine v_nil ?_
  refine q_n ?_
  refine w_ret (q_r ?_)
  refine r_r rfl ?_
  exact ⟨congrArg (fun z => (cI z : V)) (nxR_in ha1), congrArg (fun z => H.set id (srcO code ((a : Int) + 1) z)) (nxS_in ha1)⟩
theorem c74' {H : List Ob} {id : Nat} (code : List Int) (a s : Int) (hlt : id < H.length) (hc : ∀ b ∈ code, 0 ≤ b ∧ b ≤ 255) (hl : code.length ≤ 2 ^ 40) (h0 : 0 ≤ a) (ha : a ≤ 2 ^ 40) : DetC X 74 [.c (.pt id 0)] (H.set id (srcO code a s)) (cI (nxR code a s)) (H.set id (srcO code (a + 1) (nxS code a s))) := by
  obtain ⟨q, rfl⟩ := Int.eq_ofNat_of_zero_le h0
  exact c74 code q s hlt hc hl ha
theorem c51a {H : List Ob} {id : Nat} (code : List Int) (n a s : Int) (hlt : id < H.length) (hc : ∀ b ∈ code, 0 ≤ b ∧ b ≤ 255) (hl : code.length ≤ 2 ^ 40) (h0 : 0 ≤ a) (ha : a ≤ 2 ^ 40) (hn : n ≤ 200) : DetC X 51 [.c (.pt id 0), cI n] (H.set id (srcO code a s)) (cI (pkR code n a s)) (H.set id (srcO code (pkA n a) (pkS code n a s))) := by
  refine DetC.of_body (drawD_ok X) (fun _ _ => Go.Proofs.Try.call51 _ _) Go.Proofs.Try.func51 rfl (n := 20) rfl ?_
  refine w_seq ?_
  refine w_reg rfl ?_
  refine v_assign (c := .v (.int .i64 0)) rfl ?_
  refine v_nil ?_
  refine q_n ?_
  refine w_seq ?_
  refine w_seq ?_
  refine w_reg rfl ?_
  refine v_move rfl ?_
  refine v_leq lay2 rfl rfl (fun h1 => ?_) (fun h1 => ?_)
  · refine v_nil ?_
    refine q_n ?_
    refine w_t rfl ?_
    refine w_seq ?_
    refine w_reg rfl ?_
    refine v_assign (c := .v (.int .i64 0)) rfl ?_
    refine v_nil ?_
    refine q_n ?_
    refine w_ret (q_r ?_)
    refine r_r rfl ?_
    obtain ⟨e1, e2⟩ := pk_if1 (t := 105) (code := code) (a := a) (s := s) h1
    exact ⟨congrArg (fun z => (cI z : V)) e1, congrArg (fun z => H.set id z) e2⟩
  refine v_nil ?_
  refine q_n ?_
  refine w_f rfl ?_
  refine w_skip ?_
  refine q_n ?_
  refine w_seq ?_
  refine w_reg rfl ?_
  refine v_move rfl ?_
  refine v_det (H' := H.set id (srcO code (a + 1) (nxS code a s))) (c74' code a s hlt hc hl h0 ha) rfl rfl ?_
  refine v_assign rfl ?_
  refine v_nil ?_
  refine q_n ?_
  refine w_seq ?_
  refine w_seq ?_
  refine w_reg rfl ?_
  refine v_move rfl ?_
  refine v_gtr lay2 rfl rfl (fun h2 => ?_) (fun h2 => ?_)
  · exact absurd h2 (by omega)
  refine v_nil ?_
  refine q_n ?_
  refine w_f rfl ?_
  refine w_skip ?_
  refine q_n ?_
  refine w_seq ?_
  refine w_reg rfl ?_
  refine v_move rfl ?_
  refine v_move rfl ?_
  refine v_rem lay2 rfl rfl (by omega) ?_
  refine v_assign rfl ?_
  refine v_nil ?_
  refine q_n ?_
  refine w_ret ?_
  refine r_r rfl ?_
  obtain ⟨e1, e2⟩ := pk_if2 (t := 105) (code := code) (a := a) (s := s) h1 hn
  exact ⟨congrArg (fun z => (cI z : V)) e1, congrArg (fun z => H.set id z) e2⟩
/-- A number, picked. -/
theorem c51 {H H' : List Ob} {id : Nat} (code : List Int) (n a s : Int) (ho : H[id]? = some (srcO code a s)) (hc : ∀ b ∈ code, 0 ≤ b ∧ b ≤ 255) (hl : code.length ≤ 2 ^ 40) (h0 : 0 ≤ a) (ha : a ≤ 2 ^ 40) (hn : n ≤ 200) (hH : H.set id (srcO code (pkA n a) (pkS code n a s)) = H') : DetC X 51 [.c (.pt id 0), cI n] H (cI (pkR code n a s)) H' := by
  subst hH
  have h := c51a (H := H) (id := id) code n a s (List.getElem?_eq_some_iff.1 ho).1 hc hl h0 ha hn
  rw [set_same ho] at h
  exact h
section
variable {all r : List Oper} {K : Sl → List Ob → Prop} {sl : Sl} {H : List Ob} {d : Tmp} {ty : TypeId} {ps : String} {af : Array Edge}
theorem v_pick {f : Operand} {args : Array Operand} {tys : Array TypeId} {id : Nat} {code : List Int} {n a s : Int} (H1 : Int → Int → List Ob) (ho : H[id]? = some (srcO code a s)) (hc : ∀ b ∈ code, 0 ≤ b ∧ b ≤ 255) (hl : code.length ≤ 2 ^ 40) (h0 : 0 ≤ a ∧ a ≤ 2 ^ 40) (hn : n ≤ 200) (hf : rho X.G sl f = .c (.fn 51 [])) (has : args.toList.map (rho X.G sl) = [.c (.pt id 0), cI n]) (hH : ∀ a' s', H.set id (srcO code a' s') = H1 a' s')
    (h : ∀ q a' s', 0 ≤ q ∧ (1 < n → q < n) ∧ (n ≤ 1 → q = 0) → a ≤ a' ∧ a' ≤ a + 2 → vops X all r K (upd sl d (cI q)) (H1 a' s')) : vops X all (⟨some d, .call ⟨.value f, args, tys⟩, ty, ps, af, none⟩ :: r) K sl H := by
  have hp := pk_rng (code := code) (n := n) (a := a) (s := s) hc
  exact v_det (c51 code n a s ho hc hl h0.1 h0.2 hn (hH _ _)) hf has (h _ _ _ ⟨hp.1, hp.2.1, hp.2.2.1⟩ hp.2.2.2)
end
end Go.VL
namespace Go.VL
open Go.RowKit
set_option maxRecDepth 20000
set_option maxHeartbeats 8000000
/-- Eight truths, drawn. -/
def phN (code : List Int) (a s : Int) : Nat → Ph × Int × Int
  | 0 => (zg, a, s)
  | i + 1 => (putG (phN code a s i).1 i (decide (pkR code 3 (phN code a s i).2.1 (phN code a s i).2.2 = 0)), pkA 3 (phN code a s i).2.1, pkS code 3 (phN code a s i).2.1 (phN code a s i).2.2)
theorem phN_t {code : List Int} {a s : Int} {i : Nat} (h : pkR code 3 (phN code a s i).2.1 (phN code a s i).2.2 = 0) : putG (phN code a s i).1 i true = (phN code a s (i + 1)).1 := by
  simp only [phN, h, decide_true]
theorem phN_f {code : List Int} {a s : Int} {i : Nat} (h : ¬ pkR code 3 (phN code a s i).2.1 (phN code a s i).2.2 = 0) : putG (phN code a s i).1 i false = (phN code a s (i + 1)).1 := by
  simp only [phN, h, decide_false]
theorem phN_rng {code : List Int} {a s : Int} (hc : ∀ b ∈ code, 0 ≤ b ∧ b ≤ 255) : ∀ i : Nat, a ≤ (phN code a s i).2.1 ∧ (phN code a s i).2.1 ≤ a + 2 * i
  | 0 => by simp [phN]
  | i + 1 => by
    have h := phN_rng (a := a) (s := s) hc i
    have h2 := pk_rng (code := code) (n := 3) (a := (phN code a s i).2.1) (s := (phN code a s i).2.2) hc
    simp only [phN]
    push_cast
    omega
theorem c33y (xs : List Slo) (b f : Int) (hs : ticksOk xs) (hb : 0 ≤ b ∧ b ≤ 240) (hc : cyc xs b ≤ 240) (hx : xs.length ≤ 2 ^ 40) : PureC X 33 [.c (.vw false (pln true xs b f) 0)] (cI (cyc xs b)) := by
  have e : cyS xs b 0 = cyc xs b := by rw [cyS_ok hs hb (by omega)]; omega
  rw [← e]
  exact c33 xs b f hx
theorem tk6 {xs : List Slo} (h : ∀ x ∈ xs, 1 ≤ x.2 ∧ x.2 ≤ 6) : ticksOk xs := fun x hx => by have := h x hx; omega
theorem cyc6 {b : Int} (hb : 0 ≤ b ∧ b ≤ 2) : ∀ {xs : List Slo}, (∀ x ∈ xs, 1 ≤ x.2 ∧ x.2 ≤ 6) → (xs.length : Int) ≤ cyc xs b ∧ cyc xs b ≤ 8 * xs.length
  | [], _ => by simp [cyc]
  | s :: r, h => by
    have h1 := h s (by simp)
    have h2 := cyc6 hb (xs := r) fun x hx => h x (by simp [hx])
    simp only [cyc, List.length_cons]
    push_cast
    omega
theorem set0_facts {xs ys : List Slo} {b : Int} {m : Nat} (h0 : 0 < xs.length) (hm : m < 8) (hs : ∀ x ∈ xs, 1 ≤ x.2 ∧ x.2 ≤ 6) (h : xs.set 0 (putG (xs[0]).1 m true, (xs[0]).2) = ys) : xs.length = ys.length ∧ (∀ x ∈ ys, 1 ≤ x.2 ∧ x.2 ≤ 6) ∧ gr ys b m 0 = true := by
  match xs, h0 with
  | s :: r, _ =>
    simp only [List.getElem_cons_zero, List.set_cons_zero] at h
    subst h
    have h1 := hs s (by simp)
    refine ⟨by simp, fun x hx => ?_, ?_⟩
    · rcases List.mem_cons.1 hx with rfl | hx
      · exact h1
      · exact hs x (by simp [hx])
    · rw [← gr_eq hm]
      unfold atR
      rw [if_pos (by simp only []; omega)]
      simp [putG]
/-- What is drawn: plans that are one plan but for their offsets. -/
structure okR (ps : List Pln) (ts : List Int) (m n : Nat) : Prop extends okW ps ts m n where
  same : ∃ (ys : List Slo) (b : Int), (∀ p ∈ ps, p.1 = ys ∧ p.2.1 = b) ∧ gr ys b m 0 = true
theorem okR_of {ys : List Slo} {b : Int} {os ts : List Int} {m n : Nat} (h1 : 1 ≤ ys.length) (h4 : ys.length ≤ 4) (hb : 0 ≤ b ∧ b ≤ 2) (hs : ∀ x ∈ ys, 1 ≤ x.2 ∧ x.2 ≤ 6) (hn : cyc ys b = n) (hm : m < 8) (hg : gr ys b m 0 = true) (ho : 1 ≤ os.length) (ho4 : os.length ≤ 4) (hos : ∀ o ∈ os, 0 ≤ o ∧ o < n) (htl : ts.length + 1 = os.length) (hts : ∀ t ∈ ts, 0 ≤ t ∧ t ≤ 39) :
    okR (os.map fun o => ((ys, b, o) : Pln)) ts m n := by
  have hc := cyc6 hb hs
  exact {
    ne := by simpa using ho
    le := by simp only [List.length_map]; omega
    tl := by simpa using htl
    tr := fun t ht => by have := hts t ht; omega
    mm := hm
    ok := fun p hp => by
      obtain ⟨o, ho, rfl⟩ := List.mem_map.1 hp
      have := hos o ho
      exact ⟨⟨⟨by simp only []; omega, by simp only []; omega⟩, tk6 hs, by simp only []; omega⟩, by simp only []; omega, by simp only []; omega⟩
    cy := fun p hp => by
      obtain ⟨o, ho, rfl⟩ := List.mem_map.1 hp
      exact hn
    gn := fun p hp => by
      obtain ⟨o, ho, rfl⟩ := List.mem_map.1 hp
      exact ⟨0, by omega, hg⟩
    same := ⟨ys, b, fun p hp => by
      obtain ⟨o, ho, rfl⟩ := List.mem_map.1 hp
      exact ⟨rfl, rfl⟩, hg⟩ }
theorem c73 (code : List Int) (a s b : Int) (xs : List Slo) (hc : ∀ b ∈ code, 0 ≤ b ∧ b ≤ 255) (hl : code.length ≤ 2 ^ 40) (h0 : 0 ≤ a) (ha : a ≤ 2 ^ 30) : DetC X 73 [.c (.pt 0 0)] [srcO code a s, ⟨[.v (.slice none 0 0), .v (.int .i64 0), .v (.int .i64 0)], 28, true⟩, ⟨[.mu 3 0 xs.length 9, .v (.int .i64 (b)), .v (.int .i64 (0))], 28, true⟩, ⟨flat stc xs, 82, true⟩] (.agg (phc (phN code a s 8).1)) [srcO code (phN code a s 8).2.1 (phN code a s 8).2.2, ⟨[.v (.slice none 0 0), .v (.int .i64 0), .v (.int .i64 0)], 28, true⟩, ⟨[.mu 3 0 xs.length 9, .v (.int .i64 (b)), .v (.int .i64 (0))], 28, true⟩, ⟨flat stc xs, 82, true⟩] := by
  refine GraphC.of_body (drawD_ok X) (fun _ _ => Go.Proofs.Try.call73 _ _) Go.Proofs.Try.func73 rfl (n := 15) rfl rfl ?_
  refine w_seq ?_
  refine w_reg rfl ?_
  refine v_alloc (m := 4) (H' := [_, _, _, _, ⟨[.v _, .v _, .v _, .v _, .v _, .v _, .v _, .v _], 80, true⟩]) lay80 rfl rfl ?_
  refine v_nil ?_
  refine q_n ?_
  refine w_seq ?_
  refine w_reg rfl ?_
  refine v_build_a [.v _, .v _, .v _, .v _, .v _, .v _, .v _, .v _] lay80 lay4 rfl ?_
  refine v_alloc (m := 5) (H' := [_, _, _, _, _, ⟨[.v _, .v _, .v _, .v _, .v _, .v _, .v _, .v _], 80, true⟩]) lay80 rfl rfl ?_
  refine v_store (H' := [_, _, _, _, _, ⟨[_, _, _, _, _, _, _, _], 80, true⟩]) lay80 rfl rfl rfl rfl rfl rfl ?_
  refine v_nil ?_
  refine q_n ?_
  refine w_seq ?_
  refine w_seq ?_
  refine w_reg rfl ?_
  refine v_assign (c := .v (.int .i64 0)) rfl ?_
  refine v_nil ?_
  refine q_n ?_
  refine w_block ?_
  refine w_loop (fun k sl H => ∃ i : Nat, k = 8 - i ∧ i ≤ 8 ∧ sl = sls [(0, .c (.pt 0 0)), (2, .c (.pt 4 0)), (3, .c (.pt 5 0)), (4, cI i)] ∧ H = [srcO code (phN code a s i).2.1 (phN code a s i).2.2, ⟨[.v (.slice none 0 0), .v (.int .i64 0), .v (.int .i64 0)], 28, true⟩, ⟨[.mu 3 0 xs.length 9, .v (.int .i64 (b)), .v (.int .i64 (0))], 28, true⟩, ⟨flat stc xs, 82, true⟩, ⟨phc zg, 80, true⟩, ⟨flat bo (pl (phN code a s i).1), 80, true⟩]) ?_ ?_
  · refine ⟨_, _, _, ?_, 0, rfl, Nat.zero_le _, rfl, rfl⟩
    exact turn [some 0, some 1, some 2, some 3, some 4, some 5] rfl rfl rfl ⟨⟨_, rfl, .cons tr_sl (.cons tr_v (.cons tr_v .nil))⟩, ⟨_, rfl, .cons tr_v (.cons tr_v (.cons tr_v .nil))⟩, ⟨_, rfl, .cons (tr_mu rfl) (.cons tr_v (.cons tr_v .nil))⟩, ⟨_, rfl, trc_flat stc_sc rfl⟩, ⟨_, rfl, (.cons tr_v (.cons tr_v (.cons tr_v (.cons tr_v (.cons tr_v (.cons tr_v (.cons tr_v (.cons tr_v .nil))))))))⟩, ⟨_, rfl, trc_flat bo_sc rfl⟩, trivial⟩ ⟨tr_pt rfl, tr_pt rfl, tr_pt rfl, tr_v, trivial⟩
  rintro k sl H ⟨i, rfl, hi, rfl, rfl⟩
  have hr := phN_rng (a := a) (s := s) hc i
  refine w_seq ?_
  refine w_seq ?_
  refine w_reg rfl ?_
  refine v_move rfl ?_
  refine v_lss lay3 rfl rfl (fun h1 => ?_) (fun h1 => ?_)
  rotate_left
  · refine v_nil ?_
    refine q_n ?_
    refine w_f rfl ?_
    refine w_exit ?_
    refine q_e ?_
    refine q_e ?_
    refine q_hit ?_
    refine q_n ?_
    refine w_seq ?_
    refine w_reg rfl ?_
    refine v_load_pt (.agg [_, _, _, _, _, _, _, _]) lay80 rfl rfl rfl rfl ?_
    refine v_store (H' := [_, _, _, _, ⟨[_, _, _, _, _, _, _, _], 80, true⟩, _]) lay80 rfl rfl rfl rfl rfl rfl ?_
    refine v_nil ?_
    refine q_n ?_
    refine w_ret ?_
    refine r_r rfl ?_
    obtain rfl : i = 8 := by omega
    exact g_ans (H1 := [srcO code (phN code a s 8).2.1 (phN code a s 8).2.2, ⟨[.v (.slice none 0 0), .v (.int .i64 0), .v (.int .i64 0)], 28, true⟩, ⟨[.mu 3 0 xs.length 9, .v (.int .i64 (b)), .v (.int .i64 (0))], 28, true⟩, ⟨flat stc xs, 82, true⟩]) [some 0, some 1, some 2, some 3] rfl rfl rfl ⟨(fun _ => ⟨_, rfl, .cons tr_sl (.cons tr_v (.cons tr_v .nil))⟩), (fun _ => ⟨_, rfl, .cons tr_v (.cons tr_v (.cons tr_v .nil))⟩), (fun _ => ⟨_, rfl, .cons (tr_mu rfl) (.cons tr_v (.cons tr_v .nil))⟩), (fun _ => ⟨_, rfl, trc_flat stc_sc rfl⟩), trivial⟩ (tr_agg (.cons tr_v (.cons tr_v (.cons tr_v (.cons tr_v (.cons tr_v (.cons tr_v (.cons tr_v (.cons tr_v .nil))))))))) ⟨rfl, rfl⟩
  have hi1 : i < 8 := by omega
  refine v_nil ?_
  refine q_n ?_
  refine w_t rfl ?_
  refine w_skip ?_
  refine q_n ?_
  refine w_seq ?_
  refine w_block ?_
  refine w_reg rfl ?_
  refine v_move rfl ?_
  refine v_move rfl ?_
  refine v_inl (n := 9) (drawD_ok X) (fun _ _ => Go.Proofs.Try.call83 _ _) Go.Proofs.Try.func83 rfl rfl rfl rfl ?_
  refine w_seq ?_
  refine w_reg rfl ?_
  refine v_assign (c := .v (.bool false)) rfl ?_
  refine v_nil ?_
  refine q_n ?_
  refine w_seq ?_
  refine w_reg rfl ?_
  refine v_move rfl ?_
  refine v_move rfl ?_
  refine v_det (H' := [srcO code (pkA 3 ((phN code a s i).2.1)) (pkS code 3 ((phN code a s i).2.1) ((phN code a s i).2.2)), _, _, _, _, _]) (c51 code 3 ((phN code a s i).2.1) ((phN code a s i).2.2) rfl hc hl (by omega) (by omega) (by omega) rfl) rfl rfl ?_
  refine v_eql lay2 rfl rfl (fun h2 => ?_) (fun h2 => ?_)
  · have hpk := h2
    refine v_assign rfl ?_
    refine v_nil ?_
    refine q_n ?_
    refine w_ret ?_
    refine r_r rfl ?_
    refine v_idx_arr_e (k := 1) (i) lay80 lay4 rfl rfl rfl (rfl) (hi1) ?_
    refine v_store_flat (H' := [_, _, _, _, _, _]) i 0 (true) bo_len lay4 rfl rfl rfl (by omega) (by rw [pl_len]; exact hi1) rfl rfl (rfl) rfl ?_
    refine v_nil ?_
    refine q_bn ?_
    refine q_n ?_
    refine w_reg rfl ?_
    refine v_move rfl ?_
    refine v_add lay3 rfl rfl (i64r (by omega)) ?_
    refine v_assign rfl ?_
    refine v_nil ?_
    refine q_n ?_
    refine ⟨_, _, _, ?_, ⟨i + 1, rfl, by omega, rfl, rfl⟩, by omega⟩
    exact turn [some 0, some 1, some 2, some 3, some 4, some 5] rfl rfl rfl ⟨⟨_, rfl, .cons tr_sl (.cons tr_v (.cons tr_v .nil))⟩, ⟨_, rfl, .cons tr_v (.cons tr_v (.cons tr_v .nil))⟩, ⟨_, rfl, .cons (tr_mu rfl) (.cons tr_v (.cons tr_v .nil))⟩, ⟨_, rfl, trc_flat stc_sc rfl⟩, ⟨_, rfl, (.cons tr_v (.cons tr_v (.cons tr_v (.cons tr_v (.cons tr_v (.cons tr_v (.cons tr_v (.cons tr_v .nil))))))))⟩, ⟨_, rfl, trc_flat bo_sc (congrArg (flat bo) ((pl_set _ hi1 _).trans (congrArg pl (phN_t hpk))))⟩, trivial⟩ ⟨tr_pt rfl, tr_pt rfl, tr_pt rfl, tr_v, trivial⟩
  have hpk := h2
  refine v_assign rfl ?_
  refine v_nil ?_
  refine q_n ?_
  refine w_ret ?_
  refine r_r rfl ?_
  refine v_idx_arr_e (k := 1) (i) lay80 lay4 rfl rfl rfl (rfl) (hi1) ?_
  refine v_store_flat (H' := [_, _, _, _, _, _]) i 0 (false) bo_len lay4 rfl rfl rfl (by omega) (by rw [pl_len]; exact hi1) rfl rfl (rfl) rfl ?_
  refine v_nil ?_
  refine q_bn ?_
  refine q_n ?_
  refine w_reg rfl ?_
  refine v_move rfl ?_
  refine v_add lay3 rfl rfl (i64r (by omega)) ?_
  refine v_assign rfl ?_
  refine v_nil ?_
  refine q_n ?_
  refine ⟨_, _, _, ?_, ⟨i + 1, rfl, by omega, rfl, rfl⟩, by omega⟩
  exact turn [some 0, some 1, some 2, some 3, some 4, some 5] rfl rfl rfl ⟨⟨_, rfl, .cons tr_sl (.cons tr_v (.cons tr_v .nil))⟩, ⟨_, rfl, .cons tr_v (.cons tr_v (.cons tr_v .nil))⟩, ⟨_, rfl, .cons (tr_mu rfl) (.cons tr_v (.cons tr_v .nil))⟩, ⟨_, rfl, trc_flat stc_sc rfl⟩, ⟨_, rfl, (.cons tr_v (.cons tr_v (.cons tr_v (.cons tr_v (.cons tr_v (.cons tr_v (.cons tr_v (.cons tr_v .nil))))))))⟩, ⟨_, rfl, trc_flat bo_sc (congrArg (flat bo) ((pl_set _ hi1 _).trans (congrArg pl (phN_f hpk))))⟩, trivial⟩ ⟨tr_pt rfl, tr_pt rfl, tr_pt rfl, tr_v, trivial⟩
end Go.VL
namespace Go.VL
open Go.RowKit
set_option maxRecDepth 20000
set_option maxHeartbeats 8000000
theorem c33w (xs : List Slo) (b f : Int) (hs : ticksOk xs) (hb : 0 ≤ b ∧ b ≤ 240) (hc : cyc xs b ≤ 240) (hx : xs.length ≤ 2 ^ 40) {n : Nat} (hn : cyc xs b = n) : PureC X 33 [.c (.vw false (pln true xs b f) 0)] (cI n) := by
  rw [← hn]
  exact c33y xs b f hs hb hc hx
theorem c24 (code : List Int) (hc : ∀ b ∈ code, 0 ≤ b ∧ b ≤ 255) (hl : code.length ≤ 2 ^ 40) : PureE X 24 [.c (.sl false code.length 1 (flat byt code))] (fun r => ∃ (ps : List Pln) (ts : List Int) (m n : Nat), okR ps ts m n ∧ r = .tup [.c (pls true ps), .c (ints true ts), cI m]) := by
  refine PureE.of_body (drawD_ok X) (fun _ _ => Go.Proofs.Try.call24 _ _) Go.Proofs.Try.func24 rfl (n := 51) rfl ?_
  refine w_seq ?_
  refine w_reg rfl ?_
  refine v_assign rfl ?_
  refine v_assign rfl ?_
  refine v_assign (c := .v (.int .i64 0)) rfl ?_
  refine v_nil ?_
  refine q_n ?_
  refine w_seq ?_
  refine w_reg rfl ?_
  refine v_move rfl ?_
  refine v_inl (n := 6) (drawD_ok X) (fun _ _ => Go.Proofs.Try.call49 _ _) Go.Proofs.Try.func49 rfl rfl rfl rfl ?_
  refine w_seq ?_
  refine w_reg rfl ?_
  refine v_assign (c := .v _) rfl ?_
  refine v_nil ?_
  refine q_n ?_
  refine w_seq ?_
  refine w_reg rfl ?_
  refine v_move rfl ?_
  refine v_build [(0, 1), (1, 1), (2, 1)] [_, .v _, .v _] lay105 rfl rfl ?_
  refine v_box (m := 0) (H' := [_]) lay105 rfl rfl rfl ?_
  refine v_assign rfl ?_
  refine v_nil ?_
  refine q_n ?_
  refine w_ret ?_
  refine r_r rfl ?_
  refine v_assign rfl ?_
  refine v_nil ?_
  refine q_n ?_
  refine w_seq ?_
  refine w_reg rfl ?_
  refine v_move rfl ?_
  refine v_inl (n := 31) (drawD_ok X) (fun _ _ => Go.Proofs.Try.call50 _ _) Go.Proofs.Try.func50 rfl rfl rfl rfl ?_
  refine w_seq ?_
  refine w_reg rfl ?_
  refine v_alloc (m := 1) (H' := [_, ⟨[.v _, .v _, .v _], 28, true⟩]) lay28 rfl rfl ?_
  refine v_nil ?_
  refine q_n ?_
  refine w_seq ?_
  refine w_reg rfl ?_
  refine v_move rfl ?_
  refine v_pick (fun a' s' => [srcO _ a' s', _]) rfl hc (by omega) ⟨by omega, by omega⟩ (by omega) rfl rfl (fun a' s' => rfl) ?_
  intro q1 a1 s1 hq1 ha1
  refine v_build [(0, 1), (1, 1), (2, 1)] [.v _, .v _, .v _] lay28 rfl rfl ?_
  refine v_alloc (m := 2) (H' := [_, _, ⟨[.v _, .v _, .v _], 28, true⟩]) lay28 rfl rfl ?_
  refine v_store (H' := [_, _, ⟨[_, _, _], 28, true⟩]) lay28 rfl rfl rfl rfl rfl rfl ?_
  refine v_nil ?_
  refine q_n ?_
  refine w_seq ?_
  refine w_seq ?_
  refine w_reg rfl ?_
  refine v_move rfl ?_
  refine v_pick (fun a' s' => [srcO _ a' s', _, _]) rfl hc (by omega) ⟨by omega, by omega⟩ (by omega) rfl rfl (fun a' s' => rfl) ?_
  intro q2 a2 s2 hq2 ha2
  refine v_add lay2 rfl rfl (i64r (by omega)) ?_
  refine v_assign rfl ?_
  refine v_nil ?_
  refine q_n ?_
  refine w_block ?_
  refine w_loop (fun k sl H => ∃ (j : Nat) (xs : List Slo) (a s : Int), k = j ∧ xs.length + j ≤ 4 ∧ 1 ≤ xs.length + j ∧ (∀ x ∈ xs, 1 ≤ x.2 ∧ x.2 ≤ 6) ∧ (0 ≤ a ∧ a ≤ 4 + 18 * xs.length) ∧ sl = sls [(0, .c (.pt 0 0)), (2, .c (.pt 1 0)), (3, .c (.pt 2 0)), (4, cI j)] ∧ H = [srcO code a s, ⟨[.v (.slice none 0 0), .v (.int .i64 0), .v (.int .i64 0)], 28, true⟩, ⟨[.mu 3 0 xs.length 9, .v (.int .i64 (q1)), .v (.int .i64 (0))], 28, true⟩, ⟨flat stc xs, 82, true⟩]) ?_ ?_
  · obtain ⟨j0, hj0⟩ : ∃ j : Nat, 1 + q2 = j := Int.eq_ofNat_of_zero_le (by omega)
    refine ⟨_, _, _, ?_, j0, [], a2, s2, rfl, by simp; omega, by simp; omega, (fun x hx => by cases hx), ⟨by omega, by simp; omega⟩, rfl, rfl⟩
    exact turn [some 0, some 1, some 2, none] rfl rfl rfl ⟨⟨_, rfl, .cons tr_sl (.cons tr_v (.cons tr_v .nil))⟩, ⟨_, rfl, .cons tr_v (.cons tr_v (.cons tr_v .nil))⟩, ⟨_, rfl, .cons (tr_nil rfl) (.cons tr_v (.cons tr_v .nil))⟩, rfl, trivial⟩ ⟨tr_pt rfl, tr_pt rfl, tr_pt rfl, tr_i hj0, trivial⟩
  rintro k sl H ⟨j, xs, a, s, hkj, hl1, hl2, hs, h0, rfl, rfl⟩
  have hcy := cyc6 (b := q1) (by omega) hs
  refine w_seq ?_
  refine w_seq ?_
  refine w_reg rfl ?_
  refine v_move rfl ?_
  refine v_gtr lay2 rfl rfl (fun h1 => ?_) (fun h1 => ?_)
  · refine v_nil ?_
    refine q_n ?_
    refine w_t rfl ?_
    refine w_skip ?_
    refine q_n ?_
    refine w_seq ?_
    refine w_block ?_
    refine w_draw [0, 1, 0, 4, 0, 28, 60, 124, 252, 511, 1023, 2047] [⟨0, 0, []⟩, ⟨1, 0, []⟩, ⟨2, 0, []⟩, ⟨4, 0, []⟩, ⟨3, 1, [1]⟩, ⟨5, 1, [1]⟩, ⟨6, 0, []⟩, ⟨7, 0, []⟩, ⟨8, 2, []⟩, ⟨9, 1, []⟩, ⟨10, 0, []⟩, ⟨11, 1, []⟩] rfl rfl ?_
    refine d_q rfl rfl rfl rfl rfl ?_
    refine v_fa_pt (off' := 0) lay28 rfl rfl rfl ?_
    refine v_nil ?_
    refine d_q rfl rfl rfl rfl rfl ?_
    refine v_load_pt (.c _) lay26 rfl rfl rfl rfl ?_
    refine v_nil ?_
    refine d_q rfl rfl rfl rfl rfl ?_
    refine v_move rfl ?_
    refine v_nil ?_
    refine d_q rfl rfl rfl rfl rfl ?_
    refine v_move rfl ?_
    refine v_nil ?_
    refine d_det (H' := [_, _, _, _]) (c73 code a s _ xs hc (by omega) (by omega) (by omega)) rfl rfl rfl rfl ⟨ag_load_pt (.c _) lay26 rfl rfl rfl rfl, trivial⟩ ?_
    have hph := phN_rng (a := a) (s := s) hc 8
    refine d_det (H' := [_, _, _, _]) (c51 code 6 (phN code a s 8).2.1 (phN code a s 8).2.2 rfl hc (by omega) (by omega) (by omega) (by omega) rfl) rfl rfl rfl rfl ⟨ag_load_pt (.c _) lay26 rfl rfl rfl rfl, trivial⟩ ?_
    have hpk := pk_rng (code := code) (n := 6) (a := (phN code a s 8).2.1) (s := (phN code a s 8).2.2) hc
    refine d_q rfl rfl rfl rfl rfl ?_
    refine v_add lay2 rfl rfl (i64r (by omega)) ?_
    refine v_nil ?_
    refine d_q rfl rfl rfl rfl rfl ?_
    refine v_build [(0, 8), (8, 1)] [.v _, .v _, .v _, .v _, .v _, .v _, .v _, .v _, .v _] lay82 rfl rfl ?_
    refine v_nil ?_
    refine d_z (.c (.sl true 1 9 (flat stc [((phN code a s 8).1, 1 + pkR code 6 (phN code a s 8).2.1 (phN code a s 8).2.2)]))) rfl rfl rfl ?_
    refine d_e rfl rfl rfl ?_
    refine v_app_flat_sl (H' := [_, _, _, _, _]) stc_sc stc_len lay26 lay82 rfl rfl (by simp) rfl rfl rfl (by unfold maxLen; simp only []; omega) rfl rfl ?_
    refine v_nil ⟨again_nil, ?_⟩
    refine d_q rfl rfl rfl rfl rfl ?_
    refine v_fa_pt (off' := 0) lay28 rfl rfl rfl ?_
    refine v_nil ?_
    refine d_e rfl rfl rfl ?_
    refine v_store (H' := [_, _, ⟨[_, _, _], 28, true⟩, _, _]) lay26 rfl rfl rfl rfl rfl rfl ?_
    refine v_nil ⟨again_nil, ?_⟩
    refine d_nil ?_
    refine q_bn ?_
    refine q_n ?_
    refine w_reg rfl ?_
    refine v_move rfl ?_
    refine v_sub lay2 rfl rfl (i64r (by omega)) ?_
    refine v_assign rfl ?_
    refine v_nil ?_
    refine q_n ?_
    refine ⟨_, _, _, ?_, ⟨j - 1, xs ++ [((phN code a s 8).1, 1 + pkR code 6 (phN code a s 8).2.1 (phN code a s 8).2.2)], pkA 6 (phN code a s 8).2.1, pkS code 6 (phN code a s 8).2.1 (phN code a s 8).2.2, rfl, by simp; omega, by simp; omega, fun x hx => ?_, ⟨?_, ?_⟩, rfl, rfl⟩, by omega⟩
    · exact turn [some 0, some 1, some 2, some 4] rfl rfl rfl ⟨⟨_, rfl, .cons tr_sl (.cons tr_v (.cons tr_v .nil))⟩, ⟨_, rfl, .cons tr_v (.cons tr_v (.cons tr_v .nil))⟩, ⟨_, rfl, .cons (tr_mun rfl (by simp)) (.cons tr_v (.cons tr_v .nil))⟩, ⟨_, rfl, trc_flat stc_sc rfl⟩, trivial⟩ ⟨tr_pt rfl, tr_pt rfl, tr_pt rfl, tr_i (by omega), trivial⟩
    · rcases List.mem_append.1 hx with hx | hx
      · exact hs x hx
      · simp only [List.mem_singleton] at hx
        subst hx
        simp only []
        omega
    · omega
    · simp; omega
  refine v_nil ?_
  refine q_n ?_
  refine w_f rfl ?_
  refine w_exit ?_
  refine q_e ?_
  refine q_e ?_
  refine q_hit ?_
  refine q_n ?_
  refine w_seq ?_
  refine w_reg rfl ?_
  refine v_move rfl ?_
  refine v_call (c33y _ _ _ (tk6 hs) (by omega) (by omega) (by omega)) rfl rfl rfl (.cons (vw_pt rfl (.cons (dn_flat stc_sc stc_len rfl trivial rfl) (.cons .v (.cons .v .nil)))) .nil) ?_
  refine v_pick (fun a' s' => [srcO _ a' s', _, _, _]) rfl hc (by omega) ⟨by omega, by omega⟩ (by omega) rfl rfl (fun a' s' => rfl) ?_
  intro q3 a3 s3 hq3 ha3
  refine v_fa_pt (off' := 2) lay28 rfl rfl rfl ?_
  refine v_store (H' := [_, _, ⟨[_, _, _], 28, true⟩, _]) lay2 rfl rfl rfl rfl rfl rfl ?_
  refine v_nil ?_
  refine q_n ?_
  refine w_seq ?_
  refine w_reg rfl ?_
  refine v_load_pt (.agg [_, _, _]) lay28 rfl rfl rfl rfl ?_
  refine v_store (H' := [_, ⟨[_, _, _], 28, true⟩, _, _]) lay28 rfl rfl rfl rfl rfl rfl ?_
  refine v_nil ?_
  refine q_n ?_
  refine w_ret ?_
  refine r_r rfl ?_
  refine v_alloc (m := 4) (H' := [_, _, _, _, ⟨[.v _, .v _, .v _], 28, true⟩]) lay28 rfl rfl ?_
  refine v_store (H' := [_, _, _, _, ⟨[_, _, _], 28, true⟩]) lay28 rfl rfl rfl rfl rfl rfl ?_
  refine v_nil ?_
  refine q_n ?_
  refine w_seq ?_
  refine w_reg rfl ?_
  refine v_move rfl ?_
  refine v_pick (fun a' s' => [srcO _ a' s', _, _, _, _]) rfl hc (by omega) ⟨by omega, by omega⟩ (by omega) rfl rfl (fun a' s' => rfl) ?_
  intro q4 a4 s4 hq4 ha4
  obtain ⟨m, rfl⟩ : ∃ m : Nat, q4 = m := Int.eq_ofNat_of_zero_le (by omega)
  have hm : m < 8 := by omega
  have hx0 : 0 < xs.length := by omega
  refine v_assign rfl ?_
  refine v_nil ?_
  refine q_n ?_
  refine w_seq ?_
  refine w_reg rfl ?_
  refine v_fa_pt (off' := 0) lay28 rfl rfl rfl ?_
  refine v_load_pt (.c _) lay26 rfl rfl rfl rfl ?_
  refine v_move rfl ?_
  refine v_idx_mu_e (k := 9) (off := 0) (0) lay26 lay82 rfl rfl rfl (rfl) (hx0) ?_
  refine v_fa_pt (off' := _) lay82 rfl rfl rfl ?_
  refine v_idx_arr_e (k := 1) (m) lay80 lay4 rfl rfl rfl (rfl) (hm) ?_
  refine v_store_flat_e (H' := [_, _, _, _, _]) (0) (0 + m * 1) ((putG (xs[0]).1 m true, (xs[0]).2)) stc_len lay4 rfl rfl rfl (by omega) (hx0) rfl (by show 0 + m * 1 + 1 ≤ 9; omega) (st_put (xs[0]) hm true) rfl ?_
  refine v_nil ?_
  refine q_n ?_
  refine w_seq ?_
  refine w_reg rfl ?_
  generalize hys : xs.set 0 (putG (xs[0]).1 m true, (xs[0]).2) = ys
  obtain ⟨hyl, hys2, hyg⟩ := set0_facts (b := q1) hx0 hm hs hys
  rw [hyl]
  have hcz := cyc6 (b := q1) (by omega) hys2
  obtain ⟨n, hn⟩ : ∃ n : Nat, cyc ys q1 = n := Int.eq_ofNat_of_zero_le (by omega)
  refine v_call (c33w ys q1 q3 (tk6 hys2) (by omega) (by omega) (by omega) hn) rfl rfl rfl (.cons (vw_pt rfl (.cons (dn_flat stc_sc stc_len rfl trivial rfl) (.cons .v (.cons .v .nil)))) .nil) ?_
  refine v_assign rfl ?_
  refine v_nil ?_
  refine q_n ?_
  refine w_seq ?_
  refine w_reg rfl ?_
  refine v_lit (flat plc []) (H' := [_, _, _, _, _, _]) lay38 lay28 rfl rfl ⟨by decide, by decide⟩ rfl rfl ?_
  refine v_assign rfl ?_
  refine v_nil ?_
  refine q_n ?_
  refine w_seq ?_
  refine w_reg rfl ?_
  refine v_lit (flat int []) (H' := [_, _, _, _, _, _, _]) lay36 lay2 rfl rfl ⟨by decide, by decide⟩ rfl rfl ?_
  refine v_assign rfl ?_
  refine v_nil ?_
  refine q_n ?_
  refine w_seq ?_
  refine w_seq ?_
  refine w_reg rfl ?_
  refine v_move rfl ?_
  refine v_pick (fun a' s' => [srcO _ a' s', _, _, _, _, _, _]) rfl hc (by omega) ⟨by omega, by omega⟩ (by omega) rfl rfl (fun a' s' => rfl) ?_
  intro q5 a5 s5 hq5 ha5
  refine v_add lay2 rfl rfl (i64r (by omega)) ?_
  refine v_assign rfl ?_
  refine v_nil ?_
  refine q_n ?_
  refine w_block ?_
  refine w_loop (fun k sl H => ∃ (k0 : Nat) (os ts : List Int) (a s : Int), k = k0 ∧ (os.length + k0 ≤ 4 ∧ 1 ≤ os.length + k0) ∧ (k0 = 0 → ts.length + 1 = os.length) ∧ (0 < k0 → ts.length = os.length) ∧ (∀ o ∈ os, 0 ≤ o ∧ o < n) ∧ (∀ t ∈ ts, 0 ≤ t ∧ t ≤ 39) ∧ (0 ≤ a ∧ a ≤ 100 + 4 * os.length) ∧ sl = sls [(5, .c (.pt 0 0)), (6, .c (.pt 2 0)), (7, cI m), (8, cI n), (9, .c (.mu 3 0 os.length 3)), (10, .c (.mu 4 0 ts.length 1)), (11, cI k0)] ∧ H = [srcO code a s, ⟨flat stc ys, 82, true⟩, ⟨[.mu 1 0 ys.length 9, .v (.int .i64 (q1)), .v (.int .i64 (q3))], 28, true⟩, ⟨flat plc (os.map fun o => ((ys, q1, o) : Pln)), 28, true⟩, ⟨flat int ts, 2, true⟩]) ?_ ?_
  · obtain ⟨k0, hk0⟩ : ∃ k : Nat, 1 + q5 = k := Int.eq_ofNat_of_zero_le (by omega)
    refine ⟨_, _, _, ?_, k0, [], [], a5, s5, rfl, ⟨by simp; omega, by simp; omega⟩, fun h => by omega, fun h => rfl, (fun x hx => by cases hx), (fun x hx => by cases hx), ⟨by omega, by simp; omega⟩, rfl, rfl⟩
    exact turn [some 0, some 3, some 4, some 5, some 6] rfl rfl rfl ⟨⟨_, rfl, .cons tr_sl (.cons tr_v (.cons tr_v .nil))⟩, ⟨_, rfl, trc_flat stc_sc rfl⟩, ⟨_, rfl, .cons (tr_mu rfl) (.cons tr_v (.cons tr_v .nil))⟩, ⟨_, rfl, trc_flatz plc_sc (xs := []) rfl⟩, ⟨_, rfl, trc_flat int_sc (xs := []) rfl⟩, trivial⟩ ⟨tr_pt rfl, tr_pt rfl, tr_v, tr_v, tr_mun rfl rfl, tr_mun rfl rfl, tr_i hk0, trivial⟩
  rintro k sl H ⟨k0, os, ts, a, s, hkj, hl3, hz, hnz, hos, hts, h0, rfl, rfl⟩
  refine w_seq ?_
  refine w_seq ?_
  refine w_reg rfl ?_
  refine v_move rfl ?_
  refine v_gtr lay2 rfl rfl (fun h3 => ?_) (fun h3 => ?_)
  rotate_left
  · refine v_nil ?_
    refine q_n ?_
    refine w_f rfl ?_
    refine w_exit ?_
    refine q_e ?_
    refine q_e ?_
    refine q_hit ?_
    refine q_n ?_
    refine w_seq ?_
    refine w_reg rfl ?_
    refine v_move rfl ?_
    refine v_move rfl ?_
    refine v_move rfl ?_
    refine v_assign rfl ?_
    refine v_assign rfl ?_
    refine v_assign rfl ?_
    refine v_nil ?_
    refine q_n ?_
    refine w_ret ?_
    refine r_r rfl ?_
    exact ⟨_, ⟨_, ts, m, n, okR_of (by omega) (by omega) (by omega) hys2 hn hm hyg (by omega) (by omega) hos (hz (by omega)) hts, rfl⟩, a_tup (.cons (a_flatz plc_sc plc_len rfl rfl (by simp) (by simp)) (.cons (a_flat2 int_sc int_len rfl rfl rfl rfl) (.cons tr_v .nil)))⟩
  refine v_nil ?_
  refine q_n ?_
  refine w_t rfl ?_
  refine w_skip ?_
  refine q_n ?_
  refine w_seq ?_
  refine w_block ?_
  refine w_seq ?_
  refine w_reg rfl ?_
  refine v_move rfl ?_
  refine v_move rfl ?_
  refine v_move rfl ?_
  refine v_pick (fun a' s' => [srcO _ a' s', _, _, _, _]) rfl hc (by omega) ⟨by omega, by omega⟩ (by omega) rfl rfl (fun a' s' => rfl) ?_
  intro q6 a6 s6 hq6 ha6
  refine v_call (c34 _ _ _ _ (by omega)) rfl rfl rfl (.cons (vw_pt rfl (.cons (dn_flat stc_sc stc_len rfl trivial rfl) (.cons .v (.cons .v .nil)))) (.cons vw_v .nil)) ?_
  refine v_lit (flat plc [(ys, q1, q6)]) (H' := [_, _, _, _, _, _]) lay38 lay28 rfl rfl ⟨by decide, by decide⟩ rfl rfl ?_
  refine v_app_flatz (H' := [_, _, _, _, _, _, _]) plc_sc plc_len lay38 lay28 rfl rfl (by simp) rfl rfl (by simp) rfl rfl (by unfold maxLen; simp only []; omega) rfl rfl ?_
  refine v_assign rfl ?_
  refine v_nil ?_
  refine q_n ?_
  refine w_seq ?_
  refine w_reg rfl ?_
  refine v_move rfl ?_
  refine v_gtr lay2 rfl rfl (fun h4 => ?_) (fun h4 => ?_)
  rotate_left
  · refine v_nil ?_
    refine q_n ?_
    refine w_f rfl ?_
    refine w_skip ?_
    refine q_bn ?_
    refine q_n ?_
    refine w_reg rfl ?_
    refine v_move rfl ?_
    refine v_sub lay2 rfl rfl (i64r (by omega)) ?_
    refine v_assign rfl ?_
    refine v_nil ?_
    refine q_n ?_
    refine ⟨_, _, _, ?_, ⟨k0 - 1, os ++ [q6], ts, a6, s6, rfl, ⟨by simp; omega, by simp; omega⟩, fun h => ?_, fun h => ?_, fun o ho => ?_, fun t ht => ?_, ⟨?_, ?_⟩, rfl, rfl⟩, by omega⟩
    · exact turn [some 0, some 1, some 2, some 6, some 4] rfl rfl rfl ⟨⟨_, rfl, .cons tr_sl (.cons tr_v (.cons tr_v .nil))⟩, ⟨_, rfl, trc_flat stc_sc rfl⟩, ⟨_, rfl, .cons (tr_mu rfl) (.cons tr_v (.cons tr_v .nil))⟩, ⟨_, rfl, trc_flatz plc_sc (by simp [flat])⟩, ⟨_, rfl, trc_flat int_sc rfl⟩, trivial⟩ ⟨tr_pt rfl, tr_pt rfl, tr_v, tr_v, tr_mun rfl (by simp), tr_mun rfl rfl, tr_i (by omega), trivial⟩
    · simp only [List.length_append, List.length_cons, List.length_nil]; omega
    · simp only [List.length_append, List.length_cons, List.length_nil]; omega
    · rcases List.mem_append.1 ho with ho | ho
      · exact hos o ho
      · simp only [List.mem_singleton] at ho
        subst ho
        omega
    · exact hts t ht
    · omega
    · simp; omega
  refine v_nil ?_
  refine q_n ?_
  refine w_t rfl ?_
  refine w_reg rfl ?_
  refine v_move rfl ?_
  refine v_move rfl ?_
  refine v_pick (fun a' s' => [srcO _ a' s', _, _, _, _, _, _]) rfl hc (by omega) ⟨by omega, by omega⟩ (by omega) rfl rfl (fun a' s' => rfl) ?_
  intro q7 a7 s7 hq7 ha7
  refine v_lit (flat int [_]) (H' := [_, _, _, _, _, _, _, _]) lay36 lay2 rfl rfl ⟨by decide, by decide⟩ rfl rfl ?_
  refine v_app_flat (H' := [_, _, _, _, _, _, _, _, _]) int_sc int_len lay36 lay2 rfl rfl (by simp) rfl rfl (by simp) rfl rfl (by unfold maxLen; simp only []; omega) rfl rfl ?_
  refine v_assign rfl ?_
  refine v_nil ?_
  refine q_bn ?_
  refine q_n ?_
  refine w_reg rfl ?_
  refine v_move rfl ?_
  refine v_sub lay2 rfl rfl (i64r (by omega)) ?_
  refine v_assign rfl ?_
  refine v_nil ?_
  refine q_n ?_
  refine ⟨_, _, _, ?_, ⟨k0 - 1, os ++ [q6], ts ++ [q7], a7, s7, rfl, ⟨by simp; omega, by simp; omega⟩, fun h => ?_, fun h => ?_, fun o ho => ?_, fun t ht => ?_, ⟨?_, ?_⟩, rfl, rfl⟩, by omega⟩
  · exact turn [some 0, some 1, some 2, some 6, some 8] rfl rfl rfl ⟨⟨_, rfl, .cons tr_sl (.cons tr_v (.cons tr_v .nil))⟩, ⟨_, rfl, trc_flat stc_sc rfl⟩, ⟨_, rfl, .cons (tr_mu rfl) (.cons tr_v (.cons tr_v .nil))⟩, ⟨_, rfl, trc_flatz plc_sc (by simp [flat])⟩, ⟨_, rfl, trc_flat int_sc rfl⟩, trivial⟩ ⟨tr_pt rfl, tr_pt rfl, tr_v, tr_v, tr_mun rfl (by simp), tr_mun rfl (by simp), tr_i (by omega), trivial⟩
  · simp only [List.length_append, List.length_cons, List.length_nil]; omega
  · simp only [List.length_append, List.length_cons, List.length_nil]; omega
  · rcases List.mem_append.1 ho with ho | ho
    · exact hos o ho
    · simp only [List.mem_singleton] at ho
      subst ho
      omega
  · rcases List.mem_append.1 ht with ht | ht
    · exact hts t ht
    · simp only [List.mem_singleton] at ht
      subst ht
      omega
  · omega
  · simp; omega
end Go.VL
namespace Go.VL
open Go.RowKit
set_option maxRecDepth 20000
set_option maxHeartbeats 8000000
def wvL (ps : List Pln) (ts : List Int) (m n : Nat) : List Pln := (List.range ps.length).map (wvp ps ts m n)
theorem wvL_len {ps : List Pln} {ts : List Int} {m n : Nat} : (wvL ps ts m n).length = ps.length := by simp [wvL]
theorem wvL_at {ps : List Pln} {ts : List Int} {m n i : Nat} (h : i < (wvL ps ts m n).length) : (wvL ps ts m n)[i] = wvp ps ts m n i := mk_at h
theorem okR.at {ps : List Pln} {ts : List Int} {m n : Nat} (h : okR ps ts m n) : ∃ (ys : List Slo) (b : Int), gr ys b m 0 = true ∧ (∀ i, i < ps.length → (pa ps i).1 = ys ∧ (pa ps i).2.1 = b ∧ okP ys b (pa ps i).2.2) ∧ cyc ys b = n ∧ grn ys b m n ∧ 1 ≤ n := by
  obtain ⟨ys, b, hs, hg⟩ := h.same
  have h0 : 0 < ps.length := by have := h.ne; omega
  have hi : ∀ i, i < ps.length → (pa ps i).1 = ys ∧ (pa ps i).2.1 = b ∧ okP ys b (pa ps i).2.2 := fun i hi => by
    rw [pa_at hi]
    obtain ⟨e1, e2⟩ := hs _ (List.getElem_mem hi)
    have := h.ok _ (List.getElem_mem hi)
    rw [e1, e2] at this
    exact ⟨e1, e2, this⟩
  have hc := h.cy _ (List.getElem_mem h0)
  have hgn := h.gn _ (List.getElem_mem h0)
  obtain ⟨e1, e2⟩ := hs _ (List.getElem_mem h0)
  rw [e1, e2] at hc hgn
  exact ⟨ys, b, hg, hi, hc, hgn, by obtain ⟨k, hk, -⟩ := hgn; omega⟩
theorem bgn_same {p q : Pln} {m n : Nat} (h1 : p.1 = q.1) (h2 : p.2.1 = q.2.1) : bgn p m n = bgn q m n := by
  unfold bgn
  rw [gr0_eq, gr0_eq, h1, h2]
theorem okW_due {ps : List Pln} {ts : List Int} {m n : Nat} (h : okR ps ts m n) : okW (wvL ps ts m n) ts m n := by
  obtain ⟨ys, b, hg, hi, hc, hgn, hn⟩ := h.at
  have hm : ∀ p ∈ wvL ps ts m n, p.1 = ys ∧ p.2.1 = b ∧ (0 ≤ p.2.2 ∧ p.2.2 < n) := fun p hp => by
    obtain ⟨i, hi2, rfl⟩ := List.mem_map.1 hp
    have hi3 := hi i (List.mem_range.1 hi2)
    exact ⟨hi3.1, hi3.2.1, wof_rng (by omega)⟩
  have h0 := (hi 0 (by have := h.ne; omega)).2.2
  exact {
    ne := by rw [wvL_len]; exact h.ne
    le := by rw [wvL_len]; exact h.le
    tl := by rw [wvL_len]; exact h.tl
    tr := h.tr
    mm := h.mm
    ok := fun p hp => by
      obtain ⟨e1, e2, e3, e4⟩ := hm p hp
      rw [e1, e2]
      exact ⟨h0.1, h0.2.1, by omega, by omega⟩
    cy := fun p hp => by
      obtain ⟨e1, e2, -⟩ := hm p hp
      rw [e1, e2]
      exact hc
    gn := fun p hp => by
      obtain ⟨e1, e2, -⟩ := hm p hp
      rw [e1, e2]
      exact hgn }
theorem mtb_all {ps : List Pln} {ts : List Int} {m n t : Nat} {G : Bool} (h : ∀ j, j < ps.length → gr (pa ps j).1 (pa ps j).2.1 m (((t : Int) + sumT ts j - (pa ps j).2.2) % n) = G) : ∀ {j : Nat}, j + 1 ≤ ps.length → mtb ps ts m n t (j + 1) = G
  | 0, hj => by simp only [mtb, h 0 (by omega), Bool.true_and]
  | j + 1, hj => by
    rw [mtb, mtb_all h (by omega), h (j + 1) (by omega), Bool.and_self]
theorem cnb_ext {F G : Nat → Bool} {i : Nat} (h : ∀ k, k < i → F k = G k) : cnb F i = cnb G i := by
  have h1 := cnb_mono (F := F) (G := G) (i := i) fun k hk e => by rw [← h k hk]; exact e
  have h2 := cnb_mono (F := G) (G := F) (i := i) fun k hk e => by rw [h k hk]; exact e
  omega
theorem wid_due {ps : List Pln} {ts : List Int} {m n : Nat} (h : okR ps ts m n) (h0 : 0 < ps.length) : wid (wvL ps ts m n) ts m n n = cgr ps[0].1 ps[0].2.1 ps[0].2.2 m n n := by
  obtain ⟨ys, b, hg, hi, hc, hgn, hn⟩ := h.at
  refine cnb_ext fun t ht => ?_
  have hl : (wvL ps ts m n).length = (ps.length - 1) + 1 := by rw [wvL_len]; omega
  rw [hl]
  refine mtb_all (fun j hj => ?_) (by omega)
  have hj' : j < ps.length := by rw [wvL_len] at hj; exact hj
  rw [pa_at hj, wvL_at hj]
  obtain ⟨e1, e2, -⟩ := hi j hj'
  obtain ⟨f1, f2, -⟩ := hi 0 h0
  have hb := bgn_same (m := m) (n := n) (e1.trans f1.symm) (e2.trans f2.symm)
  rw [← pa_at h0]
  simp only [wvp, wof]
  rw [e1, e2, f1, f2, hb, em_sub]
  congr 2
  omega
theorem wid_le {ps : List Pln} {ts : List Int} {m n : Nat} (h0 : 0 < ps.length) : wid ps ts m n n ≤ cgr ps[0].1 ps[0].2.1 ps[0].2.2 m n n := by
  refine cnb_mono fun t ht e => ?_
  have e1 := mtb_mono (i := 1) (by omega) e
  simp only [mtb, Bool.true_and] at e1
  rw [pa_at h0, sumT_0] at e1
  rw [← e1]
  congr 2
  omega
theorem wid_one {ps : List Pln} {ts : List Int} {m n : Nat} (h0 : 0 < ps.length) (h1 : ps.length = 1) : wid ps ts m n n = cgr ps[0].1 ps[0].2.1 ps[0].2.2 m n n := by
  refine cnb_ext fun t ht => ?_
  rw [h1]
  simp only [mtb, Bool.true_and]
  rw [pa_at h0, sumT_0]
  congr 2
  omega
theorem cgr_pos {ps : List Pln} {ts : List Int} {m n : Nat} (h : okR ps ts m n) (h0 : 0 < ps.length) : 1 ≤ cgr ps[0].1 ps[0].2.1 ps[0].2.2 m n n := by
  obtain ⟨ys, b, hg, hi, hc, hgn, hn⟩ := h.at
  obtain ⟨f1, f2, f3⟩ := hi 0 h0
  rw [pa_at h0] at f1 f2 f3
  have h4 := ok_n f3 hc
  refine cnb_pos (k := ps[0].2.2.toNat) (by omega) ?_
  rw [f1, f2, Int.toNat_of_nonneg (by omega), show (0 : Int) + ps[0].2.2 - ps[0].2.2 = 0 by omega, Int.zero_emod]
  exact hg
theorem due_same {ps : List Pln} {ts : List Int} {m n i : Nat} (h : i < ps.length) (h' : i < (wvL ps ts m n).length) : (((wvL ps ts m n)[i].1, (wvL ps ts m n)[i].2.1, ps[i].2.2) : Pln) = ps[i] := by
  rw [wvL_at h']
  simp only [wvp]
  rw [pa_at h]
theorem c27q (ps : List Pln) (ts : List Int) (m n : Nat) (hW : okW ps ts m n) {q : Nat} (hq : ps.length = q) : PureC X 27 [.c (.sl false q 3 (flat plc ps)), .c (ints false ts), cI m] (.tup [cI (wid ps ts m n n), cI 0]) := by
  subst hq
  exact c27 ps ts m n hW
theorem c28q (ps : List Pln) (ts : List Int) (m n : Nat) (hW : okW ps ts m n) {q : Nat} (hq : ps.length = q) : PureC X 28 [.c (.sl false q 3 (flat plc ps)), .c (ints false ts), cI m] (.tup [cI (wid ps ts m n n), cI 0]) := by
  subst hq
  exact c28 ps ts m n hW
theorem c17w (ps : List Pln) (ts : List Int) (m n : Nat) (hW : okW ps ts m n) : PureC X 17 [.c (pls false ps), .c (ints false ts), cI m] (.tup [.c (.sl true ps.length 3 (flat plc (wvL ps ts m n))), cI 0]) := c17 ps ts m n hW
theorem c14w (ps : List Pln) (ts : List Int) (m n : Nat) (hW : okW ps ts m n) : PureC X 14 [.c (pls false ps), .c (ints false ts), cI m] (.tup [.c (.sl true ps.length 3 (flat plc (wvL ps ts m n))), cI 0]) := c14 ps ts m n hW
theorem c23 (code : List Int) : PureC X 23 [.c (.sl false code.length 1 (flat byt code))] (cB (decide (4096 < (code.length : Int)))) := by
  refine PureC.of_body (drawD_ok X) (fun _ _ => Go.Proofs.Try.call23 _ _) Go.Proofs.Try.func23 rfl (n := 6) rfl ?_
  refine w_seq ?_
  refine w_reg rfl ?_
  refine v_assign (c := .v (.bool false)) rfl ?_
  refine v_nil ?_
  refine q_n ?_
  refine w_seq ?_
  refine w_reg rfl ?_
  refine v_move rfl ?_
  refine v_len_sl lay48 rfl ?_
  refine v_gtr lay3 rfl rfl (fun h1 => ?_) (fun h1 => ?_)
  · refine v_assign rfl ?_
    refine v_nil ?_
    refine q_n ?_
    refine w_ret ?_
    refine r_r rfl ?_
    exact a_b (by simp_all)
  refine v_assign rfl ?_
  refine v_nil ?_
  refine q_n ?_
  refine w_ret ?_
  refine r_r rfl ?_
  exact a_b (by simp_all)
theorem c5 (code more : List Int) (hc : ∀ b ∈ code, 0 ≤ b ∧ b ≤ 255) (hl : code.length ≤ maxLen) (_ : more.length ≤ maxLen) : PureC X 5 [.c (.sl false code.length 1 (flat byt code)), .c (.sl false more.length 1 (flat byt more))] (cB true) := by
  refine PureC.of_body (drawD_ok X) (fun _ _ => Go.Proofs.Try.call5 _ _) Go.Proofs.Try.func5 rfl (n := 185) rfl ?_
  refine w_seq ?_
  refine w_reg rfl ?_
  refine v_assign (c := .v (.bool false)) rfl ?_
  refine v_nil ?_
  refine q_n ?_
  refine w_seq ?_
  refine w_seq ?_
  refine w_reg rfl ?_
  refine v_move rfl ?_
  refine v_callb (c23 _) rfl rfl (.cons vw_sl .nil) (fun h1 => ?_) (fun h1 => ?_)
  · refine v_move rfl ?_
    refine v_guard_off rfl rfl rfl ?_
    refine v_guard_off rfl rfl rfl ?_
    refine v_pick_t (v := .v (.bool true)) rfl rfl ?_
    refine v_nil ?_
    refine q_n ?_
    refine w_t rfl ?_
    refine w_seq ?_
    refine w_reg rfl ?_
    refine v_assign (c := .v (.bool true)) rfl ?_
    refine v_nil ?_
    refine q_n ?_
    refine w_ret (q_r ?_)
    refine r_r rfl ?_
    exact tr_v
  refine v_move rfl ?_
  refine v_guard_on rfl rfl ?_
  refine v_move rfl ?_
  refine v_guard_on rfl rfl ?_
  refine v_callb (c23 _) rfl rfl (.cons vw_sl .nil) (fun h2 => ?_) (fun h2 => ?_)
  · refine v_pick_f rfl rfl ?_
    refine v_nil ?_
    refine q_n ?_
    refine w_t rfl ?_
    refine w_seq ?_
    refine w_reg rfl ?_
    refine v_assign (c := .v (.bool true)) rfl ?_
    refine v_nil ?_
    refine q_n ?_
    refine w_ret (q_r ?_)
    refine r_r rfl ?_
    exact tr_v
  refine v_pick_f rfl rfl ?_
  refine v_nil ?_
  refine q_n ?_
  refine w_f rfl ?_
  refine w_skip ?_
  refine q_n ?_
  refine w_seq ?_
  refine w_reg rfl ?_
  refine v_move rfl ?_
  refine v_callE (c24 code hc (by unfold maxLen at hl; omega)) (by rintro _ ⟨ps, ts, m, n, -, rfl⟩; rfl) rfl rfl (.cons vw_sl .nil) ?_
  rintro _ ⟨ps, ts, m, n, hR, rfl⟩
  have hW := hR.tookW
  have hD := okW_due hR
  have hdl : (wvL ps ts m n).length = ps.length := wvL_len
  have w1 := hW.ne
  have w2 := hW.le
  have w4 := hW.mm
  have h00 : 0 < ps.length := by omega
  have g1 := wid_due hR h00
  have g2 := wid_le (ts := ts) (m := m) (n := n) h00
  have g3 := cgr_pos hR h00
  obtain ⟨hk0, hn0, hg0⟩ := hW.at h00
  refine v_move_t rfl ?_
  refine v_extract_c rfl rfl ?_
  refine v_extract_c rfl rfl ?_
  refine v_extract_c rfl rfl ?_
  refine v_assign rfl ?_
  refine v_assign rfl ?_
  refine v_assign rfl ?_
  refine v_nil ?_
  refine q_n ?_
  refine w_seq ?_
  refine w_reg rfl ?_
  refine v_move rfl ?_
  refine v_move rfl ?_
  refine v_move rfl ?_
  refine v_call (c17w ps ts m n hW) rfl rfl rfl (.cons vw_sl (.cons vw_sl (.cons vw_v .nil))) ?_
  refine v_move_t rfl ?_
  refine v_extract_c rfl rfl ?_
  refine v_extract_c rfl rfl ?_
  refine v_assign rfl ?_
  refine v_assign rfl ?_
  refine v_nil ?_
  refine q_n ?_
  refine w_seq ?_
  refine w_reg rfl ?_
  refine v_move rfl ?_
  refine v_move rfl ?_
  refine v_move rfl ?_
  refine v_call (c14w ps ts m n hW) rfl rfl rfl (.cons vw_sl (.cons vw_sl (.cons vw_v .nil))) ?_
  refine v_move_t rfl ?_
  refine v_extract_c rfl rfl ?_
  refine v_extract_c rfl rfl ?_
  refine v_assign rfl ?_
  refine v_assign rfl ?_
  refine v_nil ?_
  refine q_n ?_
  refine w_seq ?_
  refine w_seq ?_
  refine w_reg rfl ?_
  refine v_move rfl ?_
  refine v_move rfl ?_
  refine v_neq lay2 rfl rfl (fun h3 => ?_) (fun h3 => ?_)
  · exfalso; omega
  refine v_move rfl ?_
  refine v_guard_on rfl rfl ?_
  refine v_move rfl ?_
  refine v_guard_on rfl rfl ?_
  refine v_neq lay2 rfl rfl (fun h4 => ?_) (fun h4 => ?_)
  · exfalso; omega
  refine v_pick_f rfl rfl ?_
  refine v_move rfl ?_
  refine v_guard_on rfl rfl ?_
  refine v_move rfl ?_
  refine v_guard_on rfl rfl ?_
  refine v_len_sl lay38 rfl ?_
  refine v_guard_on rfl rfl ?_
  refine v_move rfl ?_
  refine v_guard_on rfl rfl ?_
  refine v_len_sl lay38 rfl ?_
  refine v_guard_on rfl rfl ?_
  refine v_neq lay3 rfl rfl (fun h5 => ?_) (fun h5 => ?_)
  · exfalso; omega
  refine v_pick_f rfl rfl ?_
  refine v_nil ?_
  refine q_n ?_
  refine w_f rfl ?_
  refine w_skip ?_
  refine q_n ?_
  refine w_seq ?_
  refine w_seq ?_
  refine w_reg rfl ?_
  refine v_assign (c := .v (.int .i64 0)) rfl ?_
  refine v_nil ?_
  refine q_n ?_
  refine w_block ?_
  refine w_loop (fun k sl H => ∃ i : Nat, k = ps.length - i ∧ i ≤ ps.length ∧ sl = sls [(5, .c (pls true ps)), (6, .c (ints true ts)), (7, cI m), (8, .c (.sl true ps.length 3 (flat plc (wvL ps ts m n)))), (10, .c (.sl true ps.length 3 (flat plc (wvL ps ts m n)))), (12, cI i)] ∧ H = []) ?_ ?_
  · refine ⟨_, _, _, ?_, 0, rfl, Nat.zero_le _, rfl, rfl⟩
    exact turn0 ⟨tr_sl, tr_sl, tr_v, tr_sl, tr_sl, tr_v, trivial⟩
  rintro k sl H ⟨i, rfl, hi, rfl, rfl⟩
  refine w_seq ?_
  refine w_seq ?_
  refine w_reg rfl ?_
  refine v_move rfl ?_
  refine v_move rfl ?_
  refine v_len_sl lay38 rfl ?_
  refine v_lss lay3 rfl rfl (fun h6 => ?_) (fun h6 => ?_)
  rotate_left
  · refine v_nil ?_
    refine q_n ?_
    refine w_f rfl ?_
    refine w_exit ?_
    refine q_e ?_
    refine q_e ?_
    refine q_hit ?_
    refine q_n ?_
    refine w_seq ?_
    refine w_reg rfl ?_
    refine v_move rfl ?_
    refine v_move rfl ?_
    refine v_move rfl ?_
    refine v_call (c27 ps ts m n hW) rfl rfl rfl (.cons vw_sl (.cons vw_sl (.cons vw_v .nil))) ?_
    refine v_move_t rfl ?_
    refine v_extract_c rfl rfl ?_
    refine v_extract_c rfl rfl ?_
    refine v_assign rfl ?_
    refine v_assign rfl ?_
    refine v_nil ?_
    refine q_n ?_
    refine w_seq ?_
    refine w_reg rfl ?_
    refine v_move rfl ?_
    refine v_move rfl ?_
    refine v_move rfl ?_
    refine v_call (c27q (wvL ps ts m n) ts m n hD hdl) rfl rfl rfl (.cons vw_sl (.cons vw_sl (.cons vw_v .nil))) ?_
    refine v_move_t rfl ?_
    refine v_extract_c rfl rfl ?_
    refine v_extract_c rfl rfl ?_
    refine v_assign rfl ?_
    refine v_assign rfl ?_
    refine v_nil ?_
    refine q_n ?_
    refine w_seq ?_
    refine w_reg rfl ?_
    refine v_move rfl ?_
    refine v_move rfl ?_
    refine v_move rfl ?_
    refine v_call (c28q (wvL ps ts m n) ts m n hD hdl) rfl rfl rfl (.cons vw_sl (.cons vw_sl (.cons vw_v .nil))) ?_
    refine v_move_t rfl ?_
    refine v_extract_c rfl rfl ?_
    refine v_extract_c rfl rfl ?_
    refine v_assign rfl ?_
    refine v_assign rfl ?_
    refine v_nil ?_
    refine q_n ?_
    refine w_seq ?_
    refine w_reg rfl ?_
    refine v_move rfl ?_
    refine v_idx_e (k := 3) (0) plc_len lay38 lay28 rfl rfl rfl (by first | rfl | exact wvL_len.symm) rfl (rfl) (h00) ?_
    refine v_load_vw (.agg [_, .v _, .v _]) lay28 rfl rfl rfl ?_
    refine v_move rfl ?_
    refine v_call (c29 ps[0].1 ps[0].2.1 ps[0].2.2 hk0 m n hn0 w4 hg0) rfl rfl rfl (.cons (vw_agg (.cons vw_sl (.cons vw_v (.cons vw_v .nil)))) (.cons vw_v .nil)) ?_
    refine v_move_t rfl ?_
    refine v_extract_c rfl rfl ?_
    refine v_extract_c rfl rfl ?_
    refine v_assign rfl ?_
    refine v_assign rfl ?_
    refine v_nil ?_
    refine q_n ?_
    refine w_seq ?_
    refine w_seq ?_
    refine w_reg rfl ?_
    refine v_move rfl ?_
    refine v_neq lay2 rfl rfl (fun h17 => ?_) (fun h17 => ?_)
    · exfalso; omega
    refine v_move rfl ?_
    refine v_guard_on rfl rfl ?_
    refine v_move rfl ?_
    refine v_guard_on rfl rfl ?_
    refine v_move rfl ?_
    refine v_guard_on rfl rfl ?_
    refine v_neq lay2 rfl rfl (fun h18 => ?_) (fun h18 => ?_)
    · exfalso; omega
    refine v_pick_f rfl rfl ?_
    refine v_move rfl ?_
    refine v_guard_on rfl rfl ?_
    refine v_move rfl ?_
    refine v_guard_on rfl rfl ?_
    refine v_neq lay2 rfl rfl (fun h19 => ?_) (fun h19 => ?_)
    · exfalso; omega
    refine v_pick_f rfl rfl ?_
    refine v_move rfl ?_
    refine v_guard_on rfl rfl ?_
    refine v_move rfl ?_
    refine v_guard_on rfl rfl ?_
    refine v_move rfl ?_
    refine v_guard_on rfl rfl ?_
    refine v_neq lay2 rfl rfl (fun h20 => ?_) (fun h20 => ?_)
    · exfalso; omega
    refine v_pick_f rfl rfl ?_
    refine v_move rfl ?_
    refine v_guard_on rfl rfl ?_
    refine v_move rfl ?_
    refine v_guard_on rfl rfl ?_
    refine v_neq lay2 rfl rfl (fun h21 => ?_) (fun h21 => ?_)
    · exfalso; omega
    refine v_pick_f rfl rfl ?_
    refine v_move rfl ?_
    refine v_guard_on rfl rfl ?_
    refine v_move rfl ?_
    refine v_guard_on rfl rfl ?_
    refine v_lss lay2 rfl rfl (fun h22 => ?_) (fun h22 => ?_)
    · exfalso; omega
    refine v_pick_f rfl rfl ?_
    refine v_move rfl ?_
    refine v_guard_on rfl rfl ?_
    refine v_move rfl ?_
    refine v_guard_on rfl rfl ?_
    refine v_move rfl ?_
    refine v_guard_on rfl rfl ?_
    refine v_gtr lay2 rfl rfl (fun h23 => ?_) (fun h23 => ?_)
    · exfalso; omega
    refine v_pick_f rfl rfl ?_
    refine v_move rfl ?_
    refine v_guard_on rfl rfl ?_
    refine v_move rfl ?_
    refine v_guard_on rfl rfl ?_
    refine v_lss lay2 rfl rfl (fun h24 => ?_) (fun h24 => ?_)
    · exfalso; omega
    refine v_pick_f rfl rfl ?_
    refine v_move rfl ?_
    refine v_guard_on rfl rfl ?_
    refine v_move rfl ?_
    refine v_guard_on rfl rfl ?_
    refine v_move rfl ?_
    refine v_guard_on rfl rfl ?_
    refine v_gtr lay2 rfl rfl (fun h25 => ?_) (fun h25 => ?_)
    · exfalso; omega
    refine v_pick_f rfl rfl ?_
    refine v_nil ?_
    refine q_n ?_
    refine w_f rfl ?_
    refine w_skip ?_
    refine q_n ?_
    refine w_seq ?_
    refine w_reg rfl ?_
    refine v_move rfl ?_
    refine v_move rfl ?_
    refine v_eql lay2 rfl rfl (fun h26 => ?_) (fun h26 => ?_)
    rotate_left
    · exfalso; omega
    refine v_move rfl ?_
    refine v_guard_on rfl rfl ?_
    refine v_move rfl ?_
    refine v_guard_on rfl rfl ?_
    refine v_len_sl lay38 rfl ?_
    refine v_guard_on rfl rfl ?_
    refine v_gtr lay3 rfl rfl (fun h27 => ?_) (fun h27 => ?_)
    · refine v_guard_on rfl rfl ?_
      refine v_move rfl ?_
      refine v_guard_off rfl rfl rfl ?_
      refine v_guard_off rfl rfl rfl ?_
      refine v_guard_off rfl rfl rfl ?_
      refine v_guard_on rfl rfl ?_
      refine v_pick_t (v := .v (.bool true)) rfl rfl ?_
      refine v_pick_t rfl rfl ?_
      refine v_assign rfl ?_
      refine v_nil ?_
      refine q_n ?_
      refine w_ret ?_
      refine r_r rfl ?_
      exact tr_v
    refine v_guard_on rfl rfl ?_
    refine v_move rfl ?_
    refine v_guard_on rfl rfl ?_
    refine v_move rfl ?_
    refine v_guard_on rfl rfl ?_
    refine v_move rfl ?_
    refine v_guard_on rfl rfl ?_
    refine v_eql lay2 rfl rfl (fun h28 => ?_) (fun h28 => ?_)
    rotate_left
    · exfalso; have := wid_one (ts := ts) (m := m) (n := n) h00 (by omega); omega
    refine v_guard_on rfl rfl ?_
    refine v_pick_f rfl rfl ?_
    refine v_pick_t rfl rfl ?_
    refine v_assign rfl ?_
    refine v_nil ?_
    refine q_n ?_
    refine w_ret ?_
    refine r_r rfl ?_
    exact tr_v
  have hi1 : i < ps.length := by omega
  have hi2 : i < (wvL ps ts m n).length := by omega
  refine v_nil ?_
  refine q_n ?_
  refine w_t rfl ?_
  refine w_skip ?_
  refine q_n ?_
  refine w_seq ?_
  refine w_block ?_
  refine w_seq ?_
  refine w_reg rfl ?_
  refine v_move rfl ?_
  refine v_move rfl ?_
  refine v_idx_e (k := 3) (i) plc_len lay38 lay28 rfl rfl rfl (by first | rfl | exact wvL_len.symm) rfl (rfl) (hi2) ?_
  refine v_load_vw (.agg [_, .v _, .v _]) lay28 rfl rfl rfl ?_
  refine v_alloc (m := 0) (H' := [⟨[.v _, .v _, .v _], 28, true⟩]) lay28 rfl rfl ?_
  refine v_store (H' := [⟨[_, _, _], 28, true⟩]) lay28 rfl rfl rfl rfl rfl rfl ?_
  refine v_nil ?_
  refine q_n ?_
  refine w_seq ?_
  refine w_reg rfl ?_
  refine v_move rfl ?_
  refine v_move rfl ?_
  refine v_idx_e (k := 3) (i) plc_len lay38 lay28 rfl rfl rfl (by first | rfl | exact wvL_len.symm) rfl (rfl) (hi1) ?_
  refine v_fa_vw (off' := 2) lay28 rfl rfl rfl ?_
  refine v_load_vw (.c (.v _)) lay2 rfl rfl rfl ?_
  refine v_fa_pt (off' := 2) lay28 rfl rfl rfl ?_
  refine v_store (H' := [⟨[_, _, _], 28, true⟩]) lay2 rfl rfl rfl rfl rfl rfl ?_
  refine v_nil ?_
  refine q_n ?_
  refine w_seq ?_
  refine w_draw [0, 0, 3, 7, 0, 0, 48, 112, 255, 511, 1023, 2047, 2047, 2047, 14335, 30719, 65535, 131071, 262143, 524287, 1048575, 1048575, 4194303, 8388607, 16777215, 33554431, 67108863] [⟨0, 0, []⟩, ⟨1, 0, []⟩, ⟨2, 0, []⟩, ⟨3, 0, []⟩, ⟨4, 0, []⟩, ⟨5, 0, []⟩, ⟨6, 0, []⟩, ⟨7, 0, []⟩, ⟨8, 0, []⟩, ⟨9, 0, []⟩, ⟨10, 0, []⟩, ⟨11, 0, []⟩, ⟨12, 0, []⟩, ⟨13, 0, []⟩, ⟨14, 0, []⟩, ⟨15, 0, []⟩, ⟨16, 0, []⟩, ⟨17, 0, []⟩, ⟨18, 0, []⟩, ⟨19, 0, []⟩, ⟨20, 0, []⟩, ⟨21, 0, []⟩, ⟨22, 0, []⟩, ⟨23, 0, []⟩, ⟨24, 0, []⟩, ⟨25, 0, []⟩, ⟨26, 0, []⟩] rfl rfl ?_
  refine d_q rfl rfl rfl rfl rfl ?_
  refine v_move rfl ?_
  refine v_nil ?_
  refine d_q rfl rfl rfl rfl rfl ?_
  refine v_move rfl ?_
  refine v_nil ?_
  refine d_q rfl rfl rfl rfl rfl ?_
  refine v_idx_e (k := 3) (i) plc_len lay38 lay28 rfl rfl rfl (by first | rfl | exact wvL_len.symm) rfl (rfl) (hi2) ?_
  refine v_nil ?_
  refine d_q rfl rfl rfl rfl rfl ?_
  refine v_load_vw (.agg [_, .v _, .v _]) lay28 rfl rfl rfl ?_
  refine v_nil ?_
  refine d_q rfl rfl rfl rfl rfl ?_
  refine v_move rfl ?_
  refine v_nil ?_
  refine d_q rfl rfl rfl rfl rfl ?_
  refine v_move rfl ?_
  refine v_nil ?_
  refine d_q rfl rfl rfl rfl rfl ?_
  refine v_idx_e (k := 3) (i) plc_len lay38 lay28 rfl rfl rfl (by first | rfl | exact wvL_len.symm) rfl (rfl) (hi2) ?_
  refine v_nil ?_
  refine d_q rfl rfl rfl rfl rfl ?_
  refine v_load_vw (.agg [_, .v _, .v _]) lay28 rfl rfl rfl ?_
  refine v_nil ?_
  refine d_callb (c25 (wvL ps ts m n)[i] (wvL ps ts m n)[i] (by have := (hD.at hi2).1; exact this.1.2.1) (by have := (hD.at hi2).1; exact this.1.2.1) (by have := (hD.at hi2).1.1.1; omega) (by have := (hD.at hi2).1.1.1; omega)) rfl rfl rfl rfl (.cons (vw_agg (.cons vw_sl (.cons vw_v (.cons vw_v .nil)))) (.cons (vw_agg (.cons vw_sl (.cons vw_v (.cons vw_v .nil)))) .nil)) (fun h11 => ?_) (fun h11 => ?_)
  rotate_left
  · exact absurd rfl h11
  refine d_q rfl rfl rfl rfl rfl ?_
  refine v_not false rfl rfl ?_
  refine v_nil ?_
  refine d_q rfl rfl rfl rfl rfl ?_
  refine v_move rfl ?_
  refine v_nil ?_
  refine d_q rfl rfl rfl rfl rfl ?_
  refine v_load_pt (.agg [_, _, _]) lay28 rfl rfl rfl rfl ?_
  refine v_nil ?_
  refine d_q rfl rfl rfl rfl rfl ?_
  refine v_move rfl ?_
  refine v_nil ?_
  refine d_q rfl rfl rfl rfl rfl ?_
  refine v_move rfl ?_
  refine v_nil ?_
  refine d_q rfl rfl rfl rfl rfl ?_
  refine v_idx_e (k := 3) (i) plc_len lay38 lay28 rfl rfl rfl (by first | rfl | exact wvL_len.symm) rfl (rfl) (hi1) ?_
  refine v_nil ?_
  refine d_q rfl rfl rfl rfl rfl ?_
  refine v_load_vw (.agg [_, .v _, .v _]) lay28 rfl rfl rfl ?_
  refine v_nil ?_
  refine d_callb (c25 ((wvL ps ts m n)[i].1, (wvL ps ts m n)[i].2.1, ps[i].2.2) ps[i] (by have := (hD.at hi2).1; exact this.1.2.1) (by have := (hW.at hi1).1; exact this.1.2.1) (by have := (hD.at hi2).1.1.1; simp only []; omega) (by have := (hW.at hi1).1.1.1; omega)) rfl rfl rfl rfl (.cons (vw_agg (.cons vw_sl (.cons vw_v (.cons vw_v .nil)))) (.cons (vw_agg (.cons vw_sl (.cons vw_v (.cons vw_v .nil)))) .nil)) (fun h13 => ?_) (fun h13 => ?_)
  rotate_left
  · exact absurd (due_same hi1 hi2) h13
  refine d_q rfl rfl rfl rfl rfl ?_
  refine v_not false rfl rfl ?_
  refine v_nil ?_
  refine d_q rfl rfl rfl rfl rfl ?_
  refine v_pick_f rfl rfl ?_
  refine v_nil ?_
  refine d_q rfl rfl rfl rfl rfl ?_
  refine v_move rfl ?_
  refine v_nil ?_
  refine d_q rfl rfl rfl rfl rfl ?_
  refine v_move rfl ?_
  refine v_nil ?_
  refine d_q rfl rfl rfl rfl rfl ?_
  refine v_move rfl ?_
  refine v_nil ?_
  refine d_q rfl rfl rfl rfl rfl ?_
  refine v_idx_e (k := 3) (i) plc_len lay38 lay28 rfl rfl rfl (by first | rfl | exact wvL_len.symm) rfl (rfl) (hi2) ?_
  refine v_nil ?_
  refine d_q rfl rfl rfl rfl rfl ?_
  refine v_load_vw (.agg [_, .v _, .v _]) lay28 rfl rfl rfl ?_
  refine v_nil ?_
  refine d_callb (c26 _ _ _ (by have := (hD.at hi2).1.1.1; omega)) rfl rfl rfl rfl (.cons (vw_agg (.cons vw_sl (.cons vw_v (.cons vw_v .nil)))) .nil) (fun h15 => ?_) (fun h15 => ?_)
  rotate_left
  · exact absurd (hD.at hi2).1 h15
  refine d_q rfl rfl rfl rfl rfl ?_
  refine v_not false rfl rfl ?_
  refine v_nil ?_
  refine d_q rfl rfl rfl rfl rfl ?_
  refine v_pick_f rfl rfl ?_
  refine v_nil ?_
  refine d_nil ?_
  refine q_n ?_
  refine w_f rfl ?_
  refine w_skip ?_
  refine q_bn ?_
  refine q_n ?_
  refine w_reg rfl ?_
  refine v_move rfl ?_
  refine v_add lay3 rfl rfl (i64r (by omega)) ?_
  refine v_assign rfl ?_
  refine v_nil ?_
  refine q_n ?_
  refine ⟨_, _, _, ?_, ⟨i + 1, rfl, by omega, rfl, rfl⟩, by omega⟩
  exact turn0 ⟨tr_sl, tr_sl, tr_v, tr_sl, tr_sl, tr_v, trivial⟩
end Go.VL
namespace Go.VL
open Go.RowKit
set_option maxRecDepth 20000
set_option maxHeartbeats 8000000
def rowBad (ps : List Pln) (ts : List Int) (m : Int) : Prop := ¬ ((1 ≤ (ps.length : Int) ∧ (ps.length : Int) ≤ 6) ∧ (ts.length : Int) = ps.length - 1 ∧ (0 ≤ m ∧ m ≤ 8 - 1) ∧ ∀ t ∈ ts, 0 ≤ t ∧ t ≤ 100000)
instance (ps : List Pln) (ts : List Int) (m : Int) : Decidable (rowBad ps ts m) := by unfold rowBad; infer_instance
/-- The code of a row of plans, whatever it is. -/
def wcR (ps : List Pln) (ts : List Int) (m : Int) : Int :=
  if ∃ p ∈ ps, ¬ okP p.1 p.2.1 p.2.2 then 1
  else if rowBad ps ts m then 2
  else if ∃ p ∈ ps, ¬ cyc p.1 p.2.1 = cyc (pa ps 0).1 (pa ps 0).2.1 then 4
  else if ∃ p ∈ ps, ¬ true ∈ gr0 p.1 p.2.1 m.toNat (cyc (pa ps 0).1 (pa ps 0).2.1).toNat then 6
  else 0
theorem wc_1 {ps : List Pln} {ts : List Int} {m : Int} (h : ∃ p ∈ ps, ¬ okP p.1 p.2.1 p.2.2) : wcR ps ts m = 1 := by
  unfold wcR
  rw [if_pos h]
theorem wc_2 {ps : List Pln} {ts : List Int} {m : Int} (h : ¬ ∃ p ∈ ps, ¬ okP p.1 p.2.1 p.2.2) (h2 : rowBad ps ts m) : wcR ps ts m = 2 := by
  unfold wcR
  rw [if_neg h, if_pos h2]
theorem wc_4 {ps : List Pln} {ts : List Int} {m : Int} (h : ¬ ∃ p ∈ ps, ¬ okP p.1 p.2.1 p.2.2) (h2 : ¬ rowBad ps ts m) (h3 : ∃ p ∈ ps, ¬ cyc p.1 p.2.1 = cyc (pa ps 0).1 (pa ps 0).2.1) : wcR ps ts m = 4 := by
  unfold wcR
  rw [if_neg h, if_neg h2, if_pos h3]
theorem wc_6 {ps : List Pln} {ts : List Int} {m : Int} (h : ¬ ∃ p ∈ ps, ¬ okP p.1 p.2.1 p.2.2) (h2 : ¬ rowBad ps ts m) (h3 : ¬ ∃ p ∈ ps, ¬ cyc p.1 p.2.1 = cyc (pa ps 0).1 (pa ps 0).2.1) (h4 : ∃ p ∈ ps, ¬ true ∈ gr0 p.1 p.2.1 m.toNat (cyc (pa ps 0).1 (pa ps 0).2.1).toNat) : wcR ps ts m = 6 := by
  unfold wcR
  rw [if_neg h, if_neg h2, if_neg h3, if_pos h4]
theorem wc_0 {ps : List Pln} {ts : List Int} {m : Int} (h : ¬ ∃ p ∈ ps, ¬ okP p.1 p.2.1 p.2.2) (h2 : ¬ rowBad ps ts m) (h3 : ¬ ∃ p ∈ ps, ¬ cyc p.1 p.2.1 = cyc (pa ps 0).1 (pa ps 0).2.1) (h4 : ¬ ∃ p ∈ ps, ¬ true ∈ gr0 p.1 p.2.1 m.toNat (cyc (pa ps 0).1 (pa ps 0).2.1).toNat) : wcR ps ts m = 0 := by
  unfold wcR
  rw [if_neg h, if_neg h2, if_neg h3, if_neg h4]
theorem all_ok {ps : List Pln} (h : ¬ ∃ p ∈ ps, ¬ okP p.1 p.2.1 p.2.2) : ∀ p ∈ ps, okP p.1 p.2.1 p.2.2 := fun p hp => Decidable.byContradiction fun h1 => h ⟨p, hp, h1⟩
theorem row_good {ps : List Pln} {ts : List Int} {m : Int} (h : ¬ rowBad ps ts m) : (1 ≤ (ps.length : Int) ∧ (ps.length : Int) ≤ 6) ∧ (ts.length : Int) = ps.length - 1 ∧ (0 ≤ m ∧ m ≤ 8 - 1) ∧ ∀ t ∈ ts, 0 ≤ t ∧ t ≤ 100000 := Decidable.byContradiction h
theorem gr0_mem {xs : List Slo} {b f : Int} {m n : Nat} (hn : 1 ≤ n) : (∃ x ∈ grL xs b f m n 0, x = true) ↔ true ∈ gr0 xs b m n := by
  constructor
  · rintro ⟨x, hx, rfl⟩
    obtain ⟨k, hk, e⟩ := List.mem_map.1 hx
    have h1 := Int.emod_nonneg (0 + (k : Int) - f) (show (n : Int) ≠ 0 by omega)
    have h2 := Int.emod_lt_of_pos (0 + (k : Int) - f) (show (0 : Int) < n by omega)
    refine List.mem_map.2 ⟨((0 + (k : Int) - f) % n).toNat, List.mem_range.2 (by omega), ?_⟩
    rw [Int.toNat_of_nonneg h1]
    exact e
  · intro h
    obtain ⟨k, hk, e⟩ := List.mem_map.1 h
    exact grL_ex ⟨k, List.mem_range.1 hk, e⟩
/-- A row with no code is a good row. -/
theorem okW_of {ps : List Pln} {ts : List Int} {m : Int} (h : wcR ps ts m = 0) : ∃ (m' n : Nat), m = m' ∧ okW ps ts m' n := by
  unfold wcR at h
  by_cases h1 : ∃ p ∈ ps, ¬ okP p.1 p.2.1 p.2.2
  · rw [if_pos h1] at h; exact absurd h (by decide)
  rw [if_neg h1] at h
  by_cases h2 : rowBad ps ts m
  · rw [if_pos h2] at h; exact absurd h (by decide)
  rw [if_neg h2] at h
  by_cases h3 : ∃ p ∈ ps, ¬ cyc p.1 p.2.1 = cyc (pa ps 0).1 (pa ps 0).2.1
  · rw [if_pos h3] at h; exact absurd h (by decide)
  rw [if_neg h3] at h
  by_cases h4 : ∃ p ∈ ps, ¬ true ∈ gr0 p.1 p.2.1 m.toNat (cyc (pa ps 0).1 (pa ps 0).2.1).toNat
  · rw [if_pos h4] at h; exact absurd h (by decide)
  obtain ⟨g1, g2, g3, g4⟩ := row_good h2
  have hok := all_ok h1
  have h0 : 0 < ps.length := by omega
  have hc0 := okP_cyc (hok _ (List.getElem_mem h0))
  rw [← pa_at h0] at hc0
  refine ⟨m.toNat, (cyc (pa ps 0).1 (pa ps 0).2.1).toNat, by omega, {
    ne := by omega
    le := by omega
    tl := by omega
    tr := g4
    mm := by omega
    ok := hok
    cy := fun p hp => ?_
    gn := fun p hp => ?_ }⟩
  · rw [Int.toNat_of_nonneg (by omega)]
    exact Decidable.byContradiction fun h5 => h3 ⟨p, hp, h5⟩
  · have h6 : true ∈ gr0 p.1 p.2.1 m.toNat (cyc (pa ps 0).1 (pa ps 0).2.1).toNat := Decidable.byContradiction fun h5 => h4 ⟨p, hp, h5⟩
    obtain ⟨k, hk, e⟩ := List.mem_map.1 h6
    exact ⟨k, List.mem_range.1 hk, e⟩
theorem c46g (ps : List Pln) (ts : List Int) (m : Int) (hP : ∀ p ∈ ps, p.1.length ≤ 2 ^ 40) (hx : ps.length ≤ 2 ^ 40) (ht : ts.length ≤ 2 ^ 40) : PureC X 46 [.c (pls false ps), .c (ints false ts), cI m] (cI (wcR ps ts m)) := by
  refine PureC.of_body (drawD_ok X) (fun _ _ => Go.Proofs.Try.call46 _ _) Go.Proofs.Try.func46 rfl (n := 62) rfl ?_
  refine w_seq ?_
  refine w_reg rfl ?_
  refine v_box (m := 0) (H' := [_]) lay2 rfl rfl rfl ?_
  refine v_assign (c := .v (.int .i64 0)) rfl ?_
  refine v_nil ?_
  refine q_n ?_
  refine w_seq ?_
  refine w_reg rfl ?_
  refine v_move rfl ?_
  refine v_callb (c66a 67 (fun p => ¬ okP p.1 p.2.1 p.2.2) _ hx (fun p hp => c67 p (hP p hp))) rfl rfl (.cons vw_sl (.cons (vw_fn .nil) .nil)) (fun h1 => ?_) (fun h1 => ?_)
  · have hv := h1
    refine v_assign rfl ?_
    refine v_nil ?_
    refine q_n ?_
    refine w_seq ?_
    refine w_reg rfl ?_
    refine v_move rfl ?_
    refine v_len_sl lay38 rfl ?_
    refine v_callb (cInR _ _ _) rfl rfl (.cons vw_v (.cons vw_v (.cons vw_v .nil))) (fun h2 => ?_) (fun h2 => ?_)
    rotate_left
    · refine v_not true rfl rfl ?_
      refine v_move rfl ?_
      refine v_guard_off rfl rfl rfl ?_
      refine v_guard_off rfl rfl rfl ?_
      refine v_guard_off rfl rfl rfl ?_
      refine v_guard_off rfl rfl rfl ?_
      refine v_guard_off rfl rfl rfl ?_
      refine v_guard_off rfl rfl rfl ?_
      refine v_pick_t (v := .v (.bool true)) rfl rfl ?_
      refine v_move rfl ?_
      refine v_guard_off rfl rfl rfl ?_
      refine v_guard_off rfl rfl rfl ?_
      refine v_guard_off rfl rfl rfl ?_
      refine v_pick_t (v := .v (.bool true)) rfl rfl ?_
      refine v_move rfl ?_
      refine v_guard_off rfl rfl rfl ?_
      refine v_guard_off rfl rfl rfl ?_
      refine v_pick_t (v := .v (.bool true)) rfl rfl ?_
      refine v_assign rfl ?_
      refine v_nil ?_
      refine q_n ?_
      refine w_seq ?_
      refine w_seq ?_
      refine w_reg rfl ?_
      refine v_move rfl ?_
      refine v_call (cCodeIf _ _) rfl rfl rfl (.cons vw_v (.cons vw_v .nil)) ?_
      refine v_move rfl ?_
      refine v_call (cCodeIf _ _) rfl rfl rfl (.cons vw_v (.cons vw_v .nil)) ?_
      refine v_lit (flat int [_, _]) (H' := [_, _]) lay36 lay2 rfl rfl ⟨by decide, by decide⟩ rfl rfl ?_
      refine v_call (cFirst [_, _] (Nat.le_of_ble_eq_true rfl)) rfl rfl rfl (.cons (vw_mu2 int_sc int_len rfl (by first | (simp; done) | (simp; omega))) .nil) ?_
      refine v_assign rfl ?_
      refine v_nil ?_
      refine q_n ?_
      refine w_seq ?_
      refine w_reg rfl ?_
      refine v_move rfl ?_
      refine v_neq lay2 rfl rfl (fun h10 => ?_) (fun h10 => ?_)
      rotate_left
      · have hc6 := h10
        exact absurd h10 (by simp [firstNZ])
      have hc6 := h10
      refine v_nil ?_
      refine q_n ?_
      refine w_t rfl ?_
      refine w_seq ?_
      refine w_reg rfl ?_
      refine v_move rfl ?_
      refine v_assign rfl ?_
      refine v_nil ?_
      refine q_n ?_
      refine w_ret (q_r ?_)
      refine r_r rfl ?_
      exact a_i (by rw [wc_1 hv]; simp [firstNZ])
    refine v_not false rfl rfl ?_
    refine v_move rfl ?_
    refine v_guard_on rfl rfl ?_
    refine v_move rfl ?_
    refine v_guard_on rfl rfl ?_
    refine v_len_sl lay36 rfl ?_
    refine v_guard_on rfl rfl ?_
    refine v_move rfl ?_
    refine v_guard_on rfl rfl ?_
    refine v_len_sl lay38 rfl ?_
    refine v_guard_on rfl rfl ?_
    refine v_sub lay3 rfl rfl (i64r (by omega)) ?_
    refine v_guard_on rfl rfl ?_
    refine v_neq lay3 rfl rfl (fun h3 => ?_) (fun h3 => ?_)
    · refine v_pick_f rfl rfl ?_
      refine v_move rfl ?_
      refine v_guard_off rfl rfl rfl ?_
      refine v_guard_off rfl rfl rfl ?_
      refine v_guard_off rfl rfl rfl ?_
      refine v_pick_t (v := .v (.bool true)) rfl rfl ?_
      refine v_move rfl ?_
      refine v_guard_off rfl rfl rfl ?_
      refine v_guard_off rfl rfl rfl ?_
      refine v_pick_t (v := .v (.bool true)) rfl rfl ?_
      refine v_assign rfl ?_
      refine v_nil ?_
      refine q_n ?_
      refine w_seq ?_
      refine w_seq ?_
      refine w_reg rfl ?_
      refine v_move rfl ?_
      refine v_call (cCodeIf _ _) rfl rfl rfl (.cons vw_v (.cons vw_v .nil)) ?_
      refine v_move rfl ?_
      refine v_call (cCodeIf _ _) rfl rfl rfl (.cons vw_v (.cons vw_v .nil)) ?_
      refine v_lit (flat int [_, _]) (H' := [_, _]) lay36 lay2 rfl rfl ⟨by decide, by decide⟩ rfl rfl ?_
      refine v_call (cFirst [_, _] (Nat.le_of_ble_eq_true rfl)) rfl rfl rfl (.cons (vw_mu2 int_sc int_len rfl (by first | (simp; done) | (simp; omega))) .nil) ?_
      refine v_assign rfl ?_
      refine v_nil ?_
      refine q_n ?_
      refine w_seq ?_
      refine w_reg rfl ?_
      refine v_move rfl ?_
      refine v_neq lay2 rfl rfl (fun h4 => ?_) (fun h4 => ?_)
      rotate_left
      · have hc6 := h4
        exact absurd h4 (by simp [firstNZ])
      have hc6 := h4
      refine v_nil ?_
      refine q_n ?_
      refine w_t rfl ?_
      refine w_seq ?_
      refine w_reg rfl ?_
      refine v_move rfl ?_
      refine v_assign rfl ?_
      refine v_nil ?_
      refine q_n ?_
      refine w_ret (q_r ?_)
      refine r_r rfl ?_
      exact a_i (by rw [wc_1 hv]; simp [firstNZ])
    refine v_pick_f rfl rfl ?_
    refine v_move rfl ?_
    refine v_guard_on rfl rfl ?_
    refine v_load_pt (.c _) lay2 rfl rfl rfl rfl ?_
    refine v_guard_on rfl rfl ?_
    refine v_callb (c68 _) rfl rfl (.cons vw_v .nil) (fun h5 => ?_) (fun h5 => ?_)
    rotate_left
    · refine v_guard_on rfl rfl ?_
      refine v_not true rfl rfl ?_
      refine v_pick_f rfl rfl ?_
      refine v_move rfl ?_
      refine v_guard_off rfl rfl rfl ?_
      refine v_guard_off rfl rfl rfl ?_
      refine v_pick_t (v := .v (.bool true)) rfl rfl ?_
      refine v_assign rfl ?_
      refine v_nil ?_
      refine q_n ?_
      refine w_seq ?_
      refine w_seq ?_
      refine w_reg rfl ?_
      refine v_move rfl ?_
      refine v_call (cCodeIf _ _) rfl rfl rfl (.cons vw_v (.cons vw_v .nil)) ?_
      refine v_move rfl ?_
      refine v_call (cCodeIf _ _) rfl rfl rfl (.cons vw_v (.cons vw_v .nil)) ?_
      refine v_lit (flat int [_, _]) (H' := [_, _]) lay36 lay2 rfl rfl ⟨by decide, by decide⟩ rfl rfl ?_
      refine v_call (cFirst [_, _] (Nat.le_of_ble_eq_true rfl)) rfl rfl rfl (.cons (vw_mu2 int_sc int_len rfl (by first | (simp; done) | (simp; omega))) .nil) ?_
      refine v_assign rfl ?_
      refine v_nil ?_
      refine q_n ?_
      refine w_seq ?_
      refine w_reg rfl ?_
      refine v_move rfl ?_
      refine v_neq lay2 rfl rfl (fun h9 => ?_) (fun h9 => ?_)
      rotate_left
      · have hc6 := h9
        exact absurd h9 (by simp [firstNZ])
      have hc6 := h9
      refine v_nil ?_
      refine q_n ?_
      refine w_t rfl ?_
      refine w_seq ?_
      refine w_reg rfl ?_
      refine v_move rfl ?_
      refine v_assign rfl ?_
      refine v_nil ?_
      refine q_n ?_
      refine w_ret (q_r ?_)
      refine r_r rfl ?_
      exact a_i (by rw [wc_1 hv]; simp [firstNZ])
    refine v_guard_on rfl rfl ?_
    refine v_not false rfl rfl ?_
    refine v_pick_f rfl rfl ?_
    refine v_move rfl ?_
    refine v_guard_on rfl rfl ?_
    refine v_move rfl ?_
    refine v_guard_on rfl rfl ?_
    refine v_callb (c69 70 (fun t => ¬ (0 ≤ t ∧ t ≤ 100000)) _ ht (fun t _ => c70 t)) rfl rfl (.cons vw_sl (.cons (vw_fn .nil) .nil)) (fun h6 => ?_) (fun h6 => ?_)
    · refine v_pick_f rfl rfl ?_
      refine v_assign rfl ?_
      refine v_nil ?_
      refine q_n ?_
      refine w_seq ?_
      refine w_seq ?_
      refine w_reg rfl ?_
      refine v_move rfl ?_
      refine v_call (cCodeIf _ _) rfl rfl rfl (.cons vw_v (.cons vw_v .nil)) ?_
      refine v_move rfl ?_
      refine v_call (cCodeIf _ _) rfl rfl rfl (.cons vw_v (.cons vw_v .nil)) ?_
      refine v_lit (flat int [_, _]) (H' := [_, _]) lay36 lay2 rfl rfl ⟨by decide, by decide⟩ rfl rfl ?_
      refine v_call (cFirst [_, _] (Nat.le_of_ble_eq_true rfl)) rfl rfl rfl (.cons (vw_mu2 int_sc int_len rfl (by first | (simp; done) | (simp; omega))) .nil) ?_
      refine v_assign rfl ?_
      refine v_nil ?_
      refine q_n ?_
      refine w_seq ?_
      refine w_reg rfl ?_
      refine v_move rfl ?_
      refine v_neq lay2 rfl rfl (fun h7 => ?_) (fun h7 => ?_)
      rotate_left
      · have hc6 := h7
        exact absurd h7 (by simp [firstNZ])
      have hc6 := h7
      refine v_nil ?_
      refine q_n ?_
      refine w_t rfl ?_
      refine w_seq ?_
      refine w_reg rfl ?_
      refine v_move rfl ?_
      refine v_assign rfl ?_
      refine v_nil ?_
      refine q_n ?_
      refine w_ret (q_r ?_)
      refine r_r rfl ?_
      exact a_i (by rw [wc_1 hv]; simp [firstNZ])
    refine v_pick_f rfl rfl ?_
    refine v_assign rfl ?_
    refine v_nil ?_
    refine q_n ?_
    refine w_seq ?_
    refine w_seq ?_
    refine w_reg rfl ?_
    refine v_move rfl ?_
    refine v_call (cCodeIf _ _) rfl rfl rfl (.cons vw_v (.cons vw_v .nil)) ?_
    refine v_move rfl ?_
    refine v_call (cCodeIf _ _) rfl rfl rfl (.cons vw_v (.cons vw_v .nil)) ?_
    refine v_lit (flat int [_, _]) (H' := [_, _]) lay36 lay2 rfl rfl ⟨by decide, by decide⟩ rfl rfl ?_
    refine v_call (cFirst [_, _] (Nat.le_of_ble_eq_true rfl)) rfl rfl rfl (.cons (vw_mu2 int_sc int_len rfl (by first | (simp; done) | (simp; omega))) .nil) ?_
    refine v_assign rfl ?_
    refine v_nil ?_
    refine q_n ?_
    refine w_seq ?_
    refine w_reg rfl ?_
    refine v_move rfl ?_
    refine v_neq lay2 rfl rfl (fun h8 => ?_) (fun h8 => ?_)
    rotate_left
    · have hc6 := h8
      exact absurd h8 (by simp [firstNZ])
    have hc6 := h8
    refine v_nil ?_
    refine q_n ?_
    refine w_t rfl ?_
    refine w_seq ?_
    refine w_reg rfl ?_
    refine v_move rfl ?_
    refine v_assign rfl ?_
    refine v_nil ?_
    refine q_n ?_
    refine w_ret (q_r ?_)
    refine r_r rfl ?_
    exact a_i (by rw [wc_1 hv]; simp [firstNZ])
  have hv := h1
  refine v_assign rfl ?_
  refine v_nil ?_
  refine q_n ?_
  refine w_seq ?_
  refine w_reg rfl ?_
  refine v_move rfl ?_
  refine v_len_sl lay38 rfl ?_
  refine v_callb (cInR _ _ _) rfl rfl (.cons vw_v (.cons vw_v (.cons vw_v .nil))) (fun h11 => ?_) (fun h11 => ?_)
  rotate_left
  · refine v_not true rfl rfl ?_
    refine v_move rfl ?_
    refine v_guard_off rfl rfl rfl ?_
    refine v_guard_off rfl rfl rfl ?_
    refine v_guard_off rfl rfl rfl ?_
    refine v_guard_off rfl rfl rfl ?_
    refine v_guard_off rfl rfl rfl ?_
    refine v_guard_off rfl rfl rfl ?_
    refine v_pick_t (v := .v (.bool true)) rfl rfl ?_
    refine v_move rfl ?_
    refine v_guard_off rfl rfl rfl ?_
    refine v_guard_off rfl rfl rfl ?_
    refine v_guard_off rfl rfl rfl ?_
    refine v_pick_t (v := .v (.bool true)) rfl rfl ?_
    refine v_move rfl ?_
    refine v_guard_off rfl rfl rfl ?_
    refine v_guard_off rfl rfl rfl ?_
    refine v_pick_t (v := .v (.bool true)) rfl rfl ?_
    refine v_assign rfl ?_
    refine v_nil ?_
    refine q_n ?_
    refine w_seq ?_
    refine w_seq ?_
    refine w_reg rfl ?_
    refine v_move rfl ?_
    refine v_call (cCodeIf _ _) rfl rfl rfl (.cons vw_v (.cons vw_v .nil)) ?_
    refine v_move rfl ?_
    refine v_call (cCodeIf _ _) rfl rfl rfl (.cons vw_v (.cons vw_v .nil)) ?_
    refine v_lit (flat int [_, _]) (H' := [_, _]) lay36 lay2 rfl rfl ⟨by decide, by decide⟩ rfl rfl ?_
    refine v_call (cFirst [_, _] (Nat.le_of_ble_eq_true rfl)) rfl rfl rfl (.cons (vw_mu2 int_sc int_len rfl (by first | (simp; done) | (simp; omega))) .nil) ?_
    refine v_assign rfl ?_
    refine v_nil ?_
    refine q_n ?_
    refine w_seq ?_
    refine w_reg rfl ?_
    refine v_move rfl ?_
    refine v_neq lay2 rfl rfl (fun h24 => ?_) (fun h24 => ?_)
    rotate_left
    · have hc6 := h24
      exact absurd h24 (by simp [firstNZ])
    have hc6 := h24
    refine v_nil ?_
    refine q_n ?_
    refine w_t rfl ?_
    refine w_seq ?_
    refine w_reg rfl ?_
    refine v_move rfl ?_
    refine v_assign rfl ?_
    refine v_nil ?_
    refine q_n ?_
    refine w_ret (q_r ?_)
    refine r_r rfl ?_
    have hrb : rowBad ps ts m := fun h => by
      obtain ⟨g1, g2, g3, g4⟩ := h
      omega
    exact a_i (by rw [wc_2 hv hrb]; simp [firstNZ])
  refine v_not false rfl rfl ?_
  refine v_move rfl ?_
  refine v_guard_on rfl rfl ?_
  refine v_move rfl ?_
  refine v_guard_on rfl rfl ?_
  refine v_len_sl lay36 rfl ?_
  refine v_guard_on rfl rfl ?_
  refine v_move rfl ?_
  refine v_guard_on rfl rfl ?_
  refine v_len_sl lay38 rfl ?_
  refine v_guard_on rfl rfl ?_
  refine v_sub lay3 rfl rfl (i64r (by omega)) ?_
  refine v_guard_on rfl rfl ?_
  refine v_neq lay3 rfl rfl (fun h12 => ?_) (fun h12 => ?_)
  · refine v_pick_f rfl rfl ?_
    refine v_move rfl ?_
    refine v_guard_off rfl rfl rfl ?_
    refine v_guard_off rfl rfl rfl ?_
    refine v_guard_off rfl rfl rfl ?_
    refine v_pick_t (v := .v (.bool true)) rfl rfl ?_
    refine v_move rfl ?_
    refine v_guard_off rfl rfl rfl ?_
    refine v_guard_off rfl rfl rfl ?_
    refine v_pick_t (v := .v (.bool true)) rfl rfl ?_
    refine v_assign rfl ?_
    refine v_nil ?_
    refine q_n ?_
    refine w_seq ?_
    refine w_seq ?_
    refine w_reg rfl ?_
    refine v_move rfl ?_
    refine v_call (cCodeIf _ _) rfl rfl rfl (.cons vw_v (.cons vw_v .nil)) ?_
    refine v_move rfl ?_
    refine v_call (cCodeIf _ _) rfl rfl rfl (.cons vw_v (.cons vw_v .nil)) ?_
    refine v_lit (flat int [_, _]) (H' := [_, _]) lay36 lay2 rfl rfl ⟨by decide, by decide⟩ rfl rfl ?_
    refine v_call (cFirst [_, _] (Nat.le_of_ble_eq_true rfl)) rfl rfl rfl (.cons (vw_mu2 int_sc int_len rfl (by first | (simp; done) | (simp; omega))) .nil) ?_
    refine v_assign rfl ?_
    refine v_nil ?_
    refine q_n ?_
    refine w_seq ?_
    refine w_reg rfl ?_
    refine v_move rfl ?_
    refine v_neq lay2 rfl rfl (fun h13 => ?_) (fun h13 => ?_)
    rotate_left
    · have hc6 := h13
      exact absurd h13 (by simp [firstNZ])
    have hc6 := h13
    refine v_nil ?_
    refine q_n ?_
    refine w_t rfl ?_
    refine w_seq ?_
    refine w_reg rfl ?_
    refine v_move rfl ?_
    refine v_assign rfl ?_
    refine v_nil ?_
    refine q_n ?_
    refine w_ret (q_r ?_)
    refine r_r rfl ?_
    have hrb : rowBad ps ts m := fun h => by
      obtain ⟨g1, g2, g3, g4⟩ := h
      omega
    exact a_i (by rw [wc_2 hv hrb]; simp [firstNZ])
  refine v_pick_f rfl rfl ?_
  refine v_move rfl ?_
  refine v_guard_on rfl rfl ?_
  refine v_load_pt (.c _) lay2 rfl rfl rfl rfl ?_
  refine v_guard_on rfl rfl ?_
  refine v_callb (c68 _) rfl rfl (.cons vw_v .nil) (fun h14 => ?_) (fun h14 => ?_)
  rotate_left
  · refine v_guard_on rfl rfl ?_
    refine v_not true rfl rfl ?_
    refine v_pick_f rfl rfl ?_
    refine v_move rfl ?_
    refine v_guard_off rfl rfl rfl ?_
    refine v_guard_off rfl rfl rfl ?_
    refine v_pick_t (v := .v (.bool true)) rfl rfl ?_
    refine v_assign rfl ?_
    refine v_nil ?_
    refine q_n ?_
    refine w_seq ?_
    refine w_seq ?_
    refine w_reg rfl ?_
    refine v_move rfl ?_
    refine v_call (cCodeIf _ _) rfl rfl rfl (.cons vw_v (.cons vw_v .nil)) ?_
    refine v_move rfl ?_
    refine v_call (cCodeIf _ _) rfl rfl rfl (.cons vw_v (.cons vw_v .nil)) ?_
    refine v_lit (flat int [_, _]) (H' := [_, _]) lay36 lay2 rfl rfl ⟨by decide, by decide⟩ rfl rfl ?_
    refine v_call (cFirst [_, _] (Nat.le_of_ble_eq_true rfl)) rfl rfl rfl (.cons (vw_mu2 int_sc int_len rfl (by first | (simp; done) | (simp; omega))) .nil) ?_
    refine v_assign rfl ?_
    refine v_nil ?_
    refine q_n ?_
    refine w_seq ?_
    refine w_reg rfl ?_
    refine v_move rfl ?_
    refine v_neq lay2 rfl rfl (fun h23 => ?_) (fun h23 => ?_)
    rotate_left
    · have hc6 := h23
      exact absurd h23 (by simp [firstNZ])
    have hc6 := h23
    refine v_nil ?_
    refine q_n ?_
    refine w_t rfl ?_
    refine w_seq ?_
    refine w_reg rfl ?_
    refine v_move rfl ?_
    refine v_assign rfl ?_
    refine v_nil ?_
    refine q_n ?_
    refine w_ret (q_r ?_)
    refine r_r rfl ?_
    have hrb : rowBad ps ts m := fun h => by
      obtain ⟨g1, g2, g3, g4⟩ := h
      omega
    exact a_i (by rw [wc_2 hv hrb]; simp [firstNZ])
  refine v_guard_on rfl rfl ?_
  refine v_not false rfl rfl ?_
  refine v_pick_f rfl rfl ?_
  refine v_move rfl ?_
  refine v_guard_on rfl rfl ?_
  refine v_move rfl ?_
  refine v_guard_on rfl rfl ?_
  refine v_callb (c69 70 (fun t => ¬ (0 ≤ t ∧ t ≤ 100000)) _ ht (fun t _ => c70 t)) rfl rfl (.cons vw_sl (.cons (vw_fn .nil) .nil)) (fun h15 => ?_) (fun h15 => ?_)
  · refine v_pick_f rfl rfl ?_
    refine v_assign rfl ?_
    refine v_nil ?_
    refine q_n ?_
    refine w_seq ?_
    refine w_seq ?_
    refine w_reg rfl ?_
    refine v_move rfl ?_
    refine v_call (cCodeIf _ _) rfl rfl rfl (.cons vw_v (.cons vw_v .nil)) ?_
    refine v_move rfl ?_
    refine v_call (cCodeIf _ _) rfl rfl rfl (.cons vw_v (.cons vw_v .nil)) ?_
    refine v_lit (flat int [_, _]) (H' := [_, _]) lay36 lay2 rfl rfl ⟨by decide, by decide⟩ rfl rfl ?_
    refine v_call (cFirst [_, _] (Nat.le_of_ble_eq_true rfl)) rfl rfl rfl (.cons (vw_mu2 int_sc int_len rfl (by first | (simp; done) | (simp; omega))) .nil) ?_
    refine v_assign rfl ?_
    refine v_nil ?_
    refine q_n ?_
    refine w_seq ?_
    refine w_reg rfl ?_
    refine v_move rfl ?_
    refine v_neq lay2 rfl rfl (fun h16 => ?_) (fun h16 => ?_)
    rotate_left
    · have hc6 := h16
      exact absurd h16 (by simp [firstNZ])
    have hc6 := h16
    refine v_nil ?_
    refine q_n ?_
    refine w_t rfl ?_
    refine w_seq ?_
    refine w_reg rfl ?_
    refine v_move rfl ?_
    refine v_assign rfl ?_
    refine v_nil ?_
    refine q_n ?_
    refine w_ret (q_r ?_)
    refine r_r rfl ?_
    have hrb : rowBad ps ts m := fun h => by
      obtain ⟨g1, g2, g3, g4⟩ := h
      exact (fun ⟨t, h8, h9⟩ => h9 (g4 t h8)) (show ∃ x, x ∈ ts ∧ ¬ (0 ≤ x ∧ x ≤ 100000) from by assumption)
    exact a_i (by rw [wc_2 hv hrb]; simp [firstNZ])
  refine v_pick_f rfl rfl ?_
  refine v_assign rfl ?_
  refine v_nil ?_
  refine q_n ?_
  refine w_seq ?_
  refine w_seq ?_
  refine w_reg rfl ?_
  refine v_move rfl ?_
  refine v_call (cCodeIf _ _) rfl rfl rfl (.cons vw_v (.cons vw_v .nil)) ?_
  refine v_move rfl ?_
  refine v_call (cCodeIf _ _) rfl rfl rfl (.cons vw_v (.cons vw_v .nil)) ?_
  refine v_lit (flat int [_, _]) (H' := [_, _]) lay36 lay2 rfl rfl ⟨by decide, by decide⟩ rfl rfl ?_
  refine v_call (cFirst [_, _] (Nat.le_of_ble_eq_true rfl)) rfl rfl rfl (.cons (vw_mu2 int_sc int_len rfl (by first | (simp; done) | (simp; omega))) .nil) ?_
  refine v_assign rfl ?_
  refine v_nil ?_
  refine q_n ?_
  refine w_seq ?_
  refine w_reg rfl ?_
  refine v_move rfl ?_
  refine v_neq lay2 rfl rfl (fun h17 => ?_) (fun h17 => ?_)
  · have hc6 := h17
    exact absurd (by rfl) h17
  have hc6 := h17
  have hrb : ¬ rowBad ps ts m := fun h => h ⟨by assumption, by omega, by assumption, fun t h8 => Decidable.byContradiction fun h9 => (show ¬ ∃ x, x ∈ ts ∧ ¬ (0 ≤ x ∧ x ≤ 100000) from by assumption) ⟨t, h8, h9⟩⟩
  have hok := all_ok hv
  obtain ⟨r1, r2, r3, r4⟩ := row_good hrb
  have h00 : 0 < ps.length := by omega
  have hk0 := hok _ (List.getElem_mem h00)
  refine v_nil ?_
  refine q_n ?_
  refine w_f rfl ?_
  refine w_skip ?_
  refine q_n ?_
  refine w_seq ?_
  refine w_seq ?_
  refine w_reg rfl ?_
  refine v_move rfl ?_
  refine v_len_sl lay38 rfl ?_
  refine v_move (c := .v (.int .i64 0)) rfl ?_
  refine v_nil ?_
  refine q_n ?_
  refine w_block ?_
  refine w_loop (fun k sl H => ∃ i : Nat, k = ps.length - i ∧ i ≤ ps.length ∧ (∀ p ∈ ps.take i, cyc p.1 p.2.1 = cyc (pa ps 0).1 (pa ps 0).2.1) ∧ sl = sls [(0, .c (pls false ps)), (5, .c (.pt 0 0)), (44, .c (pls false ps)), (45, cI ps.length), (46, cI i)] ∧ H = [⟨[.v (.int .i64 m)], 2, true⟩]) ?_ ?_
  · refine ⟨_, _, _, ?_, 0, rfl, Nat.zero_le _, by simp, rfl, rfl⟩
    exact turn [some 0] rfl rfl rfl ⟨⟨_, rfl, .cons tr_v .nil⟩, trivial⟩ ⟨tr_sl, tr_pt rfl, tr_sl, tr_v, tr_v, trivial⟩
  rintro k sl H ⟨i, rfl, hi, hp, rfl, rfl⟩
  refine w_seq ?_
  refine w_reg rfl ?_
  refine v_lss lay3 rfl rfl (fun h18 => ?_) (fun h18 => ?_)
  rotate_left
  · obtain rfl : i = ps.length := by omega
    rw [List.take_length] at hp
    have hc0 := okP_cyc hk0
    rw [← pa_at h00] at hc0
    have hz : ((cyc (pa ps 0).1 (pa ps 0).2.1).toNat : Int) = cyc (pa ps 0).1 (pa ps 0).2.1 := Int.toNat_of_nonneg (by omega)
    have h71 : ∀ p ∈ ps, PureC X 71 [.agg (plf p), .c (.vw false [.v (.int .i64 m)] 0)] (cB (decide (¬ true ∈ gr0 p.1 p.2.1 m.toNat (cyc (pa ps 0).1 (pa ps 0).2.1).toNat))) := fun p hpm => by
      have h := c71 p (hok p hpm) m.toNat (cyc (pa ps 0).1 (pa ps 0).2.1).toNat (by rw [hz]; exact hp p hpm) (by omega)
      rw [Int.toNat_of_nonneg r3.1] at h
      simpa only [gr0_mem (show 1 ≤ (cyc (pa ps 0).1 (pa ps 0).2.1).toNat by omega)] using h
    refine v_nil ?_
    refine q_n ?_
    refine w_seq ?_
    refine w_f rfl ?_
    refine w_exit ?_
    refine q_e ?_
    refine q_e ?_
    refine q_hit ?_
    refine q_n ?_
    refine w_seq ?_
    refine w_reg rfl ?_
    refine v_move rfl ?_
    refine v_fn rfl ?_
    refine v_callb (c66b 71 _ (fun p => ¬ true ∈ gr0 p.1 p.2.1 m.toNat (cyc (pa ps 0).1 (pa ps 0).2.1).toNat) _ hx h71) rfl rfl (.cons vw_sl (.cons (vw_fn (.cons (vw_pt rfl (.cons .v .nil)) .nil)) .nil)) (fun h22 => ?_) (fun h22 => ?_)
    · have hgb := h22
      refine v_call (cCodeIf _ _) rfl rfl rfl (.cons vw_v (.cons vw_v .nil)) ?_
      refine v_assign rfl ?_
      refine v_nil ?_
      refine q_n ?_
      refine w_ret ?_
      refine r_r rfl ?_
      exact a_i (by rw [wc_6 hv hrb (fun ⟨p, h8, h9⟩ => h9 (hp p h8)) hgb]; rfl)
    have hgb := h22
    refine v_call (cCodeIf _ _) rfl rfl rfl (.cons vw_v (.cons vw_v .nil)) ?_
    refine v_assign rfl ?_
    refine v_nil ?_
    refine q_n ?_
    refine w_ret ?_
    refine r_r rfl ?_
    exact a_i (by rw [wc_0 hv hrb (fun ⟨p, h8, h9⟩ => h9 (hp p h8)) hgb]; rfl)
  have hi1 : i < ps.length := by omega
  have hk := hok _ (List.getElem_mem hi1)
  refine v_nil ?_
  refine q_n ?_
  refine w_seq ?_
  refine w_t rfl ?_
  refine w_skip ?_
  refine q_n ?_
  refine w_seq ?_
  refine w_block ?_
  refine w_seq ?_
  refine w_reg rfl ?_
  refine v_idx_e (k := 3) (i) plc_len lay38 lay28 rfl rfl rfl (rfl) rfl (rfl) (hi1) ?_
  refine v_load_vw (.agg [_, .v _, .v _]) lay28 rfl rfl rfl ?_
  refine v_alloc (m := 1) (H' := [_, ⟨[.v _, .v _, .v _], 28, true⟩]) lay28 rfl rfl ?_
  refine v_store (H' := [_, ⟨[_, _, _], 28, true⟩]) lay28 rfl rfl rfl rfl rfl rfl ?_
  refine v_nil ?_
  refine q_n ?_
  refine w_seq ?_
  refine w_draw [0, 1, 0, 4, 12, 31, 63] [⟨0, 0, []⟩, ⟨1, 0, []⟩, ⟨2, 0, []⟩, ⟨3, 0, []⟩, ⟨4, 0, []⟩, ⟨5, 0, []⟩, ⟨6, 0, []⟩] rfl rfl ?_
  refine d_q rfl rfl rfl rfl rfl ?_
  refine v_load_pt (.agg [_, _, _]) lay28 rfl rfl rfl rfl ?_
  refine v_nil ?_
  refine d_call (c40 _ _ _ hk.1.2.1 (by have := hk.1.2.2; omega) (by have := hk.1.1; omega)) rfl rfl rfl rfl rfl (.cons (vw_agg (.cons vw_sl (.cons vw_v (.cons vw_v .nil)))) .nil) ?_
  refine d_q rfl rfl rfl rfl rfl ?_
  refine v_move rfl ?_
  refine v_nil ?_
  refine d_q rfl rfl rfl rfl rfl ?_
  refine v_idx_e (k := 3) (0) plc_len lay38 lay28 rfl rfl rfl (rfl) rfl (rfl) (h00) ?_
  refine v_nil ?_
  refine d_q rfl rfl rfl rfl rfl ?_
  refine v_load_vw (.agg [_, .v _, .v _]) lay28 rfl rfl rfl ?_
  refine v_nil ?_
  refine d_call (c40 _ _ _ hk0.1.2.1 (by have := hk0.1.2.2; omega) (by have := hk0.1.1; omega)) rfl rfl rfl rfl rfl (.cons (vw_agg (.cons vw_sl (.cons vw_v (.cons vw_v .nil)))) .nil) ?_
  refine d_q rfl rfl rfl rfl rfl ?_
  refine v_neq lay2 rfl rfl (fun h21 => ?_) (fun h21 => ?_)
  · have hcy := h21
    refine v_nil ?_
    refine d_nil ?_
    refine q_n ?_
    refine w_t rfl ?_
    refine w_seq ?_
    refine w_reg rfl ?_
    refine v_assign (c := .v (.int .i64 4)) rfl ?_
    refine v_nil ?_
    refine q_n ?_
    refine w_ret (q_br (q_r (q_r (q_br (q_r ?_)))))
    refine r_r rfl ?_
    exact a_i (wc_4 hv hrb ⟨ps[i], List.getElem_mem hi1, by rw [pa_at h00]; exact hcy⟩).symm
  have hcy := h21
  refine v_nil ?_
  refine d_nil ?_
  refine q_n ?_
  refine w_f rfl ?_
  refine w_skip ?_
  refine q_bn ?_
  refine q_n ?_
  refine w_reg rfl ?_
  refine v_add lay3 rfl rfl (i64r (by omega)) ?_
  refine v_move rfl ?_
  refine v_nil ?_
  refine q_n ?_
  refine ⟨_, _, _, ?_, ⟨i + 1, rfl, by omega, all_step hi1 hp (by rw [pa_at h00]; exact hcy), rfl, rfl⟩, by omega⟩
  exact turn [some 0] rfl rfl rfl ⟨⟨_, rfl, .cons tr_v .nil⟩, trivial⟩ ⟨tr_sl, tr_pt rfl, tr_sl, tr_v, tr_v, trivial⟩
end Go.VL
