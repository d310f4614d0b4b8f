/- Texts of one proof, put together: T2, T3, T4. -/
import Derived.Test.YtejgddephbaenaaM3
namespace Go.VL
open Go.RowKit
set_option maxRecDepth 20000
set_option maxHeartbeats 8000000
/-- A single as data. -/
def Sg (x : Option Nat) : Prop := okF .f32 x ∧ ∀ b, x = some b → b < 2 ^ 32
abbrev Rd := Ca × Option Nat × Option Nat × Option Nat
def rdc (r : Rd) : List C := [.f .f32 (r.1 0), .f .f32 (r.1 1), .f .f32 (r.1 2), .f .f32 (r.1 3), .f .f32 (r.1 4), .f .f32 (r.1 5), .f .f32 (r.1 6), .f .f32 (r.1 7), .f .f32 (r.1 8), .f .f32 (r.1 9), .f .f32 (r.1 10), .f .f32 (r.1 11), .f .f32 (r.1 12), .f .f32 (r.1 13), .f .f32 (r.1 14), .f .f32 (r.1 15), .f .f32 r.2.1, .f .f32 r.2.2.1, .f .f32 r.2.2.2]
theorem rdc_len (r : Rd) : (rdc r).length = 19 := rfl
theorem rdc_sc (r : Rd) : (rdc r).all sc = true := rfl
abbrev rds (o : Bool) (xs : List Rd) : C := .sl o xs.length 19 (flat rdc xs)
def zR : Rd := (fun _ => some 0, some 0, some 0, some 0)
def rW (r : Rd) : Prop := (∀ i (hi : i < 16), Sg (r.1 ⟨i, hi⟩)) ∧ Sg r.2.1 ∧ Sg r.2.2.1 ∧ Sg r.2.2.2
abbrev Jn := Int × Int × Fl × Fo
abbrev jnc (j : Jn) : List C := [.v (.int .i64 j.1), .v (.int .i64 j.2.1), .f .f32 (j.2.2.1 0 0), .f .f32 (j.2.2.1 0 1), .f .f32 (j.2.2.1 0 2), .f .f32 (j.2.2.1 0 3), .f .f32 (j.2.2.1 1 0), .f .f32 (j.2.2.1 1 1), .f .f32 (j.2.2.1 1 2), .f .f32 (j.2.2.1 1 3), .f .f32 (j.2.2.1 2 0), .f .f32 (j.2.2.1 2 1), .f .f32 (j.2.2.1 2 2), .f .f32 (j.2.2.1 2 3), .f .f32 (j.2.2.1 3 0), .f .f32 (j.2.2.1 3 1), .f .f32 (j.2.2.1 3 2), .f .f32 (j.2.2.1 3 3), .f .f32 (j.2.2.2 0), .f .f32 (j.2.2.2 1), .f .f32 (j.2.2.2 2), .f .f32 (j.2.2.2 3)]
def jW (j : Jn) : Prop := (∀ i (hi : i < 4) k (hk : k < 4), Sg (j.2.2.1 ⟨i, hi⟩ ⟨k, hk⟩)) ∧ ∀ i (hi : i < 4), Sg (j.2.2.2 ⟨i, hi⟩)
/-- A joint: its junction, its ins, its outs, its plan. -/
abbrev Jo := Jn × List Int × List Int × Int
abbrev jof (o : Bool) (j : Jo) : List C := [.v (.int .i64 j.1.1), .v (.int .i64 j.1.2.1), .f .f32 (j.1.2.2.1 0 0), .f .f32 (j.1.2.2.1 0 1), .f .f32 (j.1.2.2.1 0 2), .f .f32 (j.1.2.2.1 0 3), .f .f32 (j.1.2.2.1 1 0), .f .f32 (j.1.2.2.1 1 1), .f .f32 (j.1.2.2.1 1 2), .f .f32 (j.1.2.2.1 1 3), .f .f32 (j.1.2.2.1 2 0), .f .f32 (j.1.2.2.1 2 1), .f .f32 (j.1.2.2.1 2 2), .f .f32 (j.1.2.2.1 2 3), .f .f32 (j.1.2.2.1 3 0), .f .f32 (j.1.2.2.1 3 1), .f .f32 (j.1.2.2.1 3 2), .f .f32 (j.1.2.2.1 3 3), .f .f32 (j.1.2.2.2 0), .f .f32 (j.1.2.2.2 1), .f .f32 (j.1.2.2.2 2), .f .f32 (j.1.2.2.2 3),
  .sl o j.2.1.length 1 (flat int j.2.1), .sl o j.2.2.1.length 1 (flat int j.2.2.1), .v (.int .i64 j.2.2.2)]
def joc (j : Jo) : List C := jof true j
theorem joc_len (j : Jo) : (joc j).length = 25 := rfl
theorem joc_sc (j : Jo) : (joc j).all fz = true := rfl
abbrev jos (o : Bool) (js : List Jo) : C := .sl o js.length 25 (flat joc js)
/-- A joint, or the room for one. -/
def ozj : Option Jo → List C
  | none => [.v (.int .i64 0), .v (.int .i64 0), .f .f32 (some 0), .f .f32 (some 0), .f .f32 (some 0), .f .f32 (some 0), .f .f32 (some 0), .f .f32 (some 0), .f .f32 (some 0), .f .f32 (some 0), .f .f32 (some 0), .f .f32 (some 0), .f .f32 (some 0), .f .f32 (some 0), .f .f32 (some 0), .f .f32 (some 0), .f .f32 (some 0), .f .f32 (some 0), .f .f32 (some 0), .f .f32 (some 0), .f .f32 (some 0), .f .f32 (some 0), .v (.slice none 0 0), .v (.slice none 0 0), .v (.int .i64 0)]
  | some j => joc j
theorem ozj_len (o : Option Jo) : (ozj o).length = 25 := by cases o <;> rfl
theorem ozj_sc (o : Option Jo) : (ozj o).all fz = true := by cases o <;> rfl
theorem ozj_set (o : Option Jo) (j : Jo) : setCells (ozj o) 0 (joc j) = joc j := by cases o <;> rfl
theorem ozj_flat (js : List Jo) : flat ozj (js.map some) = flat joc js := by simp [flat, List.flatMap_map, ozj]
abbrev Slo := Ph × Int
def stc (s : Slo) : List C := [.v (.bool (s.1 0)), .v (.bool (s.1 1)), .v (.bool (s.1 2)), .v (.bool (s.1 3)), .v (.bool (s.1 4)), .v (.bool (s.1 5)), .v (.bool (s.1 6)), .v (.bool (s.1 7)), .v (.int .i64 s.2)]
theorem stc_len (s : Slo) : (stc s).length = 9 := rfl
theorem stc_sc (s : Slo) : (stc s).all sc = true := rfl
theorem slo_ext (a b : Slo) : a = b ↔ a.1 = b.1 ∧ a.2 = b.2 := Prod.ext_iff
abbrev sts (o : Bool) (xs : List Slo) : C := .sl o xs.length 9 (flat stc xs)
abbrev pln (o : Bool) (xs : List Slo) (b f : Int) : List C := [sts o xs, .v (.int .i64 b), .v (.int .i64 f)]
def zS : Slo := (fun _ => false, 0)
def zg : Ph := fun _ => false
theorem pl_ld (g : Ph) {i : Nat} (h : i < 8) (h' : i < (pl g).length) : mkV false (sub (bo ((pl g)[i]'h')) 0 1) = some (.c (.v (.bool (g ⟨i, h⟩)))) := by
  rw [pl_get g h]
  rfl
abbrev Pln := List Slo × Int × Int
def plc (p : Pln) : List C := [.sl true p.1.length 9 (flat stc p.1), .v (.int .i64 p.2.1), .v (.int .i64 p.2.2)]
theorem plc_len (p : Pln) : (plc p).length = 3 := rfl
theorem plc_sc (p : Pln) : (plc p).all fz = true := rfl
abbrev plf (p : Pln) : List C := pln false p.1 p.2.1 p.2.2
abbrev pls (o : Bool) (ps : List Pln) : C := .sl o ps.length 3 (flat plc ps)
theorem pln_ext {p q : Pln} : p = q ↔ p.1 = q.1 ∧ p.2.1 = q.2.1 ∧ p.2.2 = q.2.2 := by
  constructor
  · rintro rfl; exact ⟨rfl, rfl, rfl⟩
  · rintro ⟨a, b, c⟩; exact Prod.ext a (Prod.ext b c)
/-- A plan, or the room for one. -/
def ozc : Option Pln → List C
  | none => [.v (.slice none 0 0), .v (.int .i64 0), .v (.int .i64 0)]
  | some p => plc p
theorem ozc_len (o : Option Pln) : (ozc o).length = 3 := by cases o <;> rfl
theorem ozc_sc (o : Option Pln) : (ozc o).all fz = true := by cases o <;> rfl
theorem oz_set (o : Option Pln) {c0 c1 c2 : C} : setCells (ozc o) 0 [c0, c1, c2] = [c0, c1, c2] := by cases o <;> rfl
theorem oz_flat (ps : List Pln) : flat ozc (ps.map some) = flat plc ps := by simp [flat, List.flatMap_map, ozc]
theorem szr_rng {n : Nat} {l : Int} (hl : 0 ≤ l ∧ l ≤ 2 ^ 20) (h : ¬ szr n l < 0) : 0 ≤ szr n l ∧ szr n l ≤ 2 ^ 20 ∧ (n : Int) ≤ l := by
  unfold szr at h ⊢
  split at h
  · omega
  · split <;> omega
/-- What is left behind things of which each has a size. -/
def szG {α : Type} (f : α → Int → Int) : List α → Int → Int
  | [], l => l
  | p :: r, l => if f p l < 0 then -1 else szG f r (f p l)
def szL {α : Type} (f : α → Int → Int) (ps : List α) (l : Int) : Int := if l - ps.length < 0 then -1 else szG f ps (l - ps.length)
theorem szG_at {α : Type} {f : α → Int → Int} {ps : List α} {l : Int} {i : Nat} (h : i < ps.length) : szG f (ps.drop i) l = if f ps[i] l < 0 then -1 else szG f (ps.drop (i + 1)) (f ps[i] l) := by
  rw [List.drop_eq_getElem_cons h, szG]
theorem szG_le {α : Type} {f : α → Int → Int} {W : α → Prop} (hf : ∀ p l, 0 ≤ l ∧ l ≤ 2 ^ 20 → ¬ f p l < 0 → (0 ≤ f p l ∧ f p l ≤ 2 ^ 20) ∧ W p) : ∀ {ps : List α} {l : Int}, 0 ≤ l ∧ l ≤ 2 ^ 20 → ¬ szG f ps l < 0 → (∀ p ∈ ps, W p) ∧ 0 ≤ szG f ps l ∧ szG f ps l ≤ 2 ^ 20
  | [], l, hl, _ => ⟨(fun p hp => by cases hp), hl⟩
  | p :: r, l, hl, h => by
    unfold szG at h ⊢
    split at h
    · exact absurd (show (-1 : Int) < 0 by decide) h
    · rename_i h1
      rw [if_neg h1]
      obtain ⟨h2, h3⟩ := hf p l hl h1
      obtain ⟨k1, k2⟩ := szG_le hf (ps := r) h2 h
      refine ⟨fun q hq => ?_, k2⟩
      rcases List.mem_cons.1 hq with rfl | hq
      · exact h3
      · exact k1 q hq
theorem szL_le {α : Type} {f : α → Int → Int} {W : α → Prop} (hf : ∀ p l, 0 ≤ l ∧ l ≤ 2 ^ 20 → ¬ f p l < 0 → (0 ≤ f p l ∧ f p l ≤ 2 ^ 20) ∧ W p) {ps : List α} {l : Int} (hl : 0 ≤ l ∧ l ≤ 2 ^ 20) (h : ¬ szL f ps l < 0) : ps.length ≤ 2 ^ 20 ∧ (∀ p ∈ ps, W p) ∧ 0 ≤ szL f ps l ∧ szL f ps l ≤ 2 ^ 20 := by
  unfold szL at h ⊢
  split at h
  · exact absurd (show (-1 : Int) < 0 by decide) h
  · rename_i h1
    rw [if_neg h1]
    obtain ⟨k1, k2⟩ := szG_le hf (ps := ps) (l := l - ps.length) ⟨by omega, by omega⟩ h
    exact ⟨by omega, k1, k2⟩
def szJ (j : Jo) (l : Int) : Int := szr j.2.2.1.length (szr j.2.1.length l)
def szP (p : Pln) (l : Int) : Int := szr p.1.length l
theorem szr_neg {n : Nat} {l : Int} (h : l < 0) : szr n l = -1 := by unfold szr; rw [if_pos (by omega)]
theorem szL_neg {α : Type} {f : α → Int → Int} {ps : List α} {l : Int} (h : l < 0) : szL f ps l = -1 := by unfold szL; rw [if_pos (by omega)]
theorem szJ_le (j : Jo) (l : Int) (hl : 0 ≤ l ∧ l ≤ 2 ^ 20) (h : ¬ szJ j l < 0) : (0 ≤ szJ j l ∧ szJ j l ≤ 2 ^ 20) ∧ (j.2.1.length ≤ 2 ^ 20 ∧ j.2.2.1.length ≤ 2 ^ 20) := by
  unfold szJ at h ⊢
  by_cases h1 : szr j.2.1.length l < 0
  · rw [szr_neg h1] at h
    exact absurd (show (-1 : Int) < 0 by decide) h
  · have a := szr_rng hl h1
    have b := szr_rng ⟨a.1, a.2.1⟩ h
    omega
theorem szP_le (p : Pln) (l : Int) (hl : 0 ≤ l ∧ l ≤ 2 ^ 20) (h : ¬ szP p l < 0) : (0 ≤ szP p l ∧ szP p l ≤ 2 ^ 20) ∧ p.1.length ≤ 2 ^ 20 := by
  have a := szr_rng hl h
  unfold szP
  omega
theorem cToFlows (T : Fl) : PureC X 99 [.agg (flc T)] (.agg (flc T)) := by
  refine PureC.of_body (drawD_ok X) (fun _ _ => Go.Proofs.Try.call99 _ _) Go.Proofs.Try.func99 rfl (n := 16) rfl ?_
  refine w_seq ?_
  refine w_reg rfl ?_
  refine v_box (m := 0) (H' := [_]) lay61 rfl rfl rfl ?_
  refine v_alloc (m := 1) (H' := [_, ⟨[.f _ _, .f _ _, .f _ _, .f _ _, .f _ _, .f _ _, .f _ _, .f _ _, .f _ _, .f _ _, .f _ _, .f _ _, .f _ _, .f _ _, .f _ _, .f _ _], 62, true⟩]) lay62 rfl rfl ?_
  refine v_nil ?_
  refine q_n ?_
  refine w_seq ?_
  refine w_reg rfl ?_
  refine v_alloc (m := 2) (H' := [_, _, ⟨[.f _ _, .f _ _, .f _ _, .f _ _, .f _ _, .f _ _, .f _ _, .f _ _, .f _ _, .f _ _, .f _ _, .f _ _, .f _ _, .f _ _, .f _ _, .f _ _], 62, true⟩]) lay62 rfl rfl ?_
  refine v_nil ?_
  refine q_n ?_
  refine w_seq ?_
  refine w_seq ?_
  refine w_reg rfl ?_
  refine v_assign (c := .v (.int .i64 0)) rfl ?_
  refine v_nil ?_
  refine q_n ?_
  refine w_block ?_
  refine w_loop (fun k sl H => ∃ i : Nat, k = 4 - i ∧ i ≤ 4 ∧ sl = sls [(1, .c (.pt 0 0)), (2, .c (.pt 1 0)), (3, .c (.pt 2 0)), (4, cI i)] ∧ H = [⟨flat foc (l4 T), 61, true⟩, ⟨flat foc (l4 (fun _ => fun _ => some 0 : Fl)), 62, true⟩, ⟨flat foc (l4 (mixF i T (fun _ => fun _ => some 0 : Fl))), 62, true⟩]) ?_ ?_
  · refine ⟨_, _, _, ?_, 0, rfl, Nat.zero_le _, rfl, rfl⟩
    exact turn [some 0, some 1, some 2] rfl rfl rfl ⟨⟨_, rfl, trc_flat foc_sc rfl⟩, ⟨_, rfl, trc_flat foc_sc rfl⟩, ⟨_, rfl, trc_flat foc_sc (by rw [mixF_0]; rfl)⟩, trivial⟩ ⟨tr_pt rfl, tr_pt rfl, tr_pt rfl, tr_v, trivial⟩
  rintro k sl H ⟨i, rfl, hi, rfl, rfl⟩
  refine w_seq ?_
  refine w_seq ?_
  refine w_reg rfl ?_
  refine v_move rfl ?_
  refine v_lss lay3 rfl rfl (fun h1 => ?_) (fun h1 => ?_)
  rotate_left
  · refine v_nil ?_
    refine q_n ?_
    refine w_f rfl ?_
    refine w_exit ?_
    refine q_e ?_
    refine q_e ?_
    refine q_hit ?_
    refine q_n ?_
    refine w_seq ?_
    refine w_reg rfl ?_
    refine v_load_pt (.agg [_, _, _, _, _, _, _, _, _, _, _, _, _, _, _, _]) lay62 rfl rfl rfl rfl ?_
    refine v_store (H' := [_, ⟨[_, _, _, _, _, _, _, _, _, _, _, _, _, _, _, _], 62, true⟩, _]) lay62 rfl rfl rfl rfl rfl rfl ?_
    refine v_nil ?_
    refine q_n ?_
    refine w_ret ?_
    refine r_r rfl ?_
    obtain rfl : i = 4 := by omega
    exact a_agg (.cons tr_f (.cons tr_f (.cons tr_f (.cons tr_f (.cons tr_f (.cons tr_f (.cons tr_f (.cons tr_f (.cons tr_f (.cons tr_f (.cons tr_f (.cons tr_f (.cons tr_f (.cons tr_f (.cons tr_f (.cons tr_f .nil))))))))))))))))
  have hi1 : i < 4 := by omega
  refine v_nil ?_
  refine q_n ?_
  refine w_t rfl ?_
  refine w_skip ?_
  refine q_n ?_
  refine w_seq ?_
  refine w_block ?_
  refine w_reg rfl ?_
  refine v_move rfl ?_
  refine v_move rfl ?_
  refine v_idx_arr_e (k := 4) (i) lay61 lay60 rfl rfl rfl (rfl) (hi1) ?_
  refine v_load_flat_e (enc := foc) (ys := l4 T) i 0 (.agg (foc (T ⟨i, hi1⟩))) foc_len lay60 rfl rfl (by omega) hi1 (by decide) (r4_ld T hi1 _) ?_
  refine v_call (cToA4 _) rfl rfl rfl (.cons (vw_agg (.cons vw_f (.cons vw_f (.cons vw_f (.cons vw_f .nil))))) .nil) ?_
  refine v_idx_arr_e (k := 4) (i) lay62 lay60 rfl rfl rfl (rfl) (hi1) ?_
  refine v_store_flat (H' := [_, _, _]) i 0 (T ⟨i, hi1⟩) foc_len lay60 rfl rfl rfl (by omega) (by rw [l4_len]; exact hi1) rfl rfl (rfl) rfl ?_
  refine v_nil ?_
  refine q_bn ?_
  refine q_n ?_
  refine w_reg rfl ?_
  refine v_move rfl ?_
  refine v_add lay3 rfl rfl (i64r (by omega)) ?_
  refine v_assign rfl ?_
  refine v_nil ?_
  refine q_n ?_
  refine ⟨_, _, _, ?_, ⟨i + 1, rfl, by omega, rfl, rfl⟩, by omega⟩
  exact turn [some 0, some 1, some 2] rfl rfl rfl ⟨⟨_, rfl, trc_flat foc_sc rfl⟩, ⟨_, rfl, trc_flat foc_sc rfl⟩, ⟨_, rfl, trc_flat foc_sc (congrArg (flat foc) ((l4_set _ hi1 _).trans (congrArg l4 (mixF_put _ _ hi1))))⟩, trivial⟩ ⟨tr_pt rfl, tr_pt rfl, tr_pt rfl, tr_v, trivial⟩
theorem cEqFlows (T : Fl) (hT : ∀ i (hi : i < 4) k (hk : k < 4), Sg (T ⟨i, hi⟩ ⟨k, hk⟩)) : PureC X 102 [.agg (flc T), .agg (flc T)] (cB (decide True)) := by
  refine PureC.of_body (drawD_ok X) (fun _ _ => Go.Proofs.Try.call102 _ _) Go.Proofs.Try.func102 rfl (n := 18) rfl ?_
  refine w_seq ?_
  refine w_reg rfl ?_
  refine v_box (m := 0) (H' := [_]) lay62 rfl rfl rfl ?_
  refine v_box (m := 1) (H' := [_, _]) lay62 rfl rfl rfl ?_
  refine v_assign (c := .v (.bool false)) rfl ?_
  refine v_nil ?_
  refine q_n ?_
  refine w_seq ?_
  refine w_seq ?_
  refine w_reg rfl ?_
  refine v_assign (c := .v (.int .i64 0)) rfl ?_
  refine v_nil ?_
  refine q_n ?_
  refine w_block ?_
  refine w_loop (fun k sl H => ∃ i : Nat, k = 4 - i ∧ i ≤ 4 ∧ sl = sls [(2, .c (.pt 0 0)), (3, .c (.pt 1 0)), (5, cI i)] ∧ H = [⟨flat foc (l4 T), 62, true⟩, ⟨flat foc (l4 T), 62, true⟩]) ?_ ?_
  · refine ⟨_, _, _, ?_, 0, rfl, Nat.zero_le _, rfl, rfl⟩
    exact turn [some 0, some 1] rfl rfl rfl ⟨⟨_, rfl, trc_flat foc_sc rfl⟩, ⟨_, rfl, trc_flat foc_sc rfl⟩, trivial⟩ ⟨tr_pt rfl, tr_pt rfl, tr_v, trivial⟩
  rintro k sl H ⟨i, rfl, hi, rfl, rfl⟩
  refine w_seq ?_
  refine w_seq ?_
  refine w_reg rfl ?_
  refine v_move rfl ?_
  refine v_lss lay3 rfl rfl (fun h1 => ?_) (fun h1 => ?_)
  rotate_left
  · refine v_nil ?_
    refine q_n ?_
    refine w_f rfl ?_
    refine w_exit ?_
    refine q_e ?_
    refine q_e ?_
    refine q_hit ?_
    refine q_n ?_
    refine w_seq ?_
    refine w_reg rfl ?_
    refine v_assign (c := .v (.bool true)) rfl ?_
    refine v_nil ?_
    refine q_n ?_
    refine w_ret ?_
    refine r_r rfl ?_
    exact a_b ⟨fun _ => trivial, fun _ => rfl⟩
  have hi1 : i < 4 := by omega
  refine v_nil ?_
  refine q_n ?_
  refine w_t rfl ?_
  refine w_skip ?_
  refine q_n ?_
  refine w_seq ?_
  refine w_block ?_
  refine w_seq ?_
  refine w_draw [0, 1, 3, 0, 8, 24, 63, 127] [⟨0, 0, []⟩, ⟨1, 0, []⟩, ⟨2, 0, []⟩, ⟨3, 0, []⟩, ⟨4, 0, []⟩, ⟨5, 0, []⟩, ⟨6, 0, []⟩, ⟨7, 0, []⟩] rfl rfl ?_
  refine d_q rfl rfl rfl rfl rfl ?_
  refine v_move rfl ?_
  refine v_nil ?_
  refine d_q rfl rfl rfl rfl rfl ?_
  refine v_idx_arr_e (k := 4) (i) lay62 lay60 rfl rfl rfl (rfl) (hi1) ?_
  refine v_nil ?_
  refine d_q rfl rfl rfl rfl rfl ?_
  refine v_load_flat_e (enc := foc) (ys := l4 T) i 0 (.agg (foc (T ⟨i, hi1⟩))) foc_len lay60 rfl rfl (by omega) hi1 (by decide) (r4_ld T hi1 _) ?_
  refine v_nil ?_
  refine d_q rfl rfl rfl rfl rfl ?_
  refine v_move rfl ?_
  refine v_nil ?_
  refine d_q rfl rfl rfl rfl rfl ?_
  refine v_idx_arr_e (k := 4) (i) lay62 lay60 rfl rfl rfl (rfl) (hi1) ?_
  refine v_nil ?_
  refine d_q rfl rfl rfl rfl rfl ?_
  refine v_load_flat_e (enc := foc) (ys := l4 T) i 0 (.agg (foc (T ⟨i, hi1⟩))) foc_len lay60 rfl rfl (by omega) hi1 (by decide) (r4_ld T hi1 _) ?_
  refine v_nil ?_
  refine d_callb (cEqA4 _ (fun k hk => (hT i hi1 k hk).1)) rfl rfl rfl rfl (.cons (vw_agg (.cons vw_f (.cons vw_f (.cons vw_f (.cons vw_f .nil))))) (.cons (vw_agg (.cons vw_f (.cons vw_f (.cons vw_f (.cons vw_f .nil))))) .nil)) (fun h2 => ?_) (fun h2 => ?_)
  rotate_left
  · exact absurd trivial h2
  refine d_q rfl rfl rfl rfl rfl ?_
  refine v_not false rfl rfl ?_
  refine v_nil ?_
  refine d_nil ?_
  refine q_n ?_
  refine w_f rfl ?_
  refine w_skip ?_
  refine q_bn ?_
  refine q_n ?_
  refine w_reg rfl ?_
  refine v_move rfl ?_
  refine v_add lay3 rfl rfl (i64r (by omega)) ?_
  refine v_assign rfl ?_
  refine v_nil ?_
  refine q_n ?_
  refine ⟨_, _, _, ?_, ⟨i + 1, rfl, by omega, rfl, rfl⟩, by omega⟩
  exact turn [some 0, some 1] rfl rfl rfl ⟨⟨_, rfl, trc_flat foc_sc rfl⟩, ⟨_, rfl, trc_flat foc_sc rfl⟩, trivial⟩ ⟨tr_pt rfl, tr_pt rfl, tr_v, trivial⟩
theorem cToRoad (r : Rd) : PureC X 56 [.agg (rdc r)] (.agg (rdc r)) := by
  refine PureC.of_body (drawD_ok X) (fun _ _ => Go.Proofs.Try.call56 _ _) Go.Proofs.Try.func56 rfl (n := 18) rfl ?_
  refine w_seq ?_
  refine w_reg rfl ?_
  refine v_box (m := 0) (H' := [_]) lay107 rfl rfl rfl ?_
  refine v_alloc (m := 1) (H' := [_, ⟨[.f _ _, .f _ _, .f _ _, .f _ _, .f _ _, .f _ _, .f _ _, .f _ _, .f _ _, .f _ _, .f _ _, .f _ _, .f _ _, .f _ _, .f _ _, .f _ _, .f _ _, .f _ _, .f _ _], 56, true⟩]) lay56 rfl rfl ?_
  refine v_nil ?_
  refine q_n ?_
  refine w_seq ?_
  refine w_reg rfl ?_
  refine v_alloc (m := 2) (H' := [_, _, ⟨[.f _ _, .f _ _, .f _ _, .f _ _, .f _ _, .f _ _, .f _ _, .f _ _, .f _ _, .f _ _, .f _ _, .f _ _, .f _ _, .f _ _, .f _ _, .f _ _, .f _ _, .f _ _, .f _ _], 56, true⟩]) lay56 rfl rfl ?_
  refine v_nil ?_
  refine q_n ?_
  refine w_seq ?_
  refine w_reg rfl ?_
  refine v_fa_pt (off' := 0) lay107 rfl rfl rfl ?_
  refine v_load_pt (.agg [_, _, _, _, _, _, _, _, _, _, _, _, _, _, _, _]) lay53 rfl rfl rfl rfl ?_
  refine v_call (cToCars _) rfl rfl rfl (.cons (vw_agg (.cons vw_f (.cons vw_f (.cons vw_f (.cons vw_f (.cons vw_f (.cons vw_f (.cons vw_f (.cons vw_f (.cons vw_f (.cons vw_f (.cons vw_f (.cons vw_f (.cons vw_f (.cons vw_f (.cons vw_f (.cons vw_f .nil))))))))))))))))) .nil) ?_
  refine v_fa_pt (off' := 0) lay56 rfl rfl rfl ?_
  refine v_store (H' := [_, _, ⟨[_, _, _, _, _, _, _, _, _, _, _, _, _, _, _, _, _, _, _], 56, true⟩]) lay54 rfl rfl rfl rfl rfl rfl ?_
  refine v_nil ?_
  refine q_n ?_
  refine w_seq ?_
  refine w_reg rfl ?_
  refine v_fa_pt (off' := 16) lay107 rfl rfl rfl ?_
  refine v_load_pt (.c _) lay26 rfl rfl rfl rfl ?_
  refine v_fa_pt (off' := 16) lay56 rfl rfl rfl ?_
  refine v_store (H' := [_, _, ⟨[_, _, _, _, _, _, _, _, _, _, _, _, _, _, _, _, _, _, _], 56, true⟩]) lay26 rfl rfl rfl rfl rfl rfl ?_
  refine v_nil ?_
  refine q_n ?_
  refine w_seq ?_
  refine w_reg rfl ?_
  refine v_fa_pt (off' := 17) lay107 rfl rfl rfl ?_
  refine v_load_pt (.c _) lay26 rfl rfl rfl rfl ?_
  refine v_fa_pt (off' := 17) lay56 rfl rfl rfl ?_
  refine v_store (H' := [_, _, ⟨[_, _, _, _, _, _, _, _, _, _, _, _, _, _, _, _, _, _, _], 56, true⟩]) lay26 rfl rfl rfl rfl rfl rfl ?_
  refine v_nil ?_
  refine q_n ?_
  refine w_seq ?_
  refine w_reg rfl ?_
  refine v_fa_pt (off' := 18) lay107 rfl rfl rfl ?_
  refine v_load_pt (.c _) lay26 rfl rfl rfl rfl ?_
  refine v_fa_pt (off' := 18) lay56 rfl rfl rfl ?_
  refine v_store (H' := [_, _, ⟨[_, _, _, _, _, _, _, _, _, _, _, _, _, _, _, _, _, _, _], 56, true⟩]) lay26 rfl rfl rfl rfl rfl rfl ?_
  refine v_nil ?_
  refine q_n ?_
  refine w_seq ?_
  refine w_reg rfl ?_
  refine v_load_pt (.agg [_, _, _, _, _, _, _, _, _, _, _, _, _, _, _, _, _, _, _]) lay56 rfl rfl rfl rfl ?_
  refine v_store (H' := [_, ⟨[_, _, _, _, _, _, _, _, _, _, _, _, _, _, _, _, _, _, _], 56, true⟩, _]) lay56 rfl rfl rfl rfl rfl rfl ?_
  refine v_nil ?_
  refine q_n ?_
  refine w_ret ?_
  refine r_r rfl ?_
  exact a_agg (.cons tr_f (.cons tr_f (.cons tr_f (.cons tr_f (.cons tr_f (.cons tr_f (.cons tr_f (.cons tr_f (.cons tr_f (.cons tr_f (.cons tr_f (.cons tr_f (.cons tr_f (.cons tr_f (.cons tr_f (.cons tr_f (.cons tr_f (.cons tr_f (.cons tr_f .nil)))))))))))))))))))
theorem cToRoadS (xs : List Rd) (hx : xs.length ≤ 2 ^ 40) : PureC X 19 [.c (.sl false xs.length 19 (flat rdc xs))] (.c (.sl true xs.length 19 (flat rdc xs))) := by
  refine PureC.of_body (drawD_ok X) (fun _ _ => Go.Proofs.Try.call19 _ _) Go.Proofs.Try.func19 rfl (n := 23) rfl ?_
  refine w_seq ?_
  refine w_reg rfl ?_
  refine v_assign rfl ?_
  refine v_nil ?_
  refine q_n ?_
  refine w_seq ?_
  refine w_reg rfl ?_
  refine v_move rfl ?_
  refine v_len_sl lay22 rfl ?_
  refine v_make (enc := rdc) (a0 := zR) (m := 0) (H' := [_]) rfl lay31 lay56 rfl rfl rfl rfl (xs.length) (rfl) (by unfold maxLen; simp only []; omega) rfl rfl ?_
  refine v_assign rfl ?_
  refine v_nil ?_
  refine q_n ?_
  refine w_seq ?_
  refine w_seq ?_
  refine w_reg rfl ?_
  refine v_assign (c := .v (.int .i64 0)) rfl ?_
  refine v_nil ?_
  refine q_n ?_
  refine w_block ?_
  refine w_loop (fun k sl H => ∃ i : Nat, k = xs.length - i ∧ i ≤ xs.length ∧ sl = sls [(0, .c (.sl false xs.length 19 (flat rdc xs))), (3, .c (.mu 0 0 xs.length 19)), (4, cI i)] ∧ H = [⟨flat rdc (xs.take i ++ List.replicate (xs.length - i) zR), 56, true⟩]) ?_ ?_
  · refine ⟨_, _, _, ?_, 0, rfl, Nat.zero_le _, rfl, rfl⟩
    exact turn [some 0] rfl rfl rfl ⟨⟨_, rfl, .stay (stays_flat rdc_sc _)⟩, trivial⟩ ⟨tr_sl, tr_mu rfl, tr_v, trivial⟩
  rintro k sl H ⟨i, rfl, hi, rfl, rfl⟩
  refine w_seq ?_
  refine w_seq ?_
  refine w_reg rfl ?_
  refine v_move rfl ?_
  refine v_move rfl ?_
  refine v_len_sl lay22 rfl ?_
  refine v_lss lay3 rfl rfl (fun h1 => ?_) (fun h1 => ?_)
  rotate_left
  · refine v_nil ?_
    refine q_n ?_
    refine w_f rfl ?_
    refine w_exit ?_
    refine q_e ?_
    refine q_e ?_
    refine q_hit ?_
    refine q_n ?_
    refine w_seq ?_
    refine w_reg rfl ?_
    refine v_move rfl ?_
    refine v_assign rfl ?_
    refine v_nil ?_
    refine q_n ?_
    refine w_ret ?_
    refine r_r rfl ?_
    obtain rfl : i = xs.length := by omega
    exact a_flat (t := 56) rdc_sc rdc_len (by simp) rfl
  have hi1 : i < xs.length := by omega
  refine v_nil ?_
  refine q_n ?_
  refine w_t rfl ?_
  refine w_skip ?_
  refine q_n ?_
  refine w_seq ?_
  refine w_block ?_
  refine w_reg rfl ?_
  refine v_move rfl ?_
  refine v_move rfl ?_
  refine v_move rfl ?_
  refine v_move rfl ?_
  refine v_idx_e (k := 19) (i) rdc_len lay22 lay107 rfl rfl rfl (rfl) rfl (rfl) ((by omega : i < xs.length)) ?_
  refine v_load_vw (.agg [.f _ _, .f _ _, .f _ _, .f _ _, .f _ _, .f _ _, .f _ _, .f _ _, .f _ _, .f _ _, .f _ _, .f _ _, .f _ _, .f _ _, .f _ _, .f _ _, .f _ _, .f _ _, .f _ _]) lay107 rfl rfl rfl ?_
  refine v_call (cToRoad _) rfl rfl rfl (.cons (vw_agg (.cons vw_f (.cons vw_f (.cons vw_f (.cons vw_f (.cons vw_f (.cons vw_f (.cons vw_f (.cons vw_f (.cons vw_f (.cons vw_f (.cons vw_f (.cons vw_f (.cons vw_f (.cons vw_f (.cons vw_f (.cons vw_f (.cons vw_f (.cons vw_f (.cons vw_f .nil)))))))))))))))))))) .nil) ?_
  refine v_idx_mu_e (k := 19) (off := 0) (i) lay31 lay56 rfl rfl rfl (rfl) ((by omega : i < xs.length)) ?_
  refine v_store_flat (H' := [_]) i 0 (xs[i]) rdc_len lay56 rfl rfl rfl (by omega) (by simp; omega) rfl rfl (rfl) rfl ?_
  refine v_nil ?_
  refine q_bn ?_
  refine q_n ?_
  refine w_reg rfl ?_
  refine v_move rfl ?_
  refine v_add lay3 rfl rfl (i64r (by omega)) ?_
  refine v_assign rfl ?_
  refine v_nil ?_
  refine q_n ?_
  refine ⟨_, _, _, ?_, ⟨i + 1, rfl, by omega, rfl, rfl⟩, by omega⟩
  exact turn [some 0] rfl rfl rfl ⟨⟨_, rfl, by rw [fill_step hi1]; exact .stay (stays_flat rdc_sc _)⟩, trivial⟩ ⟨tr_sl, tr_mu rfl, tr_v, trivial⟩
theorem cToFloatS (xs : List (Option Nat)) (hx : xs.length ≤ 2 ^ 40) : PureC X 20 [.c (.sl false xs.length 1 (flat fe xs))] (.c (.sl true xs.length 1 (flat fe xs))) := by
  refine PureC.of_body (drawD_ok X) (fun _ _ => Go.Proofs.Try.call20 _ _) Go.Proofs.Try.func20 rfl (n := 22) rfl ?_
  refine w_seq ?_
  refine w_reg rfl ?_
  refine v_assign rfl ?_
  refine v_nil ?_
  refine q_n ?_
  refine w_seq ?_
  refine w_reg rfl ?_
  refine v_move rfl ?_
  refine v_len_sl lay23 rfl ?_
  refine v_make (enc := fe) (a0 := (some 0)) (m := 0) (H' := [_]) rfl lay23 lay26 rfl rfl rfl rfl (xs.length) (rfl) (by unfold maxLen; simp only []; omega) rfl rfl ?_
  refine v_assign rfl ?_
  refine v_nil ?_
  refine q_n ?_
  refine w_seq ?_
  refine w_seq ?_
  refine w_reg rfl ?_
  refine v_assign (c := .v (.int .i64 0)) rfl ?_
  refine v_nil ?_
  refine q_n ?_
  refine w_block ?_
  refine w_loop (fun k sl H => ∃ i : Nat, k = xs.length - i ∧ i ≤ xs.length ∧ sl = sls [(0, .c (.sl false xs.length 1 (flat fe xs))), (3, .c (.mu 0 0 xs.length 1)), (4, cI i)] ∧ H = [⟨flat fe (xs.take i ++ List.replicate (xs.length - i) (some 0)), 26, true⟩]) ?_ ?_
  · refine ⟨_, _, _, ?_, 0, rfl, Nat.zero_le _, rfl, rfl⟩
    exact turn [some 0] rfl rfl rfl ⟨⟨_, rfl, .stay (stays_flat fe_sc _)⟩, trivial⟩ ⟨tr_sl, tr_mu rfl, tr_v, trivial⟩
  rintro k sl H ⟨i, rfl, hi, rfl, rfl⟩
  refine w_seq ?_
  refine w_seq ?_
  refine w_reg rfl ?_
  refine v_move rfl ?_
  refine v_move rfl ?_
  refine v_len_sl lay23 rfl ?_
  refine v_lss lay3 rfl rfl (fun h1 => ?_) (fun h1 => ?_)
  rotate_left
  · refine v_nil ?_
    refine q_n ?_
    refine w_f rfl ?_
    refine w_exit ?_
    refine q_e ?_
    refine q_e ?_
    refine q_hit ?_
    refine q_n ?_
    refine w_seq ?_
    refine w_reg rfl ?_
    refine v_move rfl ?_
    refine v_assign rfl ?_
    refine v_nil ?_
    refine q_n ?_
    refine w_ret ?_
    refine r_r rfl ?_
    obtain rfl : i = xs.length := by omega
    exact a_flat (t := 26) fe_sc fe_len (by simp) rfl
  have hi1 : i < xs.length := by omega
  refine v_nil ?_
  refine q_n ?_
  refine w_t rfl ?_
  refine w_skip ?_
  refine q_n ?_
  refine w_seq ?_
  refine w_block ?_
  refine w_reg rfl ?_
  refine v_move rfl ?_
  refine v_move rfl ?_
  refine v_move rfl ?_
  refine v_move rfl ?_
  refine v_idx_e (k := 1) (i) fe_len lay23 lay26 rfl rfl rfl (rfl) rfl (rfl) ((by omega : i < xs.length)) ?_
  refine v_load_vw (.c (.f _ _)) lay26 rfl rfl rfl ?_
  refine v_idx_mu_e (k := 1) (off := 0) (i) lay23 lay26 rfl rfl rfl (rfl) ((by omega : i < xs.length)) ?_
  refine v_store_flat (H' := [_]) i 0 (xs[i]) fe_len lay26 rfl rfl rfl (by omega) (by simp; omega) rfl rfl (rfl) rfl ?_
  refine v_nil ?_
  refine q_bn ?_
  refine q_n ?_
  refine w_reg rfl ?_
  refine v_move rfl ?_
  refine v_add lay3 rfl rfl (i64r (by omega)) ?_
  refine v_assign rfl ?_
  refine v_nil ?_
  refine q_n ?_
  refine ⟨_, _, _, ?_, ⟨i + 1, rfl, by omega, rfl, rfl⟩, by omega⟩
  exact turn [some 0] rfl rfl rfl ⟨⟨_, rfl, by rw [fill_step hi1]; exact .stay (stays_flat fe_sc _)⟩, trivial⟩ ⟨tr_sl, tr_mu rfl, tr_v, trivial⟩
theorem cEqRoad (r : Rd) (hW : rW r) : PureC X 64 [.agg (rdc r), .agg (rdc r)] (cB (decide True)) := by
  refine PureC.of_body (drawD_ok X) (fun _ _ => Go.Proofs.Try.call64 _ _) Go.Proofs.Try.func64 rfl (n := 35) rfl ?_
  refine w_seq ?_
  refine w_reg rfl ?_
  refine v_box (m := 0) (H' := [_]) lay56 rfl rfl rfl ?_
  refine v_box (m := 1) (H' := [_, _]) lay56 rfl rfl rfl ?_
  refine v_assign (c := .v (.bool false)) rfl ?_
  refine v_nil ?_
  refine q_n ?_
  refine w_seq ?_
  refine w_seq ?_
  refine w_reg rfl ?_
  refine v_fa_pt (off' := 0) lay56 rfl rfl rfl ?_
  refine v_load_pt (.agg [_, _, _, _, _, _, _, _, _, _, _, _, _, _, _, _]) lay54 rfl rfl rfl rfl ?_
  refine v_fa_pt (off' := 0) lay56 rfl rfl rfl ?_
  refine v_load_pt (.agg [_, _, _, _, _, _, _, _, _, _, _, _, _, _, _, _]) lay54 rfl rfl rfl rfl ?_
  refine v_callb (cEqCars _ (fun i hi => (hW.1 i hi).1)) rfl rfl (.cons (vw_agg (.cons vw_f (.cons vw_f (.cons vw_f (.cons vw_f (.cons vw_f (.cons vw_f (.cons vw_f (.cons vw_f (.cons vw_f (.cons vw_f (.cons vw_f (.cons vw_f (.cons vw_f (.cons vw_f (.cons vw_f (.cons vw_f .nil))))))))))))))))) (.cons (vw_agg (.cons vw_f (.cons vw_f (.cons vw_f (.cons vw_f (.cons vw_f (.cons vw_f (.cons vw_f (.cons vw_f (.cons vw_f (.cons vw_f (.cons vw_f (.cons vw_f (.cons vw_f (.cons vw_f (.cons vw_f (.cons vw_f .nil))))))))))))))))) .nil)) (fun h1 => ?_) (fun h1 => ?_)
  rotate_left
  · exact absurd trivial h1
  refine v_not false rfl rfl ?_
  refine v_nil ?_
  refine q_n ?_
  refine w_f rfl ?_
  refine w_skip ?_
  refine q_n ?_
  refine w_seq ?_
  refine w_seq ?_
  refine w_reg rfl ?_
  refine v_fa_pt (off' := 16) lay56 rfl rfl rfl ?_
  refine v_load_pt (.c _) lay26 rfl rfl rfl rfl ?_
  refine v_conv_ff _ lay26 lay80 rfl (convF_single (by first | exact hW.2.1.1 | exact hW.2.2.1.1 | exact hW.2.2.2.1)) ?_
  refine v_fa_pt (off' := 16) lay56 rfl rfl rfl ?_
  refine v_load_pt (.c _) lay26 rfl rfl rfl rfl ?_
  refine v_conv_ff _ lay26 lay80 rfl (convF_single (by first | exact hW.2.1.1 | exact hW.2.2.1.1 | exact hW.2.2.2.1)) ?_
  refine v_callb (cSF _ (wide_ok (by first | exact hW.2.1.1 | exact hW.2.2.1.1 | exact hW.2.2.2.1))) rfl rfl (.cons vw_f (.cons vw_f .nil)) (fun h2 => ?_) (fun h2 => ?_)
  rotate_left
  · exact absurd trivial h2
  refine v_not false rfl rfl ?_
  refine v_nil ?_
  refine q_n ?_
  refine w_f rfl ?_
  refine w_skip ?_
  refine q_n ?_
  refine w_seq ?_
  refine w_seq ?_
  refine w_reg rfl ?_
  refine v_fa_pt (off' := 17) lay56 rfl rfl rfl ?_
  refine v_load_pt (.c _) lay26 rfl rfl rfl rfl ?_
  refine v_conv_ff _ lay26 lay80 rfl (convF_single (by first | exact hW.2.1.1 | exact hW.2.2.1.1 | exact hW.2.2.2.1)) ?_
  refine v_fa_pt (off' := 17) lay56 rfl rfl rfl ?_
  refine v_load_pt (.c _) lay26 rfl rfl rfl rfl ?_
  refine v_conv_ff _ lay26 lay80 rfl (convF_single (by first | exact hW.2.1.1 | exact hW.2.2.1.1 | exact hW.2.2.2.1)) ?_
  refine v_callb (cSF _ (wide_ok (by first | exact hW.2.1.1 | exact hW.2.2.1.1 | exact hW.2.2.2.1))) rfl rfl (.cons vw_f (.cons vw_f .nil)) (fun h3 => ?_) (fun h3 => ?_)
  rotate_left
  · exact absurd trivial h3
  refine v_not false rfl rfl ?_
  refine v_nil ?_
  refine q_n ?_
  refine w_f rfl ?_
  refine w_skip ?_
  refine q_n ?_
  refine w_seq ?_
  refine w_seq ?_
  refine w_reg rfl ?_
  refine v_fa_pt (off' := 18) lay56 rfl rfl rfl ?_
  refine v_load_pt (.c _) lay26 rfl rfl rfl rfl ?_
  refine v_conv_ff _ lay26 lay80 rfl (convF_single (by first | exact hW.2.1.1 | exact hW.2.2.1.1 | exact hW.2.2.2.1)) ?_
  refine v_fa_pt (off' := 18) lay56 rfl rfl rfl ?_
  refine v_load_pt (.c _) lay26 rfl rfl rfl rfl ?_
  refine v_conv_ff _ lay26 lay80 rfl (convF_single (by first | exact hW.2.1.1 | exact hW.2.2.1.1 | exact hW.2.2.2.1)) ?_
  refine v_callb (cSF _ (wide_ok (by first | exact hW.2.1.1 | exact hW.2.2.1.1 | exact hW.2.2.2.1))) rfl rfl (.cons vw_f (.cons vw_f .nil)) (fun h4 => ?_) (fun h4 => ?_)
  rotate_left
  · exact absurd trivial h4
  refine v_not false rfl rfl ?_
  refine v_nil ?_
  refine q_n ?_
  refine w_f rfl ?_
  refine w_skip ?_
  refine q_n ?_
  refine w_seq ?_
  refine w_reg rfl ?_
  refine v_assign (c := .v (.bool true)) rfl ?_
  refine v_nil ?_
  refine q_n ?_
  refine w_ret ?_
  refine r_r rfl ?_
  exact a_b ⟨fun _ => trivial, fun _ => rfl⟩
theorem cEqRoadS (xs : List Rd) (hx : xs.length ≤ 2 ^ 40) (hw : ∀ x ∈ xs, rW x) : PureC X 31 [.c (.sl false xs.length 19 (flat rdc xs)), .c (.sl false xs.length 19 (flat rdc xs))] (cB (decide True)) := by
  refine PureC.of_body (drawD_ok X) (fun _ _ => Go.Proofs.Try.call31 _ _) Go.Proofs.Try.func31 rfl (n := 27) rfl ?_
  refine w_seq ?_
  refine w_reg rfl ?_
  refine v_assign (c := .v (.bool false)) rfl ?_
  refine v_nil ?_
  refine q_n ?_
  refine w_seq ?_
  refine w_seq ?_
  refine w_reg rfl ?_
  refine v_move rfl ?_
  refine v_len_sl lay31 rfl ?_
  refine v_move rfl ?_
  refine v_len_sl lay31 rfl ?_
  refine v_neq lay3 rfl rfl (fun h1 => ?_) (fun h1 => ?_)
  · exact absurd rfl h1
  refine v_nil ?_
  refine q_n ?_
  refine w_f rfl ?_
  refine w_skip ?_
  refine q_n ?_
  refine w_seq ?_
  refine w_seq ?_
  refine w_reg rfl ?_
  refine v_assign (c := .v (.int .i64 0)) rfl ?_
  refine v_nil ?_
  refine q_n ?_
  refine w_block ?_
  refine w_loop (fun k sl H => ∃ i : Nat, k = xs.length - i ∧ i ≤ xs.length ∧ sl = sls [(0, .c (.sl false xs.length 19 (flat rdc xs))), (1, .c (.sl false xs.length 19 (flat rdc xs))), (5, cI i)] ∧ H = []) ?_ ?_
  · refine ⟨_, _, _, ?_, 0, rfl, Nat.zero_le _, rfl, rfl⟩
    exact turn0 ⟨tr_sl, tr_sl, tr_v, trivial⟩
  rintro k sl H ⟨i, rfl, hi, rfl, rfl⟩
  refine w_seq ?_
  refine w_seq ?_
  refine w_reg rfl ?_
  refine v_move rfl ?_
  refine v_move rfl ?_
  refine v_len_sl lay31 rfl ?_
  refine v_lss lay3 rfl rfl (fun h2 => ?_) (fun h2 => ?_)
  rotate_left
  · refine v_nil ?_
    refine q_n ?_
    refine w_f rfl ?_
    refine w_exit ?_
    refine q_e ?_
    refine q_e ?_
    refine q_hit ?_
    refine q_n ?_
    refine w_seq ?_
    refine w_reg rfl ?_
    refine v_assign (c := .v (.bool true)) rfl ?_
    refine v_nil ?_
    refine q_n ?_
    refine w_ret ?_
    refine r_r rfl ?_
    exact a_b ⟨fun _ => trivial, fun _ => rfl⟩
  have i1 : i < xs.length := by omega
  refine v_nil ?_
  refine q_n ?_
  refine w_t rfl ?_
  refine w_skip ?_
  refine q_n ?_
  refine w_seq ?_
  refine w_block ?_
  refine w_seq ?_
  refine w_draw [0, 0, 3, 7, 0, 0, 48, 112, 255, 511] [⟨0, 0, []⟩, ⟨1, 0, []⟩, ⟨2, 0, []⟩, ⟨3, 0, []⟩, ⟨4, 0, []⟩, ⟨5, 0, []⟩, ⟨6, 0, []⟩, ⟨7, 0, []⟩, ⟨8, 0, []⟩, ⟨9, 0, []⟩] rfl rfl ?_
  refine d_q rfl rfl rfl rfl rfl ?_
  refine v_move rfl ?_
  refine v_nil ?_
  refine d_q rfl rfl rfl rfl rfl ?_
  refine v_move rfl ?_
  refine v_nil ?_
  refine d_q rfl rfl rfl rfl rfl ?_
  refine v_idx_e (k := 19) (i) rdc_len lay31 lay56 rfl rfl rfl (rfl) rfl (rfl) (i1) ?_
  refine v_nil ?_
  refine d_q rfl rfl rfl rfl rfl ?_
  refine v_load_vw (.agg [.f _ _, .f _ _, .f _ _, .f _ _, .f _ _, .f _ _, .f _ _, .f _ _, .f _ _, .f _ _, .f _ _, .f _ _, .f _ _, .f _ _, .f _ _, .f _ _, .f _ _, .f _ _, .f _ _]) lay56 rfl rfl rfl ?_
  refine v_nil ?_
  refine d_q rfl rfl rfl rfl rfl ?_
  refine v_move rfl ?_
  refine v_nil ?_
  refine d_q rfl rfl rfl rfl rfl ?_
  refine v_move rfl ?_
  refine v_nil ?_
  refine d_q rfl rfl rfl rfl rfl ?_
  refine v_idx_e (k := 19) (i) rdc_len lay31 lay56 rfl rfl rfl (rfl) rfl (rfl) (i1) ?_
  refine v_nil ?_
  refine d_q rfl rfl rfl rfl rfl ?_
  refine v_load_vw (.agg [.f _ _, .f _ _, .f _ _, .f _ _, .f _ _, .f _ _, .f _ _, .f _ _, .f _ _, .f _ _, .f _ _, .f _ _, .f _ _, .f _ _, .f _ _, .f _ _, .f _ _, .f _ _, .f _ _]) lay56 rfl rfl rfl ?_
  refine v_nil ?_
  refine d_callb (cEqRoad _ (hw _ (List.getElem_mem i1))) rfl rfl rfl rfl (.cons (vw_agg (.cons vw_f (.cons vw_f (.cons vw_f (.cons vw_f (.cons vw_f (.cons vw_f (.cons vw_f (.cons vw_f (.cons vw_f (.cons vw_f (.cons vw_f (.cons vw_f (.cons vw_f (.cons vw_f (.cons vw_f (.cons vw_f (.cons vw_f (.cons vw_f (.cons vw_f .nil)))))))))))))))))))) (.cons (vw_agg (.cons vw_f (.cons vw_f (.cons vw_f (.cons vw_f (.cons vw_f (.cons vw_f (.cons vw_f (.cons vw_f (.cons vw_f (.cons vw_f (.cons vw_f (.cons vw_f (.cons vw_f (.cons vw_f (.cons vw_f (.cons vw_f (.cons vw_f (.cons vw_f (.cons vw_f .nil)))))))))))))))))))) .nil)) (fun h5 => ?_) (fun h5 => ?_)
  rotate_left
  · exact absurd trivial h5
  refine d_q rfl rfl rfl rfl rfl ?_
  refine v_not false rfl rfl ?_
  refine v_nil ?_
  refine d_nil ?_
  refine q_n ?_
  refine w_f rfl ?_
  refine w_skip ?_
  refine q_bn ?_
  refine q_n ?_
  refine w_reg rfl ?_
  refine v_move rfl ?_
  refine v_add lay3 rfl rfl (i64r (by omega)) ?_
  refine v_assign rfl ?_
  refine v_nil ?_
  refine q_n ?_
  refine ⟨_, _, _, ?_, ⟨i + 1, rfl, by omega, rfl, rfl⟩, by omega⟩
  exact turn0 ⟨tr_sl, tr_sl, tr_v, trivial⟩
theorem cEqFloatS (xs : List (Option Nat)) (hx : xs.length ≤ 2 ^ 40) (hw : ∀ x ∈ xs, Sg x) : PureC X 32 [.c (.sl false xs.length 1 (flat fe xs)), .c (.sl false xs.length 1 (flat fe xs))] (cB (decide True)) := by
  refine PureC.of_body (drawD_ok X) (fun _ _ => Go.Proofs.Try.call32 _ _) Go.Proofs.Try.func32 rfl (n := 29) rfl ?_
  refine w_seq ?_
  refine w_reg rfl ?_
  refine v_assign (c := .v (.bool false)) rfl ?_
  refine v_nil ?_
  refine q_n ?_
  refine w_seq ?_
  refine w_seq ?_
  refine w_reg rfl ?_
  refine v_move rfl ?_
  refine v_len_sl lay23 rfl ?_
  refine v_move rfl ?_
  refine v_len_sl lay23 rfl ?_
  refine v_neq lay3 rfl rfl (fun h1 => ?_) (fun h1 => ?_)
  · exact absurd rfl h1
  refine v_nil ?_
  refine q_n ?_
  refine w_f rfl ?_
  refine w_skip ?_
  refine q_n ?_
  refine w_seq ?_
  refine w_seq ?_
  refine w_reg rfl ?_
  refine v_assign (c := .v (.int .i64 0)) rfl ?_
  refine v_nil ?_
  refine q_n ?_
  refine w_block ?_
  refine w_loop (fun k sl H => ∃ i : Nat, k = xs.length - i ∧ i ≤ xs.length ∧ sl = sls [(0, .c (.sl false xs.length 1 (flat fe xs))), (1, .c (.sl false xs.length 1 (flat fe xs))), (5, cI i)] ∧ H = []) ?_ ?_
  · refine ⟨_, _, _, ?_, 0, rfl, Nat.zero_le _, rfl, rfl⟩
    exact turn0 ⟨tr_sl, tr_sl, tr_v, trivial⟩
  rintro k sl H ⟨i, rfl, hi, rfl, rfl⟩
  refine w_seq ?_
  refine w_seq ?_
  refine w_reg rfl ?_
  refine v_move rfl ?_
  refine v_move rfl ?_
  refine v_len_sl lay23 rfl ?_
  refine v_lss lay3 rfl rfl (fun h2 => ?_) (fun h2 => ?_)
  rotate_left
  · refine v_nil ?_
    refine q_n ?_
    refine w_f rfl ?_
    refine w_exit ?_
    refine q_e ?_
    refine q_e ?_
    refine q_hit ?_
    refine q_n ?_
    refine w_seq ?_
    refine w_reg rfl ?_
    refine v_assign (c := .v (.bool true)) rfl ?_
    refine v_nil ?_
    refine q_n ?_
    refine w_ret ?_
    refine r_r rfl ?_
    exact a_b ⟨fun _ => trivial, fun _ => rfl⟩
  have i1 : i < xs.length := by omega
  refine v_nil ?_
  refine q_n ?_
  refine w_t rfl ?_
  refine w_skip ?_
  refine q_n ?_
  refine w_seq ?_
  refine w_block ?_
  refine w_seq ?_
  refine w_draw [0, 0, 3, 7, 15, 0, 0, 96, 224, 480, 1023, 2047] [⟨0, 0, []⟩, ⟨1, 0, []⟩, ⟨2, 0, []⟩, ⟨3, 0, []⟩, ⟨4, 0, []⟩, ⟨5, 0, []⟩, ⟨6, 0, []⟩, ⟨7, 0, []⟩, ⟨8, 0, []⟩, ⟨9, 0, []⟩, ⟨10, 0, []⟩, ⟨11, 0, []⟩] rfl rfl ?_
  refine d_q rfl rfl rfl rfl rfl ?_
  refine v_move rfl ?_
  refine v_nil ?_
  refine d_q rfl rfl rfl rfl rfl ?_
  refine v_move rfl ?_
  refine v_nil ?_
  refine d_q rfl rfl rfl rfl rfl ?_
  refine v_idx_e (k := 1) (i) fe_len lay23 lay26 rfl rfl rfl (rfl) rfl (rfl) (i1) ?_
  refine v_nil ?_
  refine d_q rfl rfl rfl rfl rfl ?_
  refine v_load_vw (.c (.f _ _)) lay26 rfl rfl rfl ?_
  refine v_nil ?_
  refine d_q rfl rfl rfl rfl rfl ?_
  refine v_conv_ff _ lay26 lay80 rfl (convF_single (hw _ (List.getElem_mem i1)).1) ?_
  refine v_nil ?_
  refine d_q rfl rfl rfl rfl rfl ?_
  refine v_move rfl ?_
  refine v_nil ?_
  refine d_q rfl rfl rfl rfl rfl ?_
  refine v_move rfl ?_
  refine v_nil ?_
  refine d_q rfl rfl rfl rfl rfl ?_
  refine v_idx_e (k := 1) (i) fe_len lay23 lay26 rfl rfl rfl (rfl) rfl (rfl) (i1) ?_
  refine v_nil ?_
  refine d_q rfl rfl rfl rfl rfl ?_
  refine v_load_vw (.c (.f _ _)) lay26 rfl rfl rfl ?_
  refine v_nil ?_
  refine d_q rfl rfl rfl rfl rfl ?_
  refine v_conv_ff _ lay26 lay80 rfl (convF_single (hw _ (List.getElem_mem i1)).1) ?_
  refine v_nil ?_
  refine d_callb (cSF _ (wide_ok (hw _ (List.getElem_mem i1)).1)) rfl rfl rfl rfl (.cons vw_f (.cons vw_f .nil)) (fun h5 => ?_) (fun h5 => ?_)
  rotate_left
  · exact absurd trivial h5
  refine d_q rfl rfl rfl rfl rfl ?_
  refine v_not false rfl rfl ?_
  refine v_nil ?_
  refine d_nil ?_
  refine q_n ?_
  refine w_f rfl ?_
  refine w_skip ?_
  refine q_bn ?_
  refine q_n ?_
  refine w_reg rfl ?_
  refine v_move rfl ?_
  refine v_add lay3 rfl rfl (i64r (by omega)) ?_
  refine v_assign rfl ?_
  refine v_nil ?_
  refine q_n ?_
  refine ⟨_, _, _, ?_, ⟨i + 1, rfl, by omega, rfl, rfl⟩, by omega⟩
  exact turn0 ⟨tr_sl, tr_sl, tr_v, trivial⟩
theorem cSzRoadS (xs : List Rd) (l : Int) (hl : 0 ≤ l ∧ l ≤ 2 ^ 20) (hx : xs.length ≤ maxLen) : PureC X 14 [.c (.sl false xs.length 19 (flat rdc xs)), cI l] (cI (szr xs.length l)) := by
  refine PureC.of_body (drawD_ok X) (fun _ _ => Go.Proofs.Try.call14 _ _) Go.Proofs.Try.func14 rfl (n := 12) rfl ?_
  refine w_seq ?_
  refine w_reg rfl ?_
  refine v_assign (c := .v (.int .i64 0)) rfl ?_
  refine v_nil ?_
  refine q_n ?_
  refine w_seq ?_
  refine w_reg rfl ?_
  refine v_move rfl ?_
  refine v_move rfl ?_
  refine v_len_sl lay22 rfl ?_
  refine v_sub lay3 rfl rfl (i64r (by unfold maxLen at hx; omega)) ?_
  refine v_assign rfl ?_
  refine v_nil ?_
  refine q_n ?_
  refine w_seq ?_
  refine w_seq ?_
  refine w_reg rfl ?_
  refine v_move rfl ?_
  refine v_lss lay3 rfl rfl (fun h1 => ?_) (fun h1 => ?_)
  · refine v_nil ?_
    refine q_n ?_
    refine w_t rfl ?_
    refine w_seq ?_
    refine w_reg rfl ?_
    refine v_assign (c := .v (.int .i64 (-1))) rfl ?_
    refine v_nil ?_
    refine q_n ?_
    refine w_ret (q_r ?_)
    refine r_r rfl ?_
    exact a_i (by unfold szr; rw [if_pos h1])
  refine v_nil ?_
  refine q_n ?_
  refine w_f rfl ?_
  refine w_skip ?_
  refine q_n ?_
  refine w_seq ?_
  refine w_reg rfl ?_
  refine v_move rfl ?_
  refine v_assign rfl ?_
  refine v_nil ?_
  refine q_n ?_
  refine w_ret ?_
  refine r_r rfl ?_
  exact a_i (by unfold szr; rw [if_neg h1])
theorem cSzFloatS (xs : List (Option Nat)) (l : Int) (hl : 0 ≤ l ∧ l ≤ 2 ^ 20) (hx : xs.length ≤ maxLen) : PureC X 15 [.c (.sl false xs.length 1 (flat fe xs)), cI l] (cI (szr xs.length l)) := by
  refine PureC.of_body (drawD_ok X) (fun _ _ => Go.Proofs.Try.call15 _ _) Go.Proofs.Try.func15 rfl (n := 12) rfl ?_
  refine w_seq ?_
  refine w_reg rfl ?_
  refine v_assign (c := .v (.int .i64 0)) rfl ?_
  refine v_nil ?_
  refine q_n ?_
  refine w_seq ?_
  refine w_reg rfl ?_
  refine v_move rfl ?_
  refine v_move rfl ?_
  refine v_len_sl lay23 rfl ?_
  refine v_sub lay3 rfl rfl (i64r (by unfold maxLen at hx; omega)) ?_
  refine v_assign rfl ?_
  refine v_nil ?_
  refine q_n ?_
  refine w_seq ?_
  refine w_seq ?_
  refine w_reg rfl ?_
  refine v_move rfl ?_
  refine v_lss lay3 rfl rfl (fun h1 => ?_) (fun h1 => ?_)
  · refine v_nil ?_
    refine q_n ?_
    refine w_t rfl ?_
    refine w_seq ?_
    refine w_reg rfl ?_
    refine v_assign (c := .v (.int .i64 (-1))) rfl ?_
    refine v_nil ?_
    refine q_n ?_
    refine w_ret (q_r ?_)
    refine r_r rfl ?_
    exact a_i (by unfold szr; rw [if_pos h1])
  refine v_nil ?_
  refine q_n ?_
  refine w_f rfl ?_
  refine w_skip ?_
  refine q_n ?_
  refine w_seq ?_
  refine w_reg rfl ?_
  refine v_move rfl ?_
  refine v_assign rfl ?_
  refine v_nil ?_
  refine q_n ?_
  refine w_ret ?_
  refine r_r rfl ?_
  exact a_i (by unfold szr; rw [if_neg h1])
theorem cSzIntS (xs : List Int) (l : Int) (hl : 0 ≤ l ∧ l ≤ 2 ^ 20) (hx : xs.length ≤ maxLen) : PureC X 77 [.c (.sl false xs.length 1 (flat int xs)), cI l] (cI (szr xs.length l)) := by
  refine PureC.of_body (drawD_ok X) (fun _ _ => Go.Proofs.Try.call77 _ _) Go.Proofs.Try.func77 rfl (n := 12) rfl ?_
  refine w_seq ?_
  refine w_reg rfl ?_
  refine v_assign (c := .v (.int .i64 0)) rfl ?_
  refine v_nil ?_
  refine q_n ?_
  refine w_seq ?_
  refine w_reg rfl ?_
  refine v_move rfl ?_
  refine v_move rfl ?_
  refine v_len_sl lay66 rfl ?_
  refine v_sub lay3 rfl rfl (i64r (by unfold maxLen at hx; omega)) ?_
  refine v_assign rfl ?_
  refine v_nil ?_
  refine q_n ?_
  refine w_seq ?_
  refine w_seq ?_
  refine w_reg rfl ?_
  refine v_move rfl ?_
  refine v_lss lay3 rfl rfl (fun h1 => ?_) (fun h1 => ?_)
  · refine v_nil ?_
    refine q_n ?_
    refine w_t rfl ?_
    refine w_seq ?_
    refine w_reg rfl ?_
    refine v_assign (c := .v (.int .i64 (-1))) rfl ?_
    refine v_nil ?_
    refine q_n ?_
    refine w_ret (q_r ?_)
    refine r_r rfl ?_
    exact a_i (by unfold szr; rw [if_pos h1])
  refine v_nil ?_
  refine q_n ?_
  refine w_f rfl ?_
  refine w_skip ?_
  refine q_n ?_
  refine w_seq ?_
  refine w_reg rfl ?_
  refine v_move rfl ?_
  refine v_assign rfl ?_
  refine v_nil ?_
  refine q_n ?_
  refine w_ret ?_
  refine r_r rfl ?_
  exact a_i (by unfold szr; rw [if_neg h1])
theorem cSzSlotS (xs : List Slo) (l : Int) (hl : 0 ≤ l ∧ l ≤ 2 ^ 20) (hx : xs.length ≤ maxLen) : PureC X 78 [.c (.sl false xs.length 9 (flat stc xs)), cI l] (cI (szr xs.length l)) := by
  refine PureC.of_body (drawD_ok X) (fun _ _ => Go.Proofs.Try.call78 _ _) Go.Proofs.Try.func78 rfl (n := 12) rfl ?_
  refine w_seq ?_
  refine w_reg rfl ?_
  refine v_assign (c := .v (.int .i64 0)) rfl ?_
  refine v_nil ?_
  refine q_n ?_
  refine w_seq ?_
  refine w_reg rfl ?_
  refine v_move rfl ?_
  refine v_move rfl ?_
  refine v_len_sl lay96 rfl ?_
  refine v_sub lay3 rfl rfl (i64r (by unfold maxLen at hx; omega)) ?_
  refine v_assign rfl ?_
  refine v_nil ?_
  refine q_n ?_
  refine w_seq ?_
  refine w_seq ?_
  refine w_reg rfl ?_
  refine v_move rfl ?_
  refine v_lss lay3 rfl rfl (fun h1 => ?_) (fun h1 => ?_)
  · refine v_nil ?_
    refine q_n ?_
    refine w_t rfl ?_
    refine w_seq ?_
    refine w_reg rfl ?_
    refine v_assign (c := .v (.int .i64 (-1))) rfl ?_
    refine v_nil ?_
    refine q_n ?_
    refine w_ret (q_r ?_)
    refine r_r rfl ?_
    exact a_i (by unfold szr; rw [if_pos h1])
  refine v_nil ?_
  refine q_n ?_
  refine w_f rfl ?_
  refine w_skip ?_
  refine q_n ?_
  refine w_seq ?_
  refine w_reg rfl ?_
  refine v_move rfl ?_
  refine v_assign rfl ?_
  refine v_nil ?_
  refine q_n ?_
  refine w_ret ?_
  refine r_r rfl ?_
  exact a_i (by unfold szr; rw [if_neg h1])
theorem cToPhase (g : Ph) : PureC X 110 [.agg (phc g)] (.agg (phc g)) := by
  refine PureC.of_body (drawD_ok X) (fun _ _ => Go.Proofs.Try.call110 _ _) Go.Proofs.Try.func110 rfl (n := 15) rfl ?_
  refine w_seq ?_
  refine w_reg rfl ?_
  refine v_box (m := 0) (H' := [_]) lay114 rfl rfl rfl ?_
  refine v_alloc (m := 1) (H' := [_, ⟨[.v _, .v _, .v _, .v _, .v _, .v _, .v _, .v _], 115, true⟩]) lay115 rfl rfl ?_
  refine v_nil ?_
  refine q_n ?_
  refine w_seq ?_
  refine w_reg rfl ?_
  refine v_alloc (m := 2) (H' := [_, _, ⟨[.v _, .v _, .v _, .v _, .v _, .v _, .v _, .v _], 115, true⟩]) lay115 rfl rfl ?_
  refine v_nil ?_
  refine q_n ?_
  refine w_seq ?_
  refine w_seq ?_
  refine w_reg rfl ?_
  refine v_assign (c := .v (.int .i64 0)) rfl ?_
  refine v_nil ?_
  refine q_n ?_
  refine w_block ?_
  refine w_loop (fun k sl H => ∃ i : Nat, k = 8 - i ∧ i ≤ 8 ∧ sl = sls [(1, .c (.pt 0 0)), (2, .c (.pt 1 0)), (3, .c (.pt 2 0)), (4, cI i)] ∧ H = [⟨flat bo (pl g), 114, true⟩, ⟨flat bo (pl zg), 115, true⟩, ⟨flat bo (pl (mixG i g zg)), 115, true⟩]) ?_ ?_
  · refine ⟨_, _, _, ?_, 0, rfl, Nat.zero_le _, rfl, rfl⟩
    exact turn [some 0, some 1, some 2] rfl rfl rfl ⟨⟨_, rfl, trc_flat bo_sc rfl⟩, ⟨_, rfl, trc_flat bo_sc rfl⟩, ⟨_, rfl, trc_flat bo_sc (by rw [mix_0]; rfl)⟩, trivial⟩ ⟨tr_pt rfl, tr_pt rfl, tr_pt rfl, tr_v, trivial⟩
  rintro k sl H ⟨i, rfl, hi, rfl, rfl⟩
  refine w_seq ?_
  refine w_seq ?_
  refine w_reg rfl ?_
  refine v_move rfl ?_
  refine v_lss lay3 rfl rfl (fun h1 => ?_) (fun h1 => ?_)
  rotate_left
  · refine v_nil ?_
    refine q_n ?_
    refine w_f rfl ?_
    refine w_exit ?_
    refine q_e ?_
    refine q_e ?_
    refine q_hit ?_
    refine q_n ?_
    refine w_seq ?_
    refine w_reg rfl ?_
    refine v_load_pt (.agg [_, _, _, _, _, _, _, _]) lay115 rfl rfl rfl rfl ?_
    refine v_store (H' := [_, ⟨[_, _, _, _, _, _, _, _], 115, true⟩, _]) lay115 rfl rfl rfl rfl rfl rfl ?_
    refine v_nil ?_
    refine q_n ?_
    refine w_ret ?_
    refine r_r rfl ?_
    obtain rfl : i = 8 := by omega
    exact a_agg (.cons tr_v (.cons tr_v (.cons tr_v (.cons tr_v (.cons tr_v (.cons tr_v (.cons tr_v (.cons tr_v .nil))))))))
  have hi1 : i < 8 := by omega
  refine v_nil ?_
  refine q_n ?_
  refine w_t rfl ?_
  refine w_skip ?_
  refine q_n ?_
  refine w_seq ?_
  refine w_block ?_
  refine w_reg rfl ?_
  refine v_move rfl ?_
  refine v_move rfl ?_
  refine v_idx_arr_e (k := 1) (i) lay114 lay4 rfl rfl rfl (rfl) (hi1) ?_
  refine v_load_flat_e (enc := bo) (ys := pl g) i 0 (.c (.v (.bool (g ⟨i, hi1⟩)))) bo_len lay4 rfl rfl (by omega) hi1 (by decide) (pl_ld g hi1 _) ?_
  refine v_idx_arr_e (k := 1) (i) lay115 lay4 rfl rfl rfl (rfl) (hi1) ?_
  refine v_store_flat (H' := [_, _, _]) i 0 (g ⟨i, hi1⟩) bo_len lay4 rfl rfl rfl (by omega) (by rw [pl_len]; exact hi1) rfl rfl (rfl) rfl ?_
  refine v_nil ?_
  refine q_bn ?_
  refine q_n ?_
  refine w_reg rfl ?_
  refine v_move rfl ?_
  refine v_add lay3 rfl rfl (i64r (by omega)) ?_
  refine v_assign rfl ?_
  refine v_nil ?_
  refine q_n ?_
  refine ⟨_, _, _, ?_, ⟨i + 1, rfl, by omega, rfl, rfl⟩, by omega⟩
  exact turn [some 0, some 1, some 2] rfl rfl rfl ⟨⟨_, rfl, trc_flat bo_sc rfl⟩, ⟨_, rfl, trc_flat bo_sc rfl⟩, ⟨_, rfl, trc_flat bo_sc (congrArg (flat bo) ((pl_set _ hi1 _).trans (congrArg pl (mix_put _ _ hi1))))⟩, trivial⟩ ⟨tr_pt rfl, tr_pt rfl, tr_pt rfl, tr_v, trivial⟩
theorem cToSlot (s : Slo) : PureC X 101 [.agg (stc s)] (.agg (stc s)) := by
  refine PureC.of_body (drawD_ok X) (fun _ _ => Go.Proofs.Try.call101 _ _) Go.Proofs.Try.func101 rfl (n := 12) rfl ?_
  refine w_seq ?_
  refine w_reg rfl ?_
  refine v_box (m := 0) (H' := [_]) lay147 rfl rfl rfl ?_
  refine v_alloc (m := 1) (H' := [_, ⟨[.v _, .v _, .v _, .v _, .v _, .v _, .v _, .v _, .v _], 117, true⟩]) lay117 rfl rfl ?_
  refine v_nil ?_
  refine q_n ?_
  refine w_seq ?_
  refine w_reg rfl ?_
  refine v_alloc (m := 2) (H' := [_, _, ⟨[.v _, .v _, .v _, .v _, .v _, .v _, .v _, .v _, .v _], 117, true⟩]) lay117 rfl rfl ?_
  refine v_nil ?_
  refine q_n ?_
  refine w_seq ?_
  refine w_reg rfl ?_
  refine v_fa_pt (off' := 0) lay147 rfl rfl rfl ?_
  refine v_load_pt (.agg [_, _, _, _, _, _, _, _]) lay114 rfl rfl rfl rfl ?_
  refine v_call (cToPhase _) rfl rfl rfl (.cons (vw_agg (.cons vw_v (.cons vw_v (.cons vw_v (.cons vw_v (.cons vw_v (.cons vw_v (.cons vw_v (.cons vw_v .nil))))))))) .nil) ?_
  refine v_fa_pt (off' := 0) lay117 rfl rfl rfl ?_
  refine v_store (H' := [_, _, ⟨[_, _, _, _, _, _, _, _, _], 117, true⟩]) lay115 rfl rfl rfl rfl rfl rfl ?_
  refine v_nil ?_
  refine q_n ?_
  refine w_seq ?_
  refine w_reg rfl ?_
  refine v_fa_pt (off' := 8) lay147 rfl rfl rfl ?_
  refine v_load_pt (.c _) lay2 rfl rfl rfl rfl ?_
  refine v_fa_pt (off' := 8) lay117 rfl rfl rfl ?_
  refine v_store (H' := [_, _, ⟨[_, _, _, _, _, _, _, _, _], 117, true⟩]) lay2 rfl rfl rfl rfl rfl rfl ?_
  refine v_nil ?_
  refine q_n ?_
  refine w_seq ?_
  refine w_reg rfl ?_
  refine v_load_pt (.agg [_, _, _, _, _, _, _, _, _]) lay117 rfl rfl rfl rfl ?_
  refine v_store (H' := [_, ⟨[_, _, _, _, _, _, _, _, _], 117, true⟩, _]) lay117 rfl rfl rfl rfl rfl rfl ?_
  refine v_nil ?_
  refine q_n ?_
  refine w_ret ?_
  refine r_r rfl ?_
  exact a_agg (.cons tr_v (.cons tr_v (.cons tr_v (.cons tr_v (.cons tr_v (.cons tr_v (.cons tr_v (.cons tr_v (.cons tr_v .nil)))))))))
theorem cToSlotS (xs : List Slo) (hx : xs.length ≤ 2 ^ 40) : PureC X 85 [.c (.sl false xs.length 9 (flat stc xs))] (.c (.sl true xs.length 9 (flat stc xs))) := by
  refine PureC.of_body (drawD_ok X) (fun _ _ => Go.Proofs.Try.call85 _ _) Go.Proofs.Try.func85 rfl (n := 23) rfl ?_
  refine w_seq ?_
  refine w_reg rfl ?_
  refine v_assign rfl ?_
  refine v_nil ?_
  refine q_n ?_
  refine w_seq ?_
  refine w_reg rfl ?_
  refine v_move rfl ?_
  refine v_len_sl lay96 rfl ?_
  refine v_make (enc := stc) (a0 := zS) (m := 0) (H' := [_]) rfl lay71 lay117 rfl rfl rfl rfl (xs.length) (rfl) (by unfold maxLen; simp only []; omega) rfl rfl ?_
  refine v_assign rfl ?_
  refine v_nil ?_
  refine q_n ?_
  refine w_seq ?_
  refine w_seq ?_
  refine w_reg rfl ?_
  refine v_assign (c := .v (.int .i64 0)) rfl ?_
  refine v_nil ?_
  refine q_n ?_
  refine w_block ?_
  refine w_loop (fun k sl H => ∃ i : Nat, k = xs.length - i ∧ i ≤ xs.length ∧ sl = sls [(0, .c (.sl false xs.length 9 (flat stc xs))), (3, .c (.mu 0 0 xs.length 9)), (4, cI i)] ∧ H = [⟨flat stc (xs.take i ++ List.replicate (xs.length - i) zS), 117, true⟩]) ?_ ?_
  · refine ⟨_, _, _, ?_, 0, rfl, Nat.zero_le _, rfl, rfl⟩
    exact turn [some 0] rfl rfl rfl ⟨⟨_, rfl, .stay (stays_flat stc_sc _)⟩, trivial⟩ ⟨tr_sl, tr_mu rfl, tr_v, trivial⟩
  rintro k sl H ⟨i, rfl, hi, rfl, rfl⟩
  refine w_seq ?_
  refine w_seq ?_
  refine w_reg rfl ?_
  refine v_move rfl ?_
  refine v_move rfl ?_
  refine v_len_sl lay96 rfl ?_
  refine v_lss lay3 rfl rfl (fun h1 => ?_) (fun h1 => ?_)
  rotate_left
  · refine v_nil ?_
    refine q_n ?_
    refine w_f rfl ?_
    refine w_exit ?_
    refine q_e ?_
    refine q_e ?_
    refine q_hit ?_
    refine q_n ?_
    refine w_seq ?_
    refine w_reg rfl ?_
    refine v_move rfl ?_
    refine v_assign rfl ?_
    refine v_nil ?_
    refine q_n ?_
    refine w_ret ?_
    refine r_r rfl ?_
    obtain rfl : i = xs.length := by omega
    exact a_flat (t := 117) stc_sc stc_len (by simp) rfl
  have hi1 : i < xs.length := by omega
  refine v_nil ?_
  refine q_n ?_
  refine w_t rfl ?_
  refine w_skip ?_
  refine q_n ?_
  refine w_seq ?_
  refine w_block ?_
  refine w_reg rfl ?_
  refine v_move rfl ?_
  refine v_move rfl ?_
  refine v_move rfl ?_
  refine v_move rfl ?_
  refine v_idx_e (k := 9) (i) stc_len lay96 lay147 rfl rfl rfl (rfl) rfl (rfl) ((by omega : i < xs.length)) ?_
  refine v_load_vw (.agg [.v _, .v _, .v _, .v _, .v _, .v _, .v _, .v _, .v _]) lay147 rfl rfl rfl ?_
  refine v_call (cToSlot _) rfl rfl rfl (.cons (vw_agg (.cons vw_v (.cons vw_v (.cons vw_v (.cons vw_v (.cons vw_v (.cons vw_v (.cons vw_v (.cons vw_v (.cons vw_v .nil)))))))))) .nil) ?_
  refine v_idx_mu_e (k := 9) (off := 0) (i) lay71 lay117 rfl rfl rfl (rfl) ((by omega : i < xs.length)) ?_
  refine v_store_flat (H' := [_]) i 0 (xs[i]) stc_len lay117 rfl rfl rfl (by omega) (by simp; omega) rfl rfl (rfl) rfl ?_
  refine v_nil ?_
  refine q_bn ?_
  refine q_n ?_
  refine w_reg rfl ?_
  refine v_move rfl ?_
  refine v_add lay3 rfl rfl (i64r (by omega)) ?_
  refine v_assign rfl ?_
  refine v_nil ?_
  refine q_n ?_
  refine ⟨_, _, _, ?_, ⟨i + 1, rfl, by omega, rfl, rfl⟩, by omega⟩
  exact turn [some 0] rfl rfl rfl ⟨⟨_, rfl, by rw [fill_step hi1]; exact .stay (stays_flat stc_sc _)⟩, trivial⟩ ⟨tr_sl, tr_mu rfl, tr_v, trivial⟩
theorem cToPlan (xs : List Slo) (b f : Int) (hx : xs.length ≤ 2 ^ 40) : PureC X 58 [.agg (pln false xs b f)] (.agg (pln true xs b f)) := by
  refine PureC.of_body (drawD_ok X) (fun _ _ => Go.Proofs.Try.call58 _ _) Go.Proofs.Try.func58 rfl (n := 15) rfl ?_
  refine w_seq ?_
  refine w_reg rfl ?_
  refine v_box (m := 0) (H' := [_]) lay98 rfl rfl rfl ?_
  refine v_alloc (m := 1) (H' := [_, ⟨[.v _, .v _, .v _], 73, true⟩]) lay73 rfl rfl ?_
  refine v_nil ?_
  refine q_n ?_
  refine w_seq ?_
  refine w_reg rfl ?_
  refine v_alloc (m := 2) (H' := [_, _, ⟨[.v _, .v _, .v _], 73, true⟩]) lay73 rfl rfl ?_
  refine v_nil ?_
  refine q_n ?_
  refine w_seq ?_
  refine w_reg rfl ?_
  refine v_fa_pt (off' := 0) lay98 rfl rfl rfl ?_
  refine v_load_pt (.c _) lay96 rfl rfl rfl rfl ?_
  refine v_call (cToSlotS _ (by omega)) rfl rfl rfl (.cons vw_sl .nil) ?_
  refine v_fa_pt (off' := 0) lay73 rfl rfl rfl ?_
  refine v_store (H' := [_, _, ⟨[_, _, _], 73, true⟩]) lay71 rfl rfl rfl rfl rfl rfl ?_
  refine v_nil ?_
  refine q_n ?_
  refine w_seq ?_
  refine w_reg rfl ?_
  refine v_fa_pt (off' := 1) lay98 rfl rfl rfl ?_
  refine v_load_pt (.c _) lay2 rfl rfl rfl rfl ?_
  refine v_fa_pt (off' := 1) lay73 rfl rfl rfl ?_
  refine v_store (H' := [_, _, ⟨[_, _, _], 73, true⟩]) lay2 rfl rfl rfl rfl rfl rfl ?_
  refine v_nil ?_
  refine q_n ?_
  refine w_seq ?_
  refine w_reg rfl ?_
  refine v_fa_pt (off' := 2) lay98 rfl rfl rfl ?_
  refine v_load_pt (.c _) lay2 rfl rfl rfl rfl ?_
  refine v_fa_pt (off' := 2) lay73 rfl rfl rfl ?_
  refine v_store (H' := [_, _, ⟨[_, _, _], 73, true⟩]) lay2 rfl rfl rfl rfl rfl rfl ?_
  refine v_nil ?_
  refine q_n ?_
  refine w_seq ?_
  refine w_reg rfl ?_
  refine v_load_pt (.agg [_, _, _]) lay73 rfl rfl rfl rfl ?_
  refine v_store (H' := [_, ⟨[_, _, _], 73, true⟩, _]) lay73 rfl rfl rfl rfl rfl rfl ?_
  refine v_nil ?_
  refine q_n ?_
  refine w_ret ?_
  refine r_r rfl ?_
  exact a_agg (.cons tr_sl (.cons tr_v (.cons tr_v .nil)))
theorem cSzPlan (xs : List Slo) (b f : Int) (l : Int) (hl : 0 ≤ l ∧ l ≤ 2 ^ 20) (hx : xs.length ≤ maxLen) : PureC X 51 [.agg (pln false xs b f), cI l] (cI (szr xs.length l)) := by
  refine PureC.of_body (drawD_ok X) (fun _ _ => Go.Proofs.Try.call51 _ _) Go.Proofs.Try.func51 rfl (n := 12) rfl ?_
  refine w_seq ?_
  refine w_reg rfl ?_
  refine v_box (m := 0) (H' := [_]) lay98 rfl rfl rfl ?_
  refine v_assign (c := .v (.int .i64 0)) rfl ?_
  refine v_nil ?_
  refine q_n ?_
  refine w_seq ?_
  refine w_reg rfl ?_
  refine v_fa_pt (off' := 0) lay98 rfl rfl rfl ?_
  refine v_load_pt (.c _) lay96 rfl rfl rfl rfl ?_
  refine v_move rfl ?_
  refine v_call (cSzSlotS _ _ (by omega) (by assumption)) rfl rfl rfl (.cons vw_sl (.cons vw_v .nil)) ?_
  refine v_assign rfl ?_
  refine v_nil ?_
  refine q_n ?_
  refine w_seq ?_
  refine w_seq ?_
  refine w_reg rfl ?_
  refine v_move rfl ?_
  refine v_lss lay3 rfl rfl (fun h1 => ?_) (fun h1 => ?_)
  rotate_left
  · refine v_nil ?_
    refine q_n ?_
    refine w_f rfl ?_
    refine w_skip ?_
    refine q_n ?_
    refine w_seq ?_
    refine w_reg rfl ?_
    refine v_move rfl ?_
    refine v_assign rfl ?_
    refine v_nil ?_
    refine q_n ?_
    refine w_ret ?_
    refine r_r rfl ?_
    exact a_i rfl
  refine v_nil ?_
  refine q_n ?_
  refine w_t rfl ?_
  refine w_seq ?_
  refine w_reg rfl ?_
  refine v_assign (c := .v (.int .i64 (-1))) rfl ?_
  refine v_nil ?_
  refine q_n ?_
  refine w_ret (q_r ?_)
  refine r_r rfl ?_
  exact a_i (by unfold szr at *; split at h1 <;> omega)
theorem cEqPhase (g : Ph) : PureC X 112 [.agg (phc g), .agg (phc g)] (cB (decide True)) := by
  refine PureC.of_body (drawD_ok X) (fun _ _ => Go.Proofs.Try.call112 _ _) Go.Proofs.Try.func112 rfl (n := 17) rfl ?_
  refine w_seq ?_
  refine w_reg rfl ?_
  refine v_box (m := 0) (H' := [_]) lay115 rfl rfl rfl ?_
  refine v_box (m := 1) (H' := [_, _]) lay115 rfl rfl rfl ?_
  refine v_assign (c := .v (.bool false)) rfl ?_
  refine v_nil ?_
  refine q_n ?_
  refine w_seq ?_
  refine w_seq ?_
  refine w_reg rfl ?_
  refine v_assign (c := .v (.int .i64 0)) rfl ?_
  refine v_nil ?_
  refine q_n ?_
  refine w_block ?_
  refine w_loop (fun k sl H => ∃ i : Nat, k = 8 - i ∧ i ≤ 8 ∧ sl = sls [(2, .c (.pt 0 0)), (3, .c (.pt 1 0)), (5, cI i)] ∧ H = [⟨flat bo (pl g), 115, true⟩, ⟨flat bo (pl g), 115, true⟩]) ?_ ?_
  · refine ⟨_, _, _, ?_, 0, rfl, Nat.zero_le _, rfl, rfl⟩
    exact turn [some 0, some 1] rfl rfl rfl ⟨⟨_, rfl, trc_flat bo_sc rfl⟩, ⟨_, rfl, trc_flat bo_sc rfl⟩, trivial⟩ ⟨tr_pt rfl, tr_pt rfl, tr_v, trivial⟩
  rintro k sl H ⟨i, rfl, hi, rfl, rfl⟩
  refine w_seq ?_
  refine w_seq ?_
  refine w_reg rfl ?_
  refine v_move rfl ?_
  refine v_lss lay3 rfl rfl (fun h1 => ?_) (fun h1 => ?_)
  rotate_left
  · refine v_nil ?_
    refine q_n ?_
    refine w_f rfl ?_
    refine w_exit ?_
    refine q_e ?_
    refine q_e ?_
    refine q_hit ?_
    refine q_n ?_
    refine w_seq ?_
    refine w_reg rfl ?_
    refine v_assign (c := .v (.bool true)) rfl ?_
    refine v_nil ?_
    refine q_n ?_
    refine w_ret ?_
    refine r_r rfl ?_
    exact a_b ⟨fun _ => trivial, fun _ => rfl⟩
  have hi1 : i < 8 := by omega
  refine v_nil ?_
  refine q_n ?_
  refine w_t rfl ?_
  refine w_skip ?_
  refine q_n ?_
  refine w_seq ?_
  refine w_block ?_
  refine w_seq ?_
  refine w_draw [0, 1, 3, 0, 8, 24, 63] [⟨0, 0, []⟩, ⟨1, 0, []⟩, ⟨2, 0, []⟩, ⟨3, 0, []⟩, ⟨4, 0, []⟩, ⟨5, 0, []⟩, ⟨6, 0, []⟩] rfl rfl ?_
  refine d_q rfl rfl rfl rfl rfl ?_
  refine v_move rfl ?_
  refine v_nil ?_
  refine d_q rfl rfl rfl rfl rfl ?_
  refine v_idx_arr_e (k := 1) (i) lay115 lay4 rfl rfl rfl (rfl) (hi1) ?_
  refine v_nil ?_
  refine d_q rfl rfl rfl rfl rfl ?_
  refine v_load_flat_e (enc := bo) (ys := pl g) i 0 (.c (.v (.bool (g ⟨i, hi1⟩)))) bo_len lay4 rfl rfl (by omega) hi1 (by decide) (pl_ld g hi1 _) ?_
  refine v_nil ?_
  refine d_q rfl rfl rfl rfl rfl ?_
  refine v_move rfl ?_
  refine v_nil ?_
  refine d_q rfl rfl rfl rfl rfl ?_
  refine v_idx_arr_e (k := 1) (i) lay115 lay4 rfl rfl rfl (rfl) (hi1) ?_
  refine v_nil ?_
  refine d_q rfl rfl rfl rfl rfl ?_
  refine v_load_flat_e (enc := bo) (ys := pl g) i 0 (.c (.v (.bool (g ⟨i, hi1⟩)))) bo_len lay4 rfl rfl (by omega) hi1 (by decide) (pl_ld g hi1 _) ?_
  refine v_nil ?_
  refine d_q rfl rfl rfl rfl rfl ?_
  refine v_binb lay4 rfl rfl rfl (fun h2 => ?_) (fun h2 => ?_)
  · exact absurd h2 (by simp)
  refine v_nil ?_
  refine d_nil ?_
  refine q_n ?_
  refine w_f rfl ?_
  refine w_skip ?_
  refine q_bn ?_
  refine q_n ?_
  refine w_reg rfl ?_
  refine v_move rfl ?_
  refine v_add lay3 rfl rfl (i64r (by omega)) ?_
  refine v_assign rfl ?_
  refine v_nil ?_
  refine q_n ?_
  refine ⟨_, _, _, ?_, ⟨i + 1, rfl, by omega, rfl, rfl⟩, by omega⟩
  exact turn [some 0, some 1] rfl rfl rfl ⟨⟨_, rfl, trc_flat bo_sc rfl⟩, ⟨_, rfl, trc_flat bo_sc rfl⟩, trivial⟩ ⟨tr_pt rfl, tr_pt rfl, tr_v, trivial⟩
theorem cEqSlot (a : Slo) : PureC X 104 [.agg (stc a), .agg (stc a)] (cB (decide True)) := by
  refine PureC.of_body (drawD_ok X) (fun _ _ => Go.Proofs.Try.call104 _ _) Go.Proofs.Try.func104 rfl (n := 16) rfl ?_
  refine w_seq ?_
  refine w_reg rfl ?_
  refine v_box (m := 0) (H' := [_]) lay117 rfl rfl rfl ?_
  refine v_box (m := 1) (H' := [_, _]) lay117 rfl rfl rfl ?_
  refine v_assign (c := .v (.bool false)) rfl ?_
  refine v_nil ?_
  refine q_n ?_
  refine w_seq ?_
  refine w_seq ?_
  refine w_reg rfl ?_
  refine v_fa_pt (off' := 0) lay117 rfl rfl rfl ?_
  refine v_load_pt (.agg [_, _, _, _, _, _, _, _]) lay115 rfl rfl rfl rfl ?_
  refine v_fa_pt (off' := 0) lay117 rfl rfl rfl ?_
  refine v_load_pt (.agg [_, _, _, _, _, _, _, _]) lay115 rfl rfl rfl rfl ?_
  refine v_callb (cEqPhase _) rfl rfl (.cons (vw_agg (.cons vw_v (.cons vw_v (.cons vw_v (.cons vw_v (.cons vw_v (.cons vw_v (.cons vw_v (.cons vw_v .nil))))))))) (.cons (vw_agg (.cons vw_v (.cons vw_v (.cons vw_v (.cons vw_v (.cons vw_v (.cons vw_v (.cons vw_v (.cons vw_v .nil))))))))) .nil)) (fun h1 => ?_) (fun h1 => ?_)
  rotate_left
  · exact absurd trivial h1
  refine v_not false rfl rfl ?_
  refine v_nil ?_
  refine q_n ?_
  refine w_f rfl ?_
  refine w_skip ?_
  refine q_n ?_
  refine w_seq ?_
  refine w_seq ?_
  refine w_reg rfl ?_
  refine v_fa_pt (off' := 8) lay117 rfl rfl rfl ?_
  refine v_load_pt (.c _) lay2 rfl rfl rfl rfl ?_
  refine v_fa_pt (off' := 8) lay117 rfl rfl rfl ?_
  refine v_load_pt (.c _) lay2 rfl rfl rfl rfl ?_
  refine v_neq lay2 rfl rfl (fun h2 => ?_) (fun h2 => ?_)
  · exact absurd rfl h2
  refine v_nil ?_
  refine q_n ?_
  refine w_f rfl ?_
  refine w_skip ?_
  refine q_n ?_
  refine w_seq ?_
  refine w_reg rfl ?_
  refine v_assign (c := .v (.bool true)) rfl ?_
  refine v_nil ?_
  refine q_n ?_
  refine w_ret ?_
  refine r_r rfl ?_
  exact a_b ⟨fun _ => trivial, fun _ => rfl⟩
theorem cEqSlotS (xs : List Slo) (hx : xs.length ≤ 2 ^ 40) : PureC X 91 [.c (.sl false xs.length 9 (flat stc xs)), .c (.sl false xs.length 9 (flat stc xs))] (cB (decide True)) := by
  refine PureC.of_body (drawD_ok X) (fun _ _ => Go.Proofs.Try.call91 _ _) Go.Proofs.Try.func91 rfl (n := 27) rfl ?_
  refine w_seq ?_
  refine w_reg rfl ?_
  refine v_assign (c := .v (.bool false)) rfl ?_
  refine v_nil ?_
  refine q_n ?_
  refine w_seq ?_
  refine w_seq ?_
  refine w_reg rfl ?_
  refine v_move rfl ?_
  refine v_len_sl lay71 rfl ?_
  refine v_move rfl ?_
  refine v_len_sl lay71 rfl ?_
  refine v_neq lay3 rfl rfl (fun h1 => ?_) (fun h1 => ?_)
  · exact absurd rfl h1
  refine v_nil ?_
  refine q_n ?_
  refine w_f rfl ?_
  refine w_skip ?_
  refine q_n ?_
  refine w_seq ?_
  refine w_seq ?_
  refine w_reg rfl ?_
  refine v_assign (c := .v (.int .i64 0)) rfl ?_
  refine v_nil ?_
  refine q_n ?_
  refine w_block ?_
  refine w_loop (fun k sl H => ∃ i : Nat, k = xs.length - i ∧ i ≤ xs.length ∧ sl = sls [(0, .c (.sl false xs.length 9 (flat stc xs))), (1, .c (.sl false xs.length 9 (flat stc xs))), (5, cI i)] ∧ H = []) ?_ ?_
  · refine ⟨_, _, _, ?_, 0, rfl, Nat.zero_le _, rfl, rfl⟩
    exact turn0 ⟨tr_sl, tr_sl, tr_v, trivial⟩
  rintro k sl H ⟨i, rfl, hi, rfl, rfl⟩
  refine w_seq ?_
  refine w_seq ?_
  refine w_reg rfl ?_
  refine v_move rfl ?_
  refine v_move rfl ?_
  refine v_len_sl lay71 rfl ?_
  refine v_lss lay3 rfl rfl (fun h2 => ?_) (fun h2 => ?_)
  rotate_left
  · refine v_nil ?_
    refine q_n ?_
    refine w_f rfl ?_
    refine w_exit ?_
    refine q_e ?_
    refine q_e ?_
    refine q_hit ?_
    refine q_n ?_
    refine w_seq ?_
    refine w_reg rfl ?_
    refine v_assign (c := .v (.bool true)) rfl ?_
    refine v_nil ?_
    refine q_n ?_
    refine w_ret ?_
    refine r_r rfl ?_
    exact a_b ⟨fun _ => trivial, fun _ => rfl⟩
  have i1 : i < xs.length := by omega
  refine v_nil ?_
  refine q_n ?_
  refine w_t rfl ?_
  refine w_skip ?_
  refine q_n ?_
  refine w_seq ?_
  refine w_block ?_
  refine w_seq ?_
  refine w_draw [0, 0, 3, 7, 0, 0, 48, 112, 255, 511] [⟨0, 0, []⟩, ⟨1, 0, []⟩, ⟨2, 0, []⟩, ⟨3, 0, []⟩, ⟨4, 0, []⟩, ⟨5, 0, []⟩, ⟨6, 0, []⟩, ⟨7, 0, []⟩, ⟨8, 0, []⟩, ⟨9, 0, []⟩] rfl rfl ?_
  refine d_q rfl rfl rfl rfl rfl ?_
  refine v_move rfl ?_
  refine v_nil ?_
  refine d_q rfl rfl rfl rfl rfl ?_
  refine v_move rfl ?_
  refine v_nil ?_
  refine d_q rfl rfl rfl rfl rfl ?_
  refine v_idx_e (k := 9) (i) stc_len lay71 lay117 rfl rfl rfl (rfl) rfl (rfl) (i1) ?_
  refine v_nil ?_
  refine d_q rfl rfl rfl rfl rfl ?_
  refine v_load_vw (.agg [.v _, .v _, .v _, .v _, .v _, .v _, .v _, .v _, .v _]) lay117 rfl rfl rfl ?_
  refine v_nil ?_
  refine d_q rfl rfl rfl rfl rfl ?_
  refine v_move rfl ?_
  refine v_nil ?_
  refine d_q rfl rfl rfl rfl rfl ?_
  refine v_move rfl ?_
  refine v_nil ?_
  refine d_q rfl rfl rfl rfl rfl ?_
  refine v_idx_e (k := 9) (i) stc_len lay71 lay117 rfl rfl rfl (rfl) rfl (rfl) (i1) ?_
  refine v_nil ?_
  refine d_q rfl rfl rfl rfl rfl ?_
  refine v_load_vw (.agg [.v _, .v _, .v _, .v _, .v _, .v _, .v _, .v _, .v _]) lay117 rfl rfl rfl ?_
  refine v_nil ?_
  refine d_callb (cEqSlot _) rfl rfl rfl rfl (.cons (vw_agg (.cons vw_v (.cons vw_v (.cons vw_v (.cons vw_v (.cons vw_v (.cons vw_v (.cons vw_v (.cons vw_v (.cons vw_v .nil)))))))))) (.cons (vw_agg (.cons vw_v (.cons vw_v (.cons vw_v (.cons vw_v (.cons vw_v (.cons vw_v (.cons vw_v (.cons vw_v (.cons vw_v .nil)))))))))) .nil)) (fun h5 => ?_) (fun h5 => ?_)
  rotate_left
  · exact absurd trivial h5
  refine d_q rfl rfl rfl rfl rfl ?_
  refine v_not false rfl rfl ?_
  refine v_nil ?_
  refine d_nil ?_
  refine q_n ?_
  refine w_f rfl ?_
  refine w_skip ?_
  refine q_bn ?_
  refine q_n ?_
  refine w_reg rfl ?_
  refine v_move rfl ?_
  refine v_add lay3 rfl rfl (i64r (by omega)) ?_
  refine v_assign rfl ?_
  refine v_nil ?_
  refine q_n ?_
  refine ⟨_, _, _, ?_, ⟨i + 1, rfl, by omega, rfl, rfl⟩, by omega⟩
  exact turn0 ⟨tr_sl, tr_sl, tr_v, trivial⟩
theorem cEqPlan (p : Pln) (hx : p.1.length ≤ 2 ^ 40) : PureC X 66 [.agg (plf p), .agg (plf p)] (cB (decide True)) := by
  refine PureC.of_body (drawD_ok X) (fun _ _ => Go.Proofs.Try.call66 _ _) Go.Proofs.Try.func66 rfl (n := 21) rfl ?_
  refine w_seq ?_
  refine w_reg rfl ?_
  refine v_box (m := 0) (H' := [_]) lay73 rfl rfl rfl ?_
  refine v_box (m := 1) (H' := [_, _]) lay73 rfl rfl rfl ?_
  refine v_assign (c := .v (.bool false)) rfl ?_
  refine v_nil ?_
  refine q_n ?_
  refine w_seq ?_
  refine w_seq ?_
  refine w_reg rfl ?_
  refine v_fa_pt (off' := 0) lay73 rfl rfl rfl ?_
  refine v_load_pt (.c _) lay71 rfl rfl rfl rfl ?_
  refine v_fa_pt (off' := 0) lay73 rfl rfl rfl ?_
  refine v_load_pt (.c _) lay71 rfl rfl rfl rfl ?_
  refine v_callb (cEqSlotS _ (by omega)) rfl rfl (.cons vw_sl (.cons vw_sl .nil)) (fun h1 => ?_) (fun h1 => ?_)
  rotate_left
  · exact absurd trivial h1
  refine v_not false rfl rfl ?_
  refine v_nil ?_
  refine q_n ?_
  refine w_f rfl ?_
  refine w_skip ?_
  refine q_n ?_
  refine w_seq ?_
  refine w_seq ?_
  refine w_reg rfl ?_
  refine v_fa_pt (off' := 1) lay73 rfl rfl rfl ?_
  refine v_load_pt (.c _) lay2 rfl rfl rfl rfl ?_
  refine v_fa_pt (off' := 1) lay73 rfl rfl rfl ?_
  refine v_load_pt (.c _) lay2 rfl rfl rfl rfl ?_
  refine v_neq lay2 rfl rfl (fun h2 => ?_) (fun h2 => ?_)
  · exact absurd rfl h2
  refine v_nil ?_
  refine q_n ?_
  refine w_f rfl ?_
  refine w_skip ?_
  refine q_n ?_
  refine w_seq ?_
  refine w_seq ?_
  refine w_reg rfl ?_
  refine v_fa_pt (off' := 2) lay73 rfl rfl rfl ?_
  refine v_load_pt (.c _) lay2 rfl rfl rfl rfl ?_
  refine v_fa_pt (off' := 2) lay73 rfl rfl rfl ?_
  refine v_load_pt (.c _) lay2 rfl rfl rfl rfl ?_
  refine v_neq lay2 rfl rfl (fun h3 => ?_) (fun h3 => ?_)
  · exact absurd rfl h3
  refine v_nil ?_
  refine q_n ?_
  refine w_f rfl ?_
  refine w_skip ?_
  refine q_n ?_
  refine w_seq ?_
  refine w_reg rfl ?_
  refine v_assign (c := .v (.bool true)) rfl ?_
  refine v_nil ?_
  refine q_n ?_
  refine w_ret ?_
  refine r_r rfl ?_
  exact a_b ⟨fun _ => trivial, fun _ => rfl⟩
theorem cEqPlanS (xs : List Pln) (hx : xs.length ≤ 2 ^ 40) (hw : ∀ x ∈ xs, x.1.length ≤ 2 ^ 40) : PureC X 34 [.c (.sl false xs.length 3 (flat plc xs)), .c (.sl false xs.length 3 (flat plc xs))] (cB (decide True)) := by
  refine PureC.of_body (drawD_ok X) (fun _ _ => Go.Proofs.Try.call34 _ _) Go.Proofs.Try.func34 rfl (n := 27) rfl ?_
  refine w_seq ?_
  refine w_reg rfl ?_
  refine v_assign (c := .v (.bool false)) rfl ?_
  refine v_nil ?_
  refine q_n ?_
  refine w_seq ?_
  refine w_seq ?_
  refine w_reg rfl ?_
  refine v_move rfl ?_
  refine v_len_sl lay33 rfl ?_
  refine v_move rfl ?_
  refine v_len_sl lay33 rfl ?_
  refine v_neq lay3 rfl rfl (fun h1 => ?_) (fun h1 => ?_)
  · exact absurd rfl h1
  refine v_nil ?_
  refine q_n ?_
  refine w_f rfl ?_
  refine w_skip ?_
  refine q_n ?_
  refine w_seq ?_
  refine w_seq ?_
  refine w_reg rfl ?_
  refine v_assign (c := .v (.int .i64 0)) rfl ?_
  refine v_nil ?_
  refine q_n ?_
  refine w_block ?_
  refine w_loop (fun k sl H => ∃ i : Nat, k = xs.length - i ∧ i ≤ xs.length ∧ sl = sls [(0, .c (.sl false xs.length 3 (flat plc xs))), (1, .c (.sl false xs.length 3 (flat plc xs))), (5, cI i)] ∧ H = []) ?_ ?_
  · refine ⟨_, _, _, ?_, 0, rfl, Nat.zero_le _, rfl, rfl⟩
    exact turn0 ⟨tr_sl, tr_sl, tr_v, trivial⟩
  rintro k sl H ⟨i, rfl, hi, rfl, rfl⟩
  refine w_seq ?_
  refine w_seq ?_
  refine w_reg rfl ?_
  refine v_move rfl ?_
  refine v_move rfl ?_
  refine v_len_sl lay33 rfl ?_
  refine v_lss lay3 rfl rfl (fun h2 => ?_) (fun h2 => ?_)
  rotate_left
  · refine v_nil ?_
    refine q_n ?_
    refine w_f rfl ?_
    refine w_exit ?_
    refine q_e ?_
    refine q_e ?_
    refine q_hit ?_
    refine q_n ?_
    refine w_seq ?_
    refine w_reg rfl ?_
    refine v_assign (c := .v (.bool true)) rfl ?_
    refine v_nil ?_
    refine q_n ?_
    refine w_ret ?_
    refine r_r rfl ?_
    exact a_b ⟨fun _ => trivial, fun _ => rfl⟩
  have i1 : i < xs.length := by omega
  refine v_nil ?_
  refine q_n ?_
  refine w_t rfl ?_
  refine w_skip ?_
  refine q_n ?_
  refine w_seq ?_
  refine w_block ?_
  refine w_seq ?_
  refine w_draw [0, 0, 3, 7, 0, 0, 48, 112, 255, 511] [⟨0, 0, []⟩, ⟨1, 0, []⟩, ⟨2, 0, []⟩, ⟨3, 0, []⟩, ⟨4, 0, []⟩, ⟨5, 0, []⟩, ⟨6, 0, []⟩, ⟨7, 0, []⟩, ⟨8, 0, []⟩, ⟨9, 0, []⟩] rfl rfl ?_
  refine d_q rfl rfl rfl rfl rfl ?_
  refine v_move rfl ?_
  refine v_nil ?_
  refine d_q rfl rfl rfl rfl rfl ?_
  refine v_move rfl ?_
  refine v_nil ?_
  refine d_q rfl rfl rfl rfl rfl ?_
  refine v_idx_e (k := 3) (i) plc_len lay33 lay73 rfl rfl rfl (rfl) rfl (rfl) (i1) ?_
  refine v_nil ?_
  refine d_q rfl rfl rfl rfl rfl ?_
  refine v_load_vw (.agg [_, .v _, .v _]) lay73 rfl rfl rfl ?_
  refine v_nil ?_
  refine d_q rfl rfl rfl rfl rfl ?_
  refine v_move rfl ?_
  refine v_nil ?_
  refine d_q rfl rfl rfl rfl rfl ?_
  refine v_move rfl ?_
  refine v_nil ?_
  refine d_q rfl rfl rfl rfl rfl ?_
  refine v_idx_e (k := 3) (i) plc_len lay33 lay73 rfl rfl rfl (rfl) rfl (rfl) (i1) ?_
  refine v_nil ?_
  refine d_q rfl rfl rfl rfl rfl ?_
  refine v_load_vw (.agg [_, .v _, .v _]) lay73 rfl rfl rfl ?_
  refine v_nil ?_
  refine d_callb (cEqPlan _ (hw _ (List.getElem_mem i1))) rfl rfl rfl rfl (.cons (vw_agg (.cons vw_sl (.cons vw_v (.cons vw_v .nil)))) (.cons (vw_agg (.cons vw_sl (.cons vw_v (.cons vw_v .nil)))) .nil)) (fun h5 => ?_) (fun h5 => ?_)
  rotate_left
  · exact absurd trivial h5
  refine d_q rfl rfl rfl rfl rfl ?_
  refine v_not false rfl rfl ?_
  refine v_nil ?_
  refine d_nil ?_
  refine q_n ?_
  refine w_f rfl ?_
  refine w_skip ?_
  refine q_bn ?_
  refine q_n ?_
  refine w_reg rfl ?_
  refine v_move rfl ?_
  refine v_add lay3 rfl rfl (i64r (by omega)) ?_
  refine v_assign rfl ?_
  refine v_nil ?_
  refine q_n ?_
  refine ⟨_, _, _, ?_, ⟨i + 1, rfl, by omega, rfl, rfl⟩, by omega⟩
  exact turn0 ⟨tr_sl, tr_sl, tr_v, trivial⟩
theorem cToPlanS (ps : List Pln) (hx : ps.length ≤ 2 ^ 30) (hP : ∀ p ∈ ps, p.1.length ≤ 2 ^ 40) : PureC X 22 [.c (.sl false ps.length 3 (flat plc ps))] (.c (.sl true ps.length 3 (flat plc ps))) := by
  refine PureC.of_body (drawD_ok X) (fun _ _ => Go.Proofs.Try.call22 _ _) Go.Proofs.Try.func22 rfl (n := 23) rfl ?_
  refine w_seq ?_
  refine w_reg rfl ?_
  refine v_assign rfl ?_
  refine v_nil ?_
  refine q_n ?_
  refine w_seq ?_
  refine w_reg rfl ?_
  refine v_move rfl ?_
  refine v_len_sl lay25 rfl ?_
  refine v_make (enc := ozc) (a0 := none) (m := 0) (H' := [_]) rfl lay33 lay73 rfl rfl rfl rfl (ps.length) (rfl) (by unfold maxLen; simp only []; omega) rfl rfl ?_
  refine v_assign rfl ?_
  refine v_nil ?_
  refine q_n ?_
  refine w_seq ?_
  refine w_seq ?_
  refine w_reg rfl ?_
  refine v_assign (c := .v (.int .i64 0)) rfl ?_
  refine v_nil ?_
  refine q_n ?_
  refine w_block ?_
  refine w_loop (fun k sl H => ∃ i : Nat, k = ps.length - i ∧ i ≤ ps.length ∧ sl = sls [(0, .c (.sl false ps.length 3 (flat plc ps))), (3, .c (.mu 0 0 ps.length 3)), (4, cI i)] ∧ H = [⟨flat ozc ((ps.map some).take i ++ List.replicate ((ps.map some).length - i) none), 73, true⟩]) ?_ ?_
  · refine ⟨_, _, _, ?_, 0, rfl, Nat.zero_le _, rfl, rfl⟩
    exact turn [some 0] rfl rfl rfl ⟨⟨_, rfl, trc_flatz ozc_sc (by simp)⟩, trivial⟩ ⟨tr_sl, tr_mu rfl, tr_v, trivial⟩
  rintro k sl H ⟨i, rfl, hi, rfl, rfl⟩
  refine w_seq ?_
  refine w_seq ?_
  refine w_reg rfl ?_
  refine v_move rfl ?_
  refine v_move rfl ?_
  refine v_len_sl lay25 rfl ?_
  refine v_lss lay3 rfl rfl (fun h1 => ?_) (fun h1 => ?_)
  rotate_left
  · refine v_nil ?_
    refine q_n ?_
    refine w_f rfl ?_
    refine w_exit ?_
    refine q_e ?_
    refine q_e ?_
    refine q_hit ?_
    refine q_n ?_
    refine w_seq ?_
    refine w_reg rfl ?_
    refine v_move rfl ?_
    refine v_assign rfl ?_
    refine v_nil ?_
    refine q_n ?_
    refine w_ret ?_
    refine r_r rfl ?_
    obtain rfl : i = ps.length := by omega
    exact a_flatz plc_sc plc_len rfl (by rw [← oz_flat, List.take_of_length_le (by simp)]; simp) rfl rfl
  have hi1 : i < ps.length := by omega
  refine v_nil ?_
  refine q_n ?_
  refine w_t rfl ?_
  refine w_skip ?_
  refine q_n ?_
  refine w_seq ?_
  refine w_block ?_
  refine w_reg rfl ?_
  refine v_move rfl ?_
  refine v_move rfl ?_
  refine v_move rfl ?_
  refine v_move rfl ?_
  refine v_idx_e (k := 3) (i) plc_len lay25 lay98 rfl rfl rfl (rfl) rfl (rfl) (hi1) ?_
  refine v_load_vw (.agg [_, .v _, .v _]) lay98 rfl rfl rfl ?_
  refine v_call (cToPlan _ _ _ (hP _ (List.getElem_mem hi1))) rfl rfl rfl (.cons (vw_agg (.cons vw_sl (.cons vw_v (.cons vw_v .nil)))) .nil) ?_
  refine v_idx_mu_e (k := 3) (off := 0) (i) lay33 lay73 rfl rfl rfl (rfl) (hi1) ?_
  refine v_store_flat (H' := [_]) i 0 ((ps.map some)[i]'(by simpa using hi1)) ozc_len lay73 rfl rfl rfl (by omega) (by simp; omega) rfl rfl (by rw [List.getElem_map]; exact (oz_set _).symm) rfl ?_
  refine v_nil ?_
  refine q_bn ?_
  refine q_n ?_
  refine w_reg rfl ?_
  refine v_move rfl ?_
  refine v_add lay3 rfl rfl (i64r (by omega)) ?_
  refine v_assign rfl ?_
  refine v_nil ?_
  refine q_n ?_
  refine ⟨_, _, _, ?_, ⟨i + 1, rfl, by omega, rfl, rfl⟩, by omega⟩
  exact turn [some 0] rfl rfl rfl ⟨⟨_, rfl, by rw [fill_step (xs := ps.map some) (by simpa using hi1)]; exact .stay (fun c hc => stays_fz (fz_flat ozc_sc _ c hc))⟩, trivial⟩ ⟨tr_sl, tr_mu rfl, tr_v, trivial⟩
theorem cSzPlanS (ps : List Pln) (l : Int) (hl : 0 ≤ l ∧ l ≤ 2 ^ 20) (hx : ps.length ≤ maxLen) (hM : ∀ p ∈ ps, p.1.length ≤ maxLen) : PureC X 17 [.c (.sl false ps.length 3 (flat plc ps)), cI l] (cI (szL szP ps l)) := by
  refine PureC.of_body (drawD_ok X) (fun _ _ => Go.Proofs.Try.call17 _ _) Go.Proofs.Try.func17 rfl (n := 27) rfl ?_
  refine w_seq ?_
  refine w_reg rfl ?_
  refine v_assign (c := .v (.int .i64 0)) rfl ?_
  refine v_nil ?_
  refine q_n ?_
  refine w_seq ?_
  refine w_reg rfl ?_
  refine v_move rfl ?_
  refine v_move rfl ?_
  refine v_len_sl lay25 rfl ?_
  refine v_sub lay3 rfl rfl (i64r (by unfold maxLen at hx; omega)) ?_
  refine v_assign rfl ?_
  refine v_nil ?_
  refine q_n ?_
  refine w_seq ?_
  refine w_seq ?_
  refine w_reg rfl ?_
  refine v_move rfl ?_
  refine v_lss lay3 rfl rfl (fun h1 => ?_) (fun h1 => ?_)
  · refine v_nil ?_
    refine q_n ?_
    refine w_t rfl ?_
    refine w_seq ?_
    refine w_reg rfl ?_
    refine v_assign (c := .v (.int .i64 (-1))) rfl ?_
    refine v_nil ?_
    refine q_n ?_
    refine w_ret (q_r ?_)
    refine r_r rfl ?_
    exact a_i (by unfold szL; rw [if_pos h1])
  refine v_nil ?_
  refine q_n ?_
  refine w_f rfl ?_
  refine w_skip ?_
  refine q_n ?_
  refine w_seq ?_
  refine w_seq ?_
  refine w_reg rfl ?_
  refine v_assign (c := .v (.int .i64 0)) rfl ?_
  refine v_nil ?_
  refine q_n ?_
  refine w_block ?_
  refine w_loop (fun k sl H => ∃ (i : Nat) (l1 : Int), k = ps.length - i ∧ i ≤ ps.length ∧ szG szP (ps.drop i) l1 = szG szP ps (l - ps.length) ∧ (0 ≤ l1 ∧ l1 ≤ 2 ^ 20) ∧ sl = sls [(0, .c (.sl false ps.length 3 (flat plc ps))), (1, cI l1), (5, cI i)] ∧ H = []) ?_ ?_
  · refine ⟨_, _, _, ?_, 0, l - ps.length, rfl, Nat.zero_le _, rfl, ⟨by omega, by omega⟩, rfl, rfl⟩
    exact turn0 ⟨tr_sl, tr_v, tr_v, trivial⟩
  rintro k sl H ⟨i, l1, rfl, hi, hp, hl1, rfl, rfl⟩
  refine w_seq ?_
  refine w_seq ?_
  refine w_reg rfl ?_
  refine v_move rfl ?_
  refine v_move rfl ?_
  refine v_len_sl lay25 rfl ?_
  refine v_lss lay3 rfl rfl (fun h2 => ?_) (fun h2 => ?_)
  rotate_left
  · refine v_nil ?_
    refine q_n ?_
    refine w_f rfl ?_
    refine w_exit ?_
    refine q_e ?_
    refine q_e ?_
    refine q_hit ?_
    refine q_n ?_
    refine w_seq ?_
    refine w_reg rfl ?_
    refine v_move rfl ?_
    refine v_assign rfl ?_
    refine v_nil ?_
    refine q_n ?_
    refine w_ret ?_
    refine r_r rfl ?_
    obtain rfl : i = ps.length := by omega
    exact a_i (by unfold szL; rw [if_neg h1, ← hp, List.drop_length]; rfl)
  have hi1 : i < ps.length := by omega
  refine v_nil ?_
  refine q_n ?_
  refine w_t rfl ?_
  refine w_skip ?_
  refine q_n ?_
  refine w_seq ?_
  refine w_block ?_
  refine w_seq ?_
  refine w_reg rfl ?_
  refine v_move rfl ?_
  refine v_move rfl ?_
  refine v_idx_e (k := 3) (i) plc_len lay25 lay98 rfl rfl rfl (rfl) rfl (rfl) (hi1) ?_
  refine v_load_vw (.agg [_, .v _, .v _]) lay98 rfl rfl rfl ?_
  refine v_move rfl ?_
  refine v_call (cSzPlan _ _ _ _ hl1 (hM _ (List.getElem_mem hi1))) rfl rfl rfl (.cons (vw_agg (.cons vw_sl (.cons vw_v (.cons vw_v .nil)))) (.cons vw_v .nil)) ?_
  refine v_assign rfl ?_
  refine v_nil ?_
  refine q_n ?_
  refine w_seq ?_
  refine w_reg rfl ?_
  refine v_move rfl ?_
  refine v_lss lay3 rfl rfl (fun h4 => ?_) (fun h4 => ?_)
  · have hneg : szP ps[i] l1 < 0 := h4
    refine v_nil ?_
    refine q_n ?_
    refine w_t rfl ?_
    refine w_seq ?_
    refine w_reg rfl ?_
    refine v_assign (c := .v (.int .i64 (-1))) rfl ?_
    refine v_nil ?_
    refine q_n ?_
    refine w_ret (q_br (q_r (q_r (q_br (q_r ?_)))))
    refine r_r rfl ?_
    exact a_i (by unfold szL; rw [if_neg h1, ← hp, szG_at hi1, if_pos hneg])
  have hneg : ¬ szP ps[i] l1 < 0 := h4
  refine v_nil ?_
  refine q_n ?_
  refine w_f rfl ?_
  refine w_skip ?_
  refine q_bn ?_
  refine q_n ?_
  refine w_reg rfl ?_
  refine v_move rfl ?_
  refine v_add lay3 rfl rfl (i64r (by unfold maxLen at hx; omega)) ?_
  refine v_assign rfl ?_
  refine v_nil ?_
  refine q_n ?_
  rw [szG_at hi1, if_neg hneg] at hp
  have hr := (szP_le _ _ hl1 hneg).1
  refine ⟨_, _, _, ?_, ⟨i + 1, _, rfl, by omega, hp, hr, rfl, rfl⟩, by omega⟩
  exact turn0 ⟨tr_sl, tr_v, tr_v, trivial⟩
theorem cToJunction (j : Jn) : PureC X 83 [.agg (jnc j)] (.agg (jnc j)) := by
  refine PureC.of_body (drawD_ok X) (fun _ _ => Go.Proofs.Try.call83 _ _) Go.Proofs.Try.func83 rfl (n := 19) rfl ?_
  refine w_seq ?_
  refine w_reg rfl ?_
  refine v_box (m := 0) (H' := [_]) lay92 rfl rfl rfl ?_
  refine v_alloc (m := 1) (H' := [_, ⟨[.v _, .v _, .f _ _, .f _ _, .f _ _, .f _ _, .f _ _, .f _ _, .f _ _, .f _ _, .f _ _, .f _ _, .f _ _, .f _ _, .f _ _, .f _ _, .f _ _, .f _ _, .f _ _, .f _ _, .f _ _, .f _ _], 65, true⟩]) lay65 rfl rfl ?_
  refine v_nil ?_
  refine q_n ?_
  refine w_seq ?_
  refine w_reg rfl ?_
  refine v_alloc (m := 2) (H' := [_, _, ⟨[.v _, .v _, .f _ _, .f _ _, .f _ _, .f _ _, .f _ _, .f _ _, .f _ _, .f _ _, .f _ _, .f _ _, .f _ _, .f _ _, .f _ _, .f _ _, .f _ _, .f _ _, .f _ _, .f _ _, .f _ _, .f _ _], 65, true⟩]) lay65 rfl rfl ?_
  refine v_nil ?_
  refine q_n ?_
  refine w_seq ?_
  refine w_reg rfl ?_
  refine v_fa_pt (off' := 0) lay92 rfl rfl rfl ?_
  refine v_load_pt (.c _) lay2 rfl rfl rfl rfl ?_
  refine v_fa_pt (off' := 0) lay65 rfl rfl rfl ?_
  refine v_store (H' := [_, _, ⟨[_, _, _, _, _, _, _, _, _, _, _, _, _, _, _, _, _, _, _, _, _, _], 65, true⟩]) lay2 rfl rfl rfl rfl rfl rfl ?_
  refine v_nil ?_
  refine q_n ?_
  refine w_seq ?_
  refine w_reg rfl ?_
  refine v_fa_pt (off' := 1) lay92 rfl rfl rfl ?_
  refine v_load_pt (.c _) lay2 rfl rfl rfl rfl ?_
  refine v_fa_pt (off' := 1) lay65 rfl rfl rfl ?_
  refine v_store (H' := [_, _, ⟨[_, _, _, _, _, _, _, _, _, _, _, _, _, _, _, _, _, _, _, _, _, _], 65, true⟩]) lay2 rfl rfl rfl rfl rfl rfl ?_
  refine v_nil ?_
  refine q_n ?_
  refine w_seq ?_
  refine w_reg rfl ?_
  refine v_fa_pt (off' := 2) lay92 rfl rfl rfl ?_
  refine v_load_pt (.agg [_, _, _, _, _, _, _, _, _, _, _, _, _, _, _, _]) lay61 rfl rfl rfl rfl ?_
  refine v_call (cToFlows _) rfl rfl rfl (.cons (vw_agg (.cons vw_f (.cons vw_f (.cons vw_f (.cons vw_f (.cons vw_f (.cons vw_f (.cons vw_f (.cons vw_f (.cons vw_f (.cons vw_f (.cons vw_f (.cons vw_f (.cons vw_f (.cons vw_f (.cons vw_f (.cons vw_f .nil))))))))))))))))) .nil) ?_
  refine v_fa_pt (off' := 2) lay65 rfl rfl rfl ?_
  refine v_store (H' := [_, _, ⟨[_, _, _, _, _, _, _, _, _, _, _, _, _, _, _, _, _, _, _, _, _, _], 65, true⟩]) lay62 rfl rfl rfl rfl rfl rfl ?_
  refine v_nil ?_
  refine q_n ?_
  refine w_seq ?_
  refine w_reg rfl ?_
  refine v_fa_pt (off' := 18) lay92 rfl rfl rfl ?_
  refine v_load_pt (.agg [_, _, _, _]) lay60 rfl rfl rfl rfl ?_
  refine v_call (cToFour _) rfl rfl rfl (.cons (vw_agg (.cons vw_f (.cons vw_f (.cons vw_f (.cons vw_f .nil))))) .nil) ?_
  refine v_fa_pt (off' := 18) lay65 rfl rfl rfl ?_
  refine v_store (H' := [_, _, ⟨[_, _, _, _, _, _, _, _, _, _, _, _, _, _, _, _, _, _, _, _, _, _], 65, true⟩]) lay63 rfl rfl rfl rfl rfl rfl ?_
  refine v_nil ?_
  refine q_n ?_
  refine w_seq ?_
  refine w_reg rfl ?_
  refine v_load_pt (.agg [_, _, _, _, _, _, _, _, _, _, _, _, _, _, _, _, _, _, _, _, _, _]) lay65 rfl rfl rfl rfl ?_
  refine v_store (H' := [_, ⟨[_, _, _, _, _, _, _, _, _, _, _, _, _, _, _, _, _, _, _, _, _, _], 65, true⟩, _]) lay65 rfl rfl rfl rfl rfl rfl ?_
  refine v_nil ?_
  refine q_n ?_
  refine w_ret ?_
  refine r_r rfl ?_
  exact a_agg (.cons tr_v (.cons tr_v (.cons tr_f (.cons tr_f (.cons tr_f (.cons tr_f (.cons tr_f (.cons tr_f (.cons tr_f (.cons tr_f (.cons tr_f (.cons tr_f (.cons tr_f (.cons tr_f (.cons tr_f (.cons tr_f (.cons tr_f (.cons tr_f (.cons tr_f (.cons tr_f (.cons tr_f (.cons tr_f .nil))))))))))))))))))))))
theorem cEqJunction (j : Jn) (hW : jW j) : PureC X 89 [.agg (jnc j), .agg (jnc j)] (cB (decide True)) := by
  refine PureC.of_body (drawD_ok X) (fun _ _ => Go.Proofs.Try.call89 _ _) Go.Proofs.Try.func89 rfl (n := 27) rfl ?_
  refine w_seq ?_
  refine w_reg rfl ?_
  refine v_box (m := 0) (H' := [_]) lay65 rfl rfl rfl ?_
  refine v_box (m := 1) (H' := [_, _]) lay65 rfl rfl rfl ?_
  refine v_assign (c := .v (.bool false)) rfl ?_
  refine v_nil ?_
  refine q_n ?_
  refine w_seq ?_
  refine w_seq ?_
  refine w_reg rfl ?_
  refine v_fa_pt (off' := 0) lay65 rfl rfl rfl ?_
  refine v_load_pt (.c _) lay2 rfl rfl rfl rfl ?_
  refine v_fa_pt (off' := 0) lay65 rfl rfl rfl ?_
  refine v_load_pt (.c _) lay2 rfl rfl rfl rfl ?_
  refine v_neq lay2 rfl rfl (fun h1 => ?_) (fun h1 => ?_)
  · exact absurd rfl h1
  refine v_nil ?_
  refine q_n ?_
  refine w_f rfl ?_
  refine w_skip ?_
  refine q_n ?_
  refine w_seq ?_
  refine w_seq ?_
  refine w_reg rfl ?_
  refine v_fa_pt (off' := 1) lay65 rfl rfl rfl ?_
  refine v_load_pt (.c _) lay2 rfl rfl rfl rfl ?_
  refine v_fa_pt (off' := 1) lay65 rfl rfl rfl ?_
  refine v_load_pt (.c _) lay2 rfl rfl rfl rfl ?_
  refine v_neq lay2 rfl rfl (fun h2 => ?_) (fun h2 => ?_)
  · exact absurd rfl h2
  refine v_nil ?_
  refine q_n ?_
  refine w_f rfl ?_
  refine w_skip ?_
  refine q_n ?_
  refine w_seq ?_
  refine w_seq ?_
  refine w_reg rfl ?_
  refine v_fa_pt (off' := 2) lay65 rfl rfl rfl ?_
  refine v_load_pt (.agg [_, _, _, _, _, _, _, _, _, _, _, _, _, _, _, _]) lay62 rfl rfl rfl rfl ?_
  refine v_fa_pt (off' := 2) lay65 rfl rfl rfl ?_
  refine v_load_pt (.agg [_, _, _, _, _, _, _, _, _, _, _, _, _, _, _, _]) lay62 rfl rfl rfl rfl ?_
  refine v_callb (cEqFlows _ hW.1) rfl rfl (.cons (vw_agg (.cons vw_f (.cons vw_f (.cons vw_f (.cons vw_f (.cons vw_f (.cons vw_f (.cons vw_f (.cons vw_f (.cons vw_f (.cons vw_f (.cons vw_f (.cons vw_f (.cons vw_f (.cons vw_f (.cons vw_f (.cons vw_f .nil))))))))))))))))) (.cons (vw_agg (.cons vw_f (.cons vw_f (.cons vw_f (.cons vw_f (.cons vw_f (.cons vw_f (.cons vw_f (.cons vw_f (.cons vw_f (.cons vw_f (.cons vw_f (.cons vw_f (.cons vw_f (.cons vw_f (.cons vw_f (.cons vw_f .nil))))))))))))))))) .nil)) (fun h3 => ?_) (fun h3 => ?_)
  rotate_left
  · exact absurd trivial h3
  refine v_not false rfl rfl ?_
  refine v_nil ?_
  refine q_n ?_
  refine w_f rfl ?_
  refine w_skip ?_
  refine q_n ?_
  refine w_seq ?_
  refine w_seq ?_
  refine w_reg rfl ?_
  refine v_fa_pt (off' := 18) lay65 rfl rfl rfl ?_
  refine v_load_pt (.agg [_, _, _, _]) lay63 rfl rfl rfl rfl ?_
  refine v_fa_pt (off' := 18) lay65 rfl rfl rfl ?_
  refine v_load_pt (.agg [_, _, _, _]) lay63 rfl rfl rfl rfl ?_
  refine v_callb (cEqFour _ (fun i hi => (hW.2 i hi).1)) rfl rfl (.cons (vw_agg (.cons vw_f (.cons vw_f (.cons vw_f (.cons vw_f .nil))))) (.cons (vw_agg (.cons vw_f (.cons vw_f (.cons vw_f (.cons vw_f .nil))))) .nil)) (fun h4 => ?_) (fun h4 => ?_)
  rotate_left
  · exact absurd trivial h4
  refine v_not false rfl rfl ?_
  refine v_nil ?_
  refine q_n ?_
  refine w_f rfl ?_
  refine w_skip ?_
  refine q_n ?_
  refine w_seq ?_
  refine w_reg rfl ?_
  refine v_assign (c := .v (.bool true)) rfl ?_
  refine v_nil ?_
  refine q_n ?_
  refine w_ret ?_
  refine r_r rfl ?_
  exact a_b ⟨fun _ => trivial, fun _ => rfl⟩
theorem cToIntS (xs : List Int) (hx : xs.length ≤ 2 ^ 40) : PureC X 84 [.c (.sl false xs.length 1 (flat int xs))] (.c (.sl true xs.length 1 (flat int xs))) := by
  refine PureC.of_body (drawD_ok X) (fun _ _ => Go.Proofs.Try.call84 _ _) Go.Proofs.Try.func84 rfl (n := 22) rfl ?_
  refine w_seq ?_
  refine w_reg rfl ?_
  refine v_assign rfl ?_
  refine v_nil ?_
  refine q_n ?_
  refine w_seq ?_
  refine w_reg rfl ?_
  refine v_move rfl ?_
  refine v_len_sl lay66 rfl ?_
  refine v_make (enc := int) (a0 := (0 : Int)) (m := 0) (H' := [_]) rfl lay66 lay2 rfl rfl rfl rfl (xs.length) (rfl) (by unfold maxLen; simp only []; omega) rfl rfl ?_
  refine v_assign rfl ?_
  refine v_nil ?_
  refine q_n ?_
  refine w_seq ?_
  refine w_seq ?_
  refine w_reg rfl ?_
  refine v_assign (c := .v (.int .i64 0)) rfl ?_
  refine v_nil ?_
  refine q_n ?_
  refine w_block ?_
  refine w_loop (fun k sl H => ∃ i : Nat, k = xs.length - i ∧ i ≤ xs.length ∧ sl = sls [(0, .c (.sl false xs.length 1 (flat int xs))), (3, .c (.mu 0 0 xs.length 1)), (4, cI i)] ∧ H = [⟨flat int (xs.take i ++ List.replicate (xs.length - i) (0 : Int)), 2, true⟩]) ?_ ?_
  · refine ⟨_, _, _, ?_, 0, rfl, Nat.zero_le _, rfl, rfl⟩
    exact turn [some 0] rfl rfl rfl ⟨⟨_, rfl, .stay (stays_flat int_sc _)⟩, trivial⟩ ⟨tr_sl, tr_mu rfl, tr_v, trivial⟩
  rintro k sl H ⟨i, rfl, hi, rfl, rfl⟩
  refine w_seq ?_
  refine w_seq ?_
  refine w_reg rfl ?_
  refine v_move rfl ?_
  refine v_move rfl ?_
  refine v_len_sl lay66 rfl ?_
  refine v_lss lay3 rfl rfl (fun h1 => ?_) (fun h1 => ?_)
  rotate_left
  · refine v_nil ?_
    refine q_n ?_
    refine w_f rfl ?_
    refine w_exit ?_
    refine q_e ?_
    refine q_e ?_
    refine q_hit ?_
    refine q_n ?_
    refine w_seq ?_
    refine w_reg rfl ?_
    refine v_move rfl ?_
    refine v_assign rfl ?_
    refine v_nil ?_
    refine q_n ?_
    refine w_ret ?_
    refine r_r rfl ?_
    obtain rfl : i = xs.length := by omega
    exact a_flat (t := 2) int_sc int_len (by simp) rfl
  have hi1 : i < xs.length := by omega
  refine v_nil ?_
  refine q_n ?_
  refine w_t rfl ?_
  refine w_skip ?_
  refine q_n ?_
  refine w_seq ?_
  refine w_block ?_
  refine w_reg rfl ?_
  refine v_move rfl ?_
  refine v_move rfl ?_
  refine v_move rfl ?_
  refine v_move rfl ?_
  refine v_idx_e (k := 1) (i) int_len lay66 lay2 rfl rfl rfl (rfl) rfl (rfl) ((by omega : i < xs.length)) ?_
  refine v_load_vw (.c (.v _)) lay2 rfl rfl rfl ?_
  refine v_idx_mu_e (k := 1) (off := 0) (i) lay66 lay2 rfl rfl rfl (rfl) ((by omega : i < xs.length)) ?_
  refine v_store_flat (H' := [_]) i 0 (xs[i]) int_len lay2 rfl rfl rfl (by omega) (by simp; omega) rfl rfl (rfl) rfl ?_
  refine v_nil ?_
  refine q_bn ?_
  refine q_n ?_
  refine w_reg rfl ?_
  refine v_move rfl ?_
  refine v_add lay3 rfl rfl (i64r (by omega)) ?_
  refine v_assign rfl ?_
  refine v_nil ?_
  refine q_n ?_
  refine ⟨_, _, _, ?_, ⟨i + 1, rfl, by omega, rfl, rfl⟩, by omega⟩
  exact turn [some 0] rfl rfl rfl ⟨⟨_, rfl, by rw [fill_step hi1]; exact .stay (stays_flat int_sc _)⟩, trivial⟩ ⟨tr_sl, tr_mu rfl, tr_v, trivial⟩
theorem cEqIntS (xs : List Int) (hx : xs.length ≤ 2 ^ 40) : PureC X 90 [.c (ints false xs), .c (ints false xs)] (cB (decide True)) := by
  refine PureC.of_body (drawD_ok X) (fun _ _ => Go.Proofs.Try.call90 _ _) Go.Proofs.Try.func90 rfl (n := 26) rfl ?_
  refine w_seq ?_
  refine w_reg rfl ?_
  refine v_assign (c := .v (.bool false)) rfl ?_
  refine v_nil ?_
  refine q_n ?_
  refine w_seq ?_
  refine w_seq ?_
  refine w_reg rfl ?_
  refine v_move rfl ?_
  refine v_len_sl lay66 rfl ?_
  refine v_move rfl ?_
  refine v_len_sl lay66 rfl ?_
  refine v_neq lay3 rfl rfl (fun h1 => ?_) (fun h1 => ?_)
  · exact absurd rfl h1
  refine v_nil ?_
  refine q_n ?_
  refine w_f rfl ?_
  refine w_skip ?_
  refine q_n ?_
  refine w_seq ?_
  refine w_seq ?_
  refine w_reg rfl ?_
  refine v_assign (c := .v (.int .i64 0)) rfl ?_
  refine v_nil ?_
  refine q_n ?_
  refine w_block ?_
  refine w_loop (fun k sl H => ∃ i : Nat, k = xs.length - i ∧ i ≤ xs.length ∧ sl = sls [(0, .c (ints false xs)), (1, .c (ints false xs)), (5, cI i)] ∧ H = []) ?_ ?_
  · refine ⟨_, _, _, ?_, 0, rfl, Nat.zero_le _, rfl, rfl⟩
    exact turn0 ⟨tr_sl, tr_sl, tr_v, trivial⟩
  rintro k sl H ⟨i, rfl, hi, rfl, rfl⟩
  refine w_seq ?_
  refine w_seq ?_
  refine w_reg rfl ?_
  refine v_move rfl ?_
  refine v_move rfl ?_
  refine v_len_sl lay66 rfl ?_
  refine v_lss lay3 rfl rfl (fun h2 => ?_) (fun h2 => ?_)
  rotate_left
  · refine v_nil ?_
    refine q_n ?_
    refine w_f rfl ?_
    refine w_exit ?_
    refine q_e ?_
    refine q_e ?_
    refine q_hit ?_
    refine q_n ?_
    refine w_seq ?_
    refine w_reg rfl ?_
    refine v_assign (c := .v (.bool true)) rfl ?_
    refine v_nil ?_
    refine q_n ?_
    refine w_ret ?_
    refine r_r rfl ?_
    exact a_b ⟨fun _ => trivial, fun _ => rfl⟩
  have i1 : i < xs.length := by omega
  refine v_nil ?_
  refine q_n ?_
  refine w_t rfl ?_
  refine w_skip ?_
  refine q_n ?_
  refine w_seq ?_
  refine w_block ?_
  refine w_seq ?_
  refine w_draw [0, 0, 3, 7, 0, 0, 48, 112, 255] [⟨0, 0, []⟩, ⟨1, 0, []⟩, ⟨2, 0, []⟩, ⟨3, 0, []⟩, ⟨4, 0, []⟩, ⟨5, 0, []⟩, ⟨6, 0, []⟩, ⟨7, 0, []⟩, ⟨8, 0, []⟩] rfl rfl ?_
  refine d_q rfl rfl rfl rfl rfl ?_
  refine v_move rfl ?_
  refine v_nil ?_
  refine d_q rfl rfl rfl rfl rfl ?_
  refine v_move rfl ?_
  refine v_nil ?_
  refine d_q rfl rfl rfl rfl rfl ?_
  refine v_idx_e (k := 1) (i) int_len lay66 lay2 rfl rfl rfl (rfl) rfl (rfl) (i1) ?_
  refine v_nil ?_
  refine d_q rfl rfl rfl rfl rfl ?_
  refine v_load_vw (.c (.v _)) lay2 rfl rfl rfl ?_
  refine v_nil ?_
  refine d_q rfl rfl rfl rfl rfl ?_
  refine v_move rfl ?_
  refine v_nil ?_
  refine d_q rfl rfl rfl rfl rfl ?_
  refine v_move rfl ?_
  refine v_nil ?_
  refine d_q rfl rfl rfl rfl rfl ?_
  refine v_idx_e (k := 1) (i) int_len lay66 lay2 rfl rfl rfl (rfl) rfl (rfl) (i1) ?_
  refine v_nil ?_
  refine d_q rfl rfl rfl rfl rfl ?_
  refine v_load_vw (.c (.v _)) lay2 rfl rfl rfl ?_
  refine v_nil ?_
  refine d_q rfl rfl rfl rfl rfl ?_
  refine v_neq lay2 rfl rfl (fun h5 => ?_) (fun h5 => ?_)
  · exact absurd rfl h5
  refine v_nil ?_
  refine d_nil ?_
  refine q_n ?_
  refine w_f rfl ?_
  refine w_skip ?_
  refine q_bn ?_
  refine q_n ?_
  refine w_reg rfl ?_
  refine v_move rfl ?_
  refine v_add lay3 rfl rfl (i64r (by omega)) ?_
  refine v_assign rfl ?_
  refine v_nil ?_
  refine q_n ?_
  refine ⟨_, _, _, ?_, ⟨i + 1, rfl, by omega, rfl, rfl⟩, by omega⟩
  exact turn0 ⟨tr_sl, tr_sl, tr_v, trivial⟩
theorem cToJoint (j : Jo) (h1 : j.2.1.length ≤ 2 ^ 40) (h2 : j.2.2.1.length ≤ 2 ^ 40) : PureC X 57 [.agg (jof false j)] (.agg (jof true j)) := by
  refine PureC.of_body (drawD_ok X) (fun _ _ => Go.Proofs.Try.call57 _ _) Go.Proofs.Try.func57 rfl (n := 20) rfl ?_
  refine w_seq ?_
  refine w_reg rfl ?_
  refine v_box (m := 0) (H' := [_]) lay94 rfl rfl rfl ?_
  refine v_alloc (m := 1) (H' := [_, ⟨[.v _, .v _, .f _ _, .f _ _, .f _ _, .f _ _, .f _ _, .f _ _, .f _ _, .f _ _, .f _ _, .f _ _, .f _ _, .f _ _, .f _ _, .f _ _, .f _ _, .f _ _, .f _ _, .f _ _, .f _ _, .f _ _, .v _, .v _, .v _], 68, true⟩]) lay68 rfl rfl ?_
  refine v_nil ?_
  refine q_n ?_
  refine w_seq ?_
  refine w_reg rfl ?_
  refine v_alloc (m := 2) (H' := [_, _, ⟨[.v _, .v _, .f _ _, .f _ _, .f _ _, .f _ _, .f _ _, .f _ _, .f _ _, .f _ _, .f _ _, .f _ _, .f _ _, .f _ _, .f _ _, .f _ _, .f _ _, .f _ _, .f _ _, .f _ _, .f _ _, .f _ _, .v _, .v _, .v _], 68, true⟩]) lay68 rfl rfl ?_
  refine v_nil ?_
  refine q_n ?_
  refine w_seq ?_
  refine w_reg rfl ?_
  refine v_fa_pt (off' := 0) lay94 rfl rfl rfl ?_
  refine v_load_pt (.agg [_, _, _, _, _, _, _, _, _, _, _, _, _, _, _, _, _, _, _, _, _, _]) lay92 rfl rfl rfl rfl ?_
  refine v_call (cToJunction _) rfl rfl rfl (.cons (vw_agg (.cons vw_v (.cons vw_v (.cons vw_f (.cons vw_f (.cons vw_f (.cons vw_f (.cons vw_f (.cons vw_f (.cons vw_f (.cons vw_f (.cons vw_f (.cons vw_f (.cons vw_f (.cons vw_f (.cons vw_f (.cons vw_f (.cons vw_f (.cons vw_f (.cons vw_f (.cons vw_f (.cons vw_f (.cons vw_f .nil))))))))))))))))))))))) .nil) ?_
  refine v_fa_pt (off' := 0) lay68 rfl rfl rfl ?_
  refine v_store (H' := [_, _, ⟨[_, _, _, _, _, _, _, _, _, _, _, _, _, _, _, _, _, _, _, _, _, _, _, _, _], 68, true⟩]) lay65 rfl rfl rfl rfl rfl rfl ?_
  refine v_nil ?_
  refine q_n ?_
  refine w_seq ?_
  refine w_reg rfl ?_
  refine v_fa_pt (off' := 22) lay94 rfl rfl rfl ?_
  refine v_load_pt (.c _) lay66 rfl rfl rfl rfl ?_
  refine v_call (cToIntS _ (by omega)) rfl rfl rfl (.cons vw_sl .nil) ?_
  refine v_fa_pt (off' := 22) lay68 rfl rfl rfl ?_
  refine v_store (H' := [_, _, ⟨[_, _, _, _, _, _, _, _, _, _, _, _, _, _, _, _, _, _, _, _, _, _, _, _, _], 68, true⟩]) lay66 rfl rfl rfl rfl rfl rfl ?_
  refine v_nil ?_
  refine q_n ?_
  refine w_seq ?_
  refine w_reg rfl ?_
  refine v_fa_pt (off' := 23) lay94 rfl rfl rfl ?_
  refine v_load_pt (.c _) lay66 rfl rfl rfl rfl ?_
  refine v_call (cToIntS _ (by omega)) rfl rfl rfl (.cons vw_sl .nil) ?_
  refine v_fa_pt (off' := 23) lay68 rfl rfl rfl ?_
  refine v_store (H' := [_, _, ⟨[_, _, _, _, _, _, _, _, _, _, _, _, _, _, _, _, _, _, _, _, _, _, _, _, _], 68, true⟩]) lay66 rfl rfl rfl rfl rfl rfl ?_
  refine v_nil ?_
  refine q_n ?_
  refine w_seq ?_
  refine w_reg rfl ?_
  refine v_fa_pt (off' := 24) lay94 rfl rfl rfl ?_
  refine v_load_pt (.c _) lay2 rfl rfl rfl rfl ?_
  refine v_fa_pt (off' := 24) lay68 rfl rfl rfl ?_
  refine v_store (H' := [_, _, ⟨[_, _, _, _, _, _, _, _, _, _, _, _, _, _, _, _, _, _, _, _, _, _, _, _, _], 68, true⟩]) lay2 rfl rfl rfl rfl rfl rfl ?_
  refine v_nil ?_
  refine q_n ?_
  refine w_seq ?_
  refine w_reg rfl ?_
  refine v_load_pt (.agg [_, _, _, _, _, _, _, _, _, _, _, _, _, _, _, _, _, _, _, _, _, _, _, _, _]) lay68 rfl rfl rfl rfl ?_
  refine v_store (H' := [_, ⟨[_, _, _, _, _, _, _, _, _, _, _, _, _, _, _, _, _, _, _, _, _, _, _, _, _], 68, true⟩, _]) lay68 rfl rfl rfl rfl rfl rfl ?_
  refine v_nil ?_
  refine q_n ?_
  refine w_ret ?_
  refine r_r rfl ?_
  exact a_agg (.cons tr_v (.cons tr_v (.cons tr_f (.cons tr_f (.cons tr_f (.cons tr_f (.cons tr_f (.cons tr_f (.cons tr_f (.cons tr_f (.cons tr_f (.cons tr_f (.cons tr_f (.cons tr_f (.cons tr_f (.cons tr_f (.cons tr_f (.cons tr_f (.cons tr_f (.cons tr_f (.cons tr_f (.cons tr_f (.cons tr_sl (.cons tr_sl (.cons tr_v .nil)))))))))))))))))))))))))
theorem cToJointS (ps : List Jo) (hx : ps.length ≤ 2 ^ 30) (hP : ∀ p ∈ ps, p.2.1.length ≤ 2 ^ 40 ∧ p.2.2.1.length ≤ 2 ^ 40) : PureC X 21 [.c (.sl false ps.length 25 (flat joc ps))] (.c (.sl true ps.length 25 (flat joc ps))) := by
  refine PureC.of_body (drawD_ok X) (fun _ _ => Go.Proofs.Try.call21 _ _) Go.Proofs.Try.func21 rfl (n := 23) rfl ?_
  refine w_seq ?_
  refine w_reg rfl ?_
  refine v_assign rfl ?_
  refine v_nil ?_
  refine q_n ?_
  refine w_seq ?_
  refine w_reg rfl ?_
  refine v_move rfl ?_
  refine v_len_sl lay24 rfl ?_
  refine v_make (enc := ozj) (a0 := none) (m := 0) (H' := [_]) rfl lay32 lay68 rfl rfl rfl rfl (ps.length) (rfl) (by unfold maxLen; simp only []; omega) rfl rfl ?_
  refine v_assign rfl ?_
  refine v_nil ?_
  refine q_n ?_
  refine w_seq ?_
  refine w_seq ?_
  refine w_reg rfl ?_
  refine v_assign (c := .v (.int .i64 0)) rfl ?_
  refine v_nil ?_
  refine q_n ?_
  refine w_block ?_
  refine w_loop (fun k sl H => ∃ i : Nat, k = ps.length - i ∧ i ≤ ps.length ∧ sl = sls [(0, .c (.sl false ps.length 25 (flat joc ps))), (3, .c (.mu 0 0 ps.length 25)), (4, cI i)] ∧ H = [⟨flat ozj ((ps.map some).take i ++ List.replicate ((ps.map some).length - i) none), 68, true⟩]) ?_ ?_
  · refine ⟨_, _, _, ?_, 0, rfl, Nat.zero_le _, rfl, rfl⟩
    exact turn [some 0] rfl rfl rfl ⟨⟨_, rfl, trc_flatz ozj_sc (by simp)⟩, trivial⟩ ⟨tr_sl, tr_mu rfl, tr_v, trivial⟩
  rintro k sl H ⟨i, rfl, hi, rfl, rfl⟩
  refine w_seq ?_
  refine w_seq ?_
  refine w_reg rfl ?_
  refine v_move rfl ?_
  refine v_move rfl ?_
  refine v_len_sl lay24 rfl ?_
  refine v_lss lay3 rfl rfl (fun h1 => ?_) (fun h1 => ?_)
  rotate_left
  · refine v_nil ?_
    refine q_n ?_
    refine w_f rfl ?_
    refine w_exit ?_
    refine q_e ?_
    refine q_e ?_
    refine q_hit ?_
    refine q_n ?_
    refine w_seq ?_
    refine w_reg rfl ?_
    refine v_move rfl ?_
    refine v_assign rfl ?_
    refine v_nil ?_
    refine q_n ?_
    refine w_ret ?_
    refine r_r rfl ?_
    obtain rfl : i = ps.length := by omega
    exact a_flatz joc_sc joc_len rfl (by rw [← ozj_flat, List.take_of_length_le (by simp)]; simp) rfl rfl
  have hi1 : i < ps.length := by omega
  refine v_nil ?_
  refine q_n ?_
  refine w_t rfl ?_
  refine w_skip ?_
  refine q_n ?_
  refine w_seq ?_
  refine w_block ?_
  refine w_reg rfl ?_
  refine v_move rfl ?_
  refine v_move rfl ?_
  refine v_move rfl ?_
  refine v_move rfl ?_
  refine v_idx_e (k := 25) (i) joc_len lay24 lay94 rfl rfl rfl (rfl) rfl (rfl) (hi1) ?_
  refine v_load_vw (.agg [.v _, .v _, .f _ _, .f _ _, .f _ _, .f _ _, .f _ _, .f _ _, .f _ _, .f _ _, .f _ _, .f _ _, .f _ _, .f _ _, .f _ _, .f _ _, .f _ _, .f _ _, .f _ _, .f _ _, .f _ _, .f _ _, _, _, .v _]) lay94 rfl rfl rfl ?_
  refine v_call (cToJoint _ (hP _ (List.getElem_mem hi1)).1 (hP _ (List.getElem_mem hi1)).2) rfl rfl rfl (.cons (vw_agg (.cons vw_v (.cons vw_v (.cons vw_f (.cons vw_f (.cons vw_f (.cons vw_f (.cons vw_f (.cons vw_f (.cons vw_f (.cons vw_f (.cons vw_f (.cons vw_f (.cons vw_f (.cons vw_f (.cons vw_f (.cons vw_f (.cons vw_f (.cons vw_f (.cons vw_f (.cons vw_f (.cons vw_f (.cons vw_f (.cons vw_sl (.cons vw_sl (.cons vw_v .nil)))))))))))))))))))))))))) .nil) ?_
  refine v_idx_mu_e (k := 25) (off := 0) (i) lay32 lay68 rfl rfl rfl (rfl) (hi1) ?_
  refine v_store_flat (H' := [_]) i 0 ((ps.map some)[i]'(by simpa using hi1)) ozj_len lay68 rfl rfl rfl (by omega) (by simp; omega) rfl rfl (by rw [List.getElem_map]; exact (ozj_set _ _).symm) rfl ?_
  refine v_nil ?_
  refine q_bn ?_
  refine q_n ?_
  refine w_reg rfl ?_
  refine v_move rfl ?_
  refine v_add lay3 rfl rfl (i64r (by omega)) ?_
  refine v_assign rfl ?_
  refine v_nil ?_
  refine q_n ?_
  refine ⟨_, _, _, ?_, ⟨i + 1, rfl, by omega, rfl, rfl⟩, by omega⟩
  exact turn [some 0] rfl rfl rfl ⟨⟨_, rfl, by rw [fill_step (xs := ps.map some) (by simpa using hi1)]; exact .stay (fun c hc => stays_fz (fz_flat ozj_sc _ c hc))⟩, trivial⟩ ⟨tr_sl, tr_mu rfl, tr_v, trivial⟩
theorem cSzJoint (j : Jo) (l : Int) (hl : 0 ≤ l ∧ l ≤ 2 ^ 20) (hx : j.2.1.length ≤ maxLen) (hy : j.2.2.1.length ≤ maxLen) : PureC X 50 [.agg (jof false j), cI l] (cI (szJ j l)) := by
  refine PureC.of_body (drawD_ok X) (fun _ _ => Go.Proofs.Try.call50 _ _) Go.Proofs.Try.func50 rfl (n := 18) rfl ?_
  refine w_seq ?_
  refine w_reg rfl ?_
  refine v_box (m := 0) (H' := [_]) lay94 rfl rfl rfl ?_
  refine v_assign (c := .v (.int .i64 0)) rfl ?_
  refine v_nil ?_
  refine q_n ?_
  refine w_seq ?_
  refine w_reg rfl ?_
  refine v_fa_pt (off' := 22) lay94 rfl rfl rfl ?_
  refine v_load_pt (.c _) lay66 rfl rfl rfl rfl ?_
  refine v_move rfl ?_
  refine v_call (cSzIntS _ _ (by first | exact hl | exact ⟨(szr_rng hl (by assumption)).1, (szr_rng hl (by assumption)).2.1⟩) (by assumption)) rfl rfl rfl (.cons vw_sl (.cons vw_v .nil)) ?_
  refine v_assign rfl ?_
  refine v_nil ?_
  refine q_n ?_
  refine w_seq ?_
  refine w_seq ?_
  refine w_reg rfl ?_
  refine v_move rfl ?_
  refine v_lss lay3 rfl rfl (fun h1 => ?_) (fun h1 => ?_)
  · refine v_nil ?_
    refine q_n ?_
    refine w_t rfl ?_
    refine w_seq ?_
    refine w_reg rfl ?_
    refine v_assign (c := .v (.int .i64 (-1))) rfl ?_
    refine v_nil ?_
    refine q_n ?_
    refine w_ret (q_r ?_)
    refine r_r rfl ?_
    exact a_i (by unfold szJ; rw [szr_neg h1])
  refine v_nil ?_
  refine q_n ?_
  refine w_f rfl ?_
  refine w_skip ?_
  refine q_n ?_
  refine w_seq ?_
  refine w_reg rfl ?_
  refine v_fa_pt (off' := 23) lay94 rfl rfl rfl ?_
  refine v_load_pt (.c _) lay66 rfl rfl rfl rfl ?_
  refine v_move rfl ?_
  refine v_call (cSzIntS _ _ (by first | exact hl | exact ⟨(szr_rng hl (by assumption)).1, (szr_rng hl (by assumption)).2.1⟩) (by assumption)) rfl rfl rfl (.cons vw_sl (.cons vw_v .nil)) ?_
  refine v_assign rfl ?_
  refine v_nil ?_
  refine q_n ?_
  refine w_seq ?_
  refine w_seq ?_
  refine w_reg rfl ?_
  refine v_move rfl ?_
  refine v_lss lay3 rfl rfl (fun h2 => ?_) (fun h2 => ?_)
  rotate_left
  · refine v_nil ?_
    refine q_n ?_
    refine w_f rfl ?_
    refine w_skip ?_
    refine q_n ?_
    refine w_seq ?_
    refine w_reg rfl ?_
    refine v_move rfl ?_
    refine v_assign rfl ?_
    refine v_nil ?_
    refine q_n ?_
    refine w_ret ?_
    refine r_r rfl ?_
    exact a_i rfl
  refine v_nil ?_
  refine q_n ?_
  refine w_t rfl ?_
  refine w_seq ?_
  refine w_reg rfl ?_
  refine v_assign (c := .v (.int .i64 (-1))) rfl ?_
  refine v_nil ?_
  refine q_n ?_
  refine w_ret (q_r ?_)
  refine r_r rfl ?_
  exact a_i (by unfold szJ at *; unfold szr at *; split at h2 <;> omega)
theorem cSzJointS (ps : List Jo) (l : Int) (hl : 0 ≤ l ∧ l ≤ 2 ^ 20) (hx : ps.length ≤ maxLen) (hM : ∀ p ∈ ps, p.2.1.length ≤ maxLen ∧ p.2.2.1.length ≤ maxLen) : PureC X 16 [.c (.sl false ps.length 25 (flat joc ps)), cI l] (cI (szL szJ ps l)) := by
  refine PureC.of_body (drawD_ok X) (fun _ _ => Go.Proofs.Try.call16 _ _) Go.Proofs.Try.func16 rfl (n := 27) rfl ?_
  refine w_seq ?_
  refine w_reg rfl ?_
  refine v_assign (c := .v (.int .i64 0)) rfl ?_
  refine v_nil ?_
  refine q_n ?_
  refine w_seq ?_
  refine w_reg rfl ?_
  refine v_move rfl ?_
  refine v_move rfl ?_
  refine v_len_sl lay24 rfl ?_
  refine v_sub lay3 rfl rfl (i64r (by unfold maxLen at hx; omega)) ?_
  refine v_assign rfl ?_
  refine v_nil ?_
  refine q_n ?_
  refine w_seq ?_
  refine w_seq ?_
  refine w_reg rfl ?_
  refine v_move rfl ?_
  refine v_lss lay3 rfl rfl (fun h1 => ?_) (fun h1 => ?_)
  · refine v_nil ?_
    refine q_n ?_
    refine w_t rfl ?_
    refine w_seq ?_
    refine w_reg rfl ?_
    refine v_assign (c := .v (.int .i64 (-1))) rfl ?_
    refine v_nil ?_
    refine q_n ?_
    refine w_ret (q_r ?_)
    refine r_r rfl ?_
    exact a_i (by unfold szL; rw [if_pos h1])
  refine v_nil ?_
  refine q_n ?_
  refine w_f rfl ?_
  refine w_skip ?_
  refine q_n ?_
  refine w_seq ?_
  refine w_seq ?_
  refine w_reg rfl ?_
  refine v_assign (c := .v (.int .i64 0)) rfl ?_
  refine v_nil ?_
  refine q_n ?_
  refine w_block ?_
  refine w_loop (fun k sl H => ∃ (i : Nat) (l1 : Int), k = ps.length - i ∧ i ≤ ps.length ∧ szG szJ (ps.drop i) l1 = szG szJ ps (l - ps.length) ∧ (0 ≤ l1 ∧ l1 ≤ 2 ^ 20) ∧ sl = sls [(0, .c (.sl false ps.length 25 (flat joc ps))), (1, cI l1), (5, cI i)] ∧ H = []) ?_ ?_
  · refine ⟨_, _, _, ?_, 0, l - ps.length, rfl, Nat.zero_le _, rfl, ⟨by omega, by omega⟩, rfl, rfl⟩
    exact turn0 ⟨tr_sl, tr_v, tr_v, trivial⟩
  rintro k sl H ⟨i, l1, rfl, hi, hp, hl1, rfl, rfl⟩
  refine w_seq ?_
  refine w_seq ?_
  refine w_reg rfl ?_
  refine v_move rfl ?_
  refine v_move rfl ?_
  refine v_len_sl lay24 rfl ?_
  refine v_lss lay3 rfl rfl (fun h2 => ?_) (fun h2 => ?_)
  rotate_left
  · refine v_nil ?_
    refine q_n ?_
    refine w_f rfl ?_
    refine w_exit ?_
    refine q_e ?_
    refine q_e ?_
    refine q_hit ?_
    refine q_n ?_
    refine w_seq ?_
    refine w_reg rfl ?_
    refine v_move rfl ?_
    refine v_assign rfl ?_
    refine v_nil ?_
    refine q_n ?_
    refine w_ret ?_
    refine r_r rfl ?_
    obtain rfl : i = ps.length := by omega
    exact a_i (by unfold szL; rw [if_neg h1, ← hp, List.drop_length]; rfl)
  have hi1 : i < ps.length := by omega
  refine v_nil ?_
  refine q_n ?_
  refine w_t rfl ?_
  refine w_skip ?_
  refine q_n ?_
  refine w_seq ?_
  refine w_block ?_
  refine w_seq ?_
  refine w_reg rfl ?_
  refine v_move rfl ?_
  refine v_move rfl ?_
  refine v_idx_e (k := 25) (i) joc_len lay24 lay94 rfl rfl rfl (rfl) rfl (rfl) (hi1) ?_
  refine v_load_vw (.agg [.v _, .v _, .f _ _, .f _ _, .f _ _, .f _ _, .f _ _, .f _ _, .f _ _, .f _ _, .f _ _, .f _ _, .f _ _, .f _ _, .f _ _, .f _ _, .f _ _, .f _ _, .f _ _, .f _ _, .f _ _, .f _ _, _, _, .v _]) lay94 rfl rfl rfl ?_
  refine v_move rfl ?_
  refine v_call (cSzJoint _ _ hl1 (hM _ (List.getElem_mem hi1)).1 (hM _ (List.getElem_mem hi1)).2) rfl rfl rfl (.cons (vw_agg (.cons vw_v (.cons vw_v (.cons vw_f (.cons vw_f (.cons vw_f (.cons vw_f (.cons vw_f (.cons vw_f (.cons vw_f (.cons vw_f (.cons vw_f (.cons vw_f (.cons vw_f (.cons vw_f (.cons vw_f (.cons vw_f (.cons vw_f (.cons vw_f (.cons vw_f (.cons vw_f (.cons vw_f (.cons vw_f (.cons vw_sl (.cons vw_sl (.cons vw_v .nil)))))))))))))))))))))))))) (.cons vw_v .nil)) ?_
  refine v_assign rfl ?_
  refine v_nil ?_
  refine q_n ?_
  refine w_seq ?_
  refine w_reg rfl ?_
  refine v_move rfl ?_
  refine v_lss lay3 rfl rfl (fun h4 => ?_) (fun h4 => ?_)
  · have hneg : szJ ps[i] l1 < 0 := h4
    refine v_nil ?_
    refine q_n ?_
    refine w_t rfl ?_
    refine w_seq ?_
    refine w_reg rfl ?_
    refine v_assign (c := .v (.int .i64 (-1))) rfl ?_
    refine v_nil ?_
    refine q_n ?_
    refine w_ret (q_br (q_r (q_r (q_br (q_r ?_)))))
    refine r_r rfl ?_
    exact a_i (by unfold szL; rw [if_neg h1, ← hp, szG_at hi1, if_pos hneg])
  have hneg : ¬ szJ ps[i] l1 < 0 := h4
  refine v_nil ?_
  refine q_n ?_
  refine w_f rfl ?_
  refine w_skip ?_
  refine q_bn ?_
  refine q_n ?_
  refine w_reg rfl ?_
  refine v_move rfl ?_
  refine v_add lay3 rfl rfl (i64r (by unfold maxLen at hx; omega)) ?_
  refine v_assign rfl ?_
  refine v_nil ?_
  refine q_n ?_
  rw [szG_at hi1, if_neg hneg] at hp
  have hr := (szJ_le _ _ hl1 hneg).1
  refine ⟨_, _, _, ?_, ⟨i + 1, _, rfl, by omega, hp, hr, rfl, rfl⟩, by omega⟩
  exact turn0 ⟨tr_sl, tr_v, tr_v, trivial⟩
theorem cEqJoint (j : Jo) (hx : j.2.1.length ≤ 2 ^ 40) (hy : j.2.2.1.length ≤ 2 ^ 40) (hW : jW j.1) : PureC X 65 [.agg (jof false j), .agg (jof false j)] (cB (decide True)) := by
  refine PureC.of_body (drawD_ok X) (fun _ _ => Go.Proofs.Try.call65 _ _) Go.Proofs.Try.func65 rfl (n := 28) rfl ?_
  refine w_seq ?_
  refine w_reg rfl ?_
  refine v_box (m := 0) (H' := [_]) lay68 rfl rfl rfl ?_
  refine v_box (m := 1) (H' := [_, _]) lay68 rfl rfl rfl ?_
  refine v_assign (c := .v (.bool false)) rfl ?_
  refine v_nil ?_
  refine q_n ?_
  refine w_seq ?_
  refine w_seq ?_
  refine w_reg rfl ?_
  refine v_fa_pt (off' := 0) lay68 rfl rfl rfl ?_
  refine v_load_pt (.agg [_, _, _, _, _, _, _, _, _, _, _, _, _, _, _, _, _, _, _, _, _, _]) lay65 rfl rfl rfl rfl ?_
  refine v_fa_pt (off' := 0) lay68 rfl rfl rfl ?_
  refine v_load_pt (.agg [_, _, _, _, _, _, _, _, _, _, _, _, _, _, _, _, _, _, _, _, _, _]) lay65 rfl rfl rfl rfl ?_
  refine v_callb (cEqJunction _ hW) rfl rfl (.cons (vw_agg (.cons vw_v (.cons vw_v (.cons vw_f (.cons vw_f (.cons vw_f (.cons vw_f (.cons vw_f (.cons vw_f (.cons vw_f (.cons vw_f (.cons vw_f (.cons vw_f (.cons vw_f (.cons vw_f (.cons vw_f (.cons vw_f (.cons vw_f (.cons vw_f (.cons vw_f (.cons vw_f (.cons vw_f (.cons vw_f .nil))))))))))))))))))))))) (.cons (vw_agg (.cons vw_v (.cons vw_v (.cons vw_f (.cons vw_f (.cons vw_f (.cons vw_f (.cons vw_f (.cons vw_f (.cons vw_f (.cons vw_f (.cons vw_f (.cons vw_f (.cons vw_f (.cons vw_f (.cons vw_f (.cons vw_f (.cons vw_f (.cons vw_f (.cons vw_f (.cons vw_f (.cons vw_f (.cons vw_f .nil))))))))))))))))))))))) .nil)) (fun h1 => ?_) (fun h1 => ?_)
  rotate_left
  · exact absurd trivial h1
  refine v_not false rfl rfl ?_
  refine v_nil ?_
  refine q_n ?_
  refine w_f rfl ?_
  refine w_skip ?_
  refine q_n ?_
  refine w_seq ?_
  refine w_seq ?_
  refine w_reg rfl ?_
  refine v_fa_pt (off' := 22) lay68 rfl rfl rfl ?_
  refine v_load_pt (.c _) lay66 rfl rfl rfl rfl ?_
  refine v_fa_pt (off' := 22) lay68 rfl rfl rfl ?_
  refine v_load_pt (.c _) lay66 rfl rfl rfl rfl ?_
  refine v_callb (cEqIntS _ (by omega)) rfl rfl (.cons vw_sl (.cons vw_sl .nil)) (fun h2 => ?_) (fun h2 => ?_)
  rotate_left
  · exact absurd trivial h2
  refine v_not false rfl rfl ?_
  refine v_nil ?_
  refine q_n ?_
  refine w_f rfl ?_
  refine w_skip ?_
  refine q_n ?_
  refine w_seq ?_
  refine w_seq ?_
  refine w_reg rfl ?_
  refine v_fa_pt (off' := 23) lay68 rfl rfl rfl ?_
  refine v_load_pt (.c _) lay66 rfl rfl rfl rfl ?_
  refine v_fa_pt (off' := 23) lay68 rfl rfl rfl ?_
  refine v_load_pt (.c _) lay66 rfl rfl rfl rfl ?_
  refine v_callb (cEqIntS _ (by omega)) rfl rfl (.cons vw_sl (.cons vw_sl .nil)) (fun h3 => ?_) (fun h3 => ?_)
  rotate_left
  · exact absurd trivial h3
  refine v_not false rfl rfl ?_
  refine v_nil ?_
  refine q_n ?_
  refine w_f rfl ?_
  refine w_skip ?_
  refine q_n ?_
  refine w_seq ?_
  refine w_seq ?_
  refine w_reg rfl ?_
  refine v_fa_pt (off' := 24) lay68 rfl rfl rfl ?_
  refine v_load_pt (.c _) lay2 rfl rfl rfl rfl ?_
  refine v_fa_pt (off' := 24) lay68 rfl rfl rfl ?_
  refine v_load_pt (.c _) lay2 rfl rfl rfl rfl ?_
  refine v_neq lay2 rfl rfl (fun h4 => ?_) (fun h4 => ?_)
  · exact absurd rfl h4
  refine v_nil ?_
  refine q_n ?_
  refine w_f rfl ?_
  refine w_skip ?_
  refine q_n ?_
  refine w_seq ?_
  refine w_reg rfl ?_
  refine v_assign (c := .v (.bool true)) rfl ?_
  refine v_nil ?_
  refine q_n ?_
  refine w_ret ?_
  refine r_r rfl ?_
  exact a_b ⟨fun _ => trivial, fun _ => rfl⟩
theorem cEqJointS (xs : List Jo) (hx : xs.length ≤ 2 ^ 40) (hw : ∀ x ∈ xs, (x.2.1.length ≤ 2 ^ 40 ∧ x.2.2.1.length ≤ 2 ^ 40) ∧ jW x.1) : PureC X 33 [.c (.sl false xs.length 25 (flat joc xs)), .c (.sl false xs.length 25 (flat joc xs))] (cB (decide True)) := by
  refine PureC.of_body (drawD_ok X) (fun _ _ => Go.Proofs.Try.call33 _ _) Go.Proofs.Try.func33 rfl (n := 27) rfl ?_
  refine w_seq ?_
  refine w_reg rfl ?_
  refine v_assign (c := .v (.bool false)) rfl ?_
  refine v_nil ?_
  refine q_n ?_
  refine w_seq ?_
  refine w_seq ?_
  refine w_reg rfl ?_
  refine v_move rfl ?_
  refine v_len_sl lay32 rfl ?_
  refine v_move rfl ?_
  refine v_len_sl lay32 rfl ?_
  refine v_neq lay3 rfl rfl (fun h1 => ?_) (fun h1 => ?_)
  · exact absurd rfl h1
  refine v_nil ?_
  refine q_n ?_
  refine w_f rfl ?_
  refine w_skip ?_
  refine q_n ?_
  refine w_seq ?_
  refine w_seq ?_
  refine w_reg rfl ?_
  refine v_assign (c := .v (.int .i64 0)) rfl ?_
  refine v_nil ?_
  refine q_n ?_
  refine w_block ?_
  refine w_loop (fun k sl H => ∃ i : Nat, k = xs.length - i ∧ i ≤ xs.length ∧ sl = sls [(0, .c (.sl false xs.length 25 (flat joc xs))), (1, .c (.sl false xs.length 25 (flat joc xs))), (5, cI i)] ∧ H = []) ?_ ?_
  · refine ⟨_, _, _, ?_, 0, rfl, Nat.zero_le _, rfl, rfl⟩
    exact turn0 ⟨tr_sl, tr_sl, tr_v, trivial⟩
  rintro k sl H ⟨i, rfl, hi, rfl, rfl⟩
  refine w_seq ?_
  refine w_seq ?_
  refine w_reg rfl ?_
  refine v_move rfl ?_
  refine v_move rfl ?_
  refine v_len_sl lay32 rfl ?_
  refine v_lss lay3 rfl rfl (fun h2 => ?_) (fun h2 => ?_)
  rotate_left
  · refine v_nil ?_
    refine q_n ?_
    refine w_f rfl ?_
    refine w_exit ?_
    refine q_e ?_
    refine q_e ?_
    refine q_hit ?_
    refine q_n ?_
    refine w_seq ?_
    refine w_reg rfl ?_
    refine v_assign (c := .v (.bool true)) rfl ?_
    refine v_nil ?_
    refine q_n ?_
    refine w_ret ?_
    refine r_r rfl ?_
    exact a_b ⟨fun _ => trivial, fun _ => rfl⟩
  have i1 : i < xs.length := by omega
  refine v_nil ?_
  refine q_n ?_
  refine w_t rfl ?_
  refine w_skip ?_
  refine q_n ?_
  refine w_seq ?_
  refine w_block ?_
  refine w_seq ?_
  refine w_draw [0, 0, 3, 7, 0, 0, 48, 112, 255, 511] [⟨0, 0, []⟩, ⟨1, 0, []⟩, ⟨2, 0, []⟩, ⟨3, 0, []⟩, ⟨4, 0, []⟩, ⟨5, 0, []⟩, ⟨6, 0, []⟩, ⟨7, 0, []⟩, ⟨8, 0, []⟩, ⟨9, 0, []⟩] rfl rfl ?_
  refine d_q rfl rfl rfl rfl rfl ?_
  refine v_move rfl ?_
  refine v_nil ?_
  refine d_q rfl rfl rfl rfl rfl ?_
  refine v_move rfl ?_
  refine v_nil ?_
  refine d_q rfl rfl rfl rfl rfl ?_
  refine v_idx_e (k := 25) (i) joc_len lay32 lay68 rfl rfl rfl (rfl) rfl (rfl) (i1) ?_
  refine v_nil ?_
  refine d_q rfl rfl rfl rfl rfl ?_
  refine v_load_vw (.agg [.v _, .v _, .f _ _, .f _ _, .f _ _, .f _ _, .f _ _, .f _ _, .f _ _, .f _ _, .f _ _, .f _ _, .f _ _, .f _ _, .f _ _, .f _ _, .f _ _, .f _ _, .f _ _, .f _ _, .f _ _, .f _ _, _, _, .v _]) lay68 rfl rfl rfl ?_
  refine v_nil ?_
  refine d_q rfl rfl rfl rfl rfl ?_
  refine v_move rfl ?_
  refine v_nil ?_
  refine d_q rfl rfl rfl rfl rfl ?_
  refine v_move rfl ?_
  refine v_nil ?_
  refine d_q rfl rfl rfl rfl rfl ?_
  refine v_idx_e (k := 25) (i) joc_len lay32 lay68 rfl rfl rfl (rfl) rfl (rfl) (i1) ?_
  refine v_nil ?_
  refine d_q rfl rfl rfl rfl rfl ?_
  refine v_load_vw (.agg [.v _, .v _, .f _ _, .f _ _, .f _ _, .f _ _, .f _ _, .f _ _, .f _ _, .f _ _, .f _ _, .f _ _, .f _ _, .f _ _, .f _ _, .f _ _, .f _ _, .f _ _, .f _ _, .f _ _, .f _ _, .f _ _, _, _, .v _]) lay68 rfl rfl rfl ?_
  refine v_nil ?_
  refine d_callb (cEqJoint _ (hw _ (List.getElem_mem i1)).1.1 (hw _ (List.getElem_mem i1)).1.2 (hw _ (List.getElem_mem i1)).2) rfl rfl rfl rfl (.cons (vw_agg (.cons vw_v (.cons vw_v (.cons vw_f (.cons vw_f (.cons vw_f (.cons vw_f (.cons vw_f (.cons vw_f (.cons vw_f (.cons vw_f (.cons vw_f (.cons vw_f (.cons vw_f (.cons vw_f (.cons vw_f (.cons vw_f (.cons vw_f (.cons vw_f (.cons vw_f (.cons vw_f (.cons vw_f (.cons vw_f (.cons vw_sl (.cons vw_sl (.cons vw_v .nil)))))))))))))))))))))))))) (.cons (vw_agg (.cons vw_v (.cons vw_v (.cons vw_f (.cons vw_f (.cons vw_f (.cons vw_f (.cons vw_f (.cons vw_f (.cons vw_f (.cons vw_f (.cons vw_f (.cons vw_f (.cons vw_f (.cons vw_f (.cons vw_f (.cons vw_f (.cons vw_f (.cons vw_f (.cons vw_f (.cons vw_f (.cons vw_f (.cons vw_f (.cons vw_sl (.cons vw_sl (.cons vw_v .nil)))))))))))))))))))))))))) .nil)) (fun h5 => ?_) (fun h5 => ?_)
  rotate_left
  · exact absurd trivial h5
  refine d_q rfl rfl rfl rfl rfl ?_
  refine v_not false rfl rfl ?_
  refine v_nil ?_
  refine d_nil ?_
  refine q_n ?_
  refine w_f rfl ?_
  refine w_skip ?_
  refine q_bn ?_
  refine q_n ?_
  refine w_reg rfl ?_
  refine v_move rfl ?_
  refine v_add lay3 rfl rfl (i64r (by omega)) ?_
  refine v_assign rfl ?_
  refine v_nil ?_
  refine q_n ?_
  refine ⟨_, _, _, ?_, ⟨i + 1, rfl, by omega, rfl, rfl⟩, by omega⟩
  exact turn0 ⟨tr_sl, tr_sl, tr_v, trivial⟩
end Go.VL
namespace Go.VL
open Go.RowKit
set_option maxRecDepth 20000
set_option maxHeartbeats 8000000
abbrev Tw := List Rd × List (Option Nat) × List Jo × List Pln × Int × Option Nat × Option Nat
abbrev twf (o : Bool) (t : Tw) : List C := [rds o t.1, flo o t.2.1, jos o t.2.2.1, pls o t.2.2.2.1, .v (.int .i64 t.2.2.2.2.1), .f .f32 t.2.2.2.2.2.1, .f .f32 t.2.2.2.2.2.2]
/-- How long the lists of a town are at most. -/
def tB (n : Nat) (t : Tw) : Prop := t.1.length ≤ n ∧ t.2.1.length ≤ n ∧ t.2.2.1.length ≤ n ∧ (∀ j ∈ t.2.2.1, j.2.1.length ≤ n ∧ j.2.2.1.length ≤ n) ∧ t.2.2.2.1.length ≤ n ∧ ∀ p ∈ t.2.2.2.1, p.1.length ≤ n
/-- Slots whose ticks are words. -/
def pW (p : Pln) : Prop := ∀ s ∈ p.1, -9223372036854775808 ≤ s.2 ∧ s.2 ≤ 9223372036854775807
/-- A town's numbers are singles, and words. -/
def tF (t : Tw) : Prop := (∀ r ∈ t.1, rW r) ∧ (∀ x ∈ t.2.1, Sg x) ∧ (∀ j ∈ t.2.2.1, jW j.1) ∧ Sg t.2.2.2.2.2.1 ∧ Sg t.2.2.2.2.2.2 ∧ ∀ p ∈ t.2.2.2.1, pW p
theorem tB_mono {n m : Nat} (h : n ≤ m) {t : Tw} (ht : tB n t) : tB m t :=
  ⟨by have := ht.1; omega, by have := ht.2.1; omega, by have := ht.2.2.1; omega, fun j hj => by have := ht.2.2.2.1 j hj; omega, by have := ht.2.2.2.2.1; omega, fun p hp => by have := ht.2.2.2.2.2 p hp; omega⟩
def szT (t : Tw) (l : Int) : Int := szL szP t.2.2.2.1 (szL szJ t.2.2.1 (szr t.2.1.length (szr t.1.length l)))
theorem szT_le {t : Tw} {l : Int} (hl : 0 ≤ l ∧ l ≤ 2 ^ 20) (h : ¬ szT t l < 0) : tB (2 ^ 20) t ∧ 0 ≤ szT t l ∧ szT t l ≤ 2 ^ 20 := by
  unfold szT at h ⊢
  by_cases h1 : szr t.1.length l < 0
  · rw [szr_neg h1, szL_neg (f := szJ) (show (-1 : Int) < 0 by decide), szL_neg (by decide)] at h
    exact absurd (show (-1 : Int) < 0 by decide) h
  have a1 := szr_rng hl h1
  by_cases h2 : szr t.2.1.length (szr t.1.length l) < 0
  · rw [szL_neg (f := szJ) h2, szL_neg (by decide)] at h
    exact absurd (show (-1 : Int) < 0 by decide) h
  have a2 := szr_rng ⟨a1.1, a1.2.1⟩ h2
  by_cases h3 : szL szJ t.2.2.1 (szr t.2.1.length (szr t.1.length l)) < 0
  · rw [szL_neg (by omega)] at h
    exact absurd (show (-1 : Int) < 0 by decide) h
  obtain ⟨b1, b2, b3⟩ := szL_le szJ_le ⟨a2.1, a2.2.1⟩ h3
  obtain ⟨c1, c2, c3⟩ := szL_le szP_le b3 h
  exact ⟨⟨by omega, by omega, b1, b2, c1, c2⟩, c3⟩
theorem szT_1 {t : Tw} {l : Int} (h : szr t.1.length l < 0) : szT t l = -1 := by
  unfold szT
  rw [szr_neg h, szL_neg (f := szJ) (show (-1 : Int) < 0 by decide), szL_neg (by decide)]
theorem szT_2 {t : Tw} {l : Int} (h : szr t.2.1.length (szr t.1.length l) < 0) : szT t l = -1 := by
  unfold szT
  rw [szL_neg (f := szJ) h, szL_neg (by decide)]
theorem szT_3 {t : Tw} {l : Int} (h : szL szJ t.2.2.1 (szr t.2.1.length (szr t.1.length l)) < 0) : szT t l = -1 := by
  unfold szT
  rw [szL_neg h]
theorem szL_m1 {α : Type} {f : α → Int → Int} {ps : List α} {l : Int} (h : szL f ps l < 0) : szL f ps l = -1 := by
  unfold szL at h ⊢
  split at h
  · rename_i h1
    rw [if_pos h1]
  · rename_i h1
    rw [if_neg h1]
    generalize l - (ps.length : Int) = q at h h1
    induction ps generalizing q with
    | nil => exact absurd h h1
    | cons p r ih =>
      unfold szG at h ⊢
      split at h
      · rename_i h2
        rw [if_pos h2]
      · rename_i h2
        rw [if_neg h2]
        exact ih _ h h2
theorem szT_4 {t : Tw} {l : Int} (h : szT t l < 0) : szT t l = -1 := szL_m1 h
theorem cSzTown (t : Tw) (l : Int) (hl : 0 ≤ l ∧ l ≤ 2 ^ 20) (hM : tB maxLen t) : PureC X 5 [.agg (twf false t), cI l] (cI (szT t l)) := by
  refine PureC.of_body (drawD_ok X) (fun _ _ => Go.Proofs.Try.call5 _ _) Go.Proofs.Try.func5 rfl (n := 30) rfl ?_
  refine w_seq ?_
  refine w_reg rfl ?_
  refine v_box (m := 0) (H' := [_]) lay28 rfl rfl rfl ?_
  refine v_assign (c := .v (.int .i64 0)) rfl ?_
  refine v_nil ?_
  refine q_n ?_
  refine w_seq ?_
  refine w_reg rfl ?_
  refine v_fa_pt (off' := 0) lay28 rfl rfl rfl ?_
  refine v_load_pt (.c _) lay22 rfl rfl rfl rfl ?_
  refine v_move rfl ?_
  refine v_call (cSzRoadS _ _ hl hM.1) rfl rfl rfl (.cons vw_sl (.cons vw_v .nil)) ?_
  refine v_assign rfl ?_
  refine v_nil ?_
  refine q_n ?_
  refine w_seq ?_
  refine w_seq ?_
  refine w_reg rfl ?_
  refine v_move rfl ?_
  refine v_lss lay3 rfl rfl (fun h1 => ?_) (fun h1 => ?_)
  · refine v_nil ?_
    refine q_n ?_
    refine w_t rfl ?_
    refine w_seq ?_
    refine w_reg rfl ?_
    refine v_assign (c := .v (.int .i64 (-1))) rfl ?_
    refine v_nil ?_
    refine q_n ?_
    refine w_ret (q_r ?_)
    refine r_r rfl ?_
    exact a_i (szT_1 h1).symm
  have a1 := szr_rng hl h1
  refine v_nil ?_
  refine q_n ?_
  refine w_f rfl ?_
  refine w_skip ?_
  refine q_n ?_
  refine w_seq ?_
  refine w_reg rfl ?_
  refine v_fa_pt (off' := 1) lay28 rfl rfl rfl ?_
  refine v_load_pt (.c _) lay23 rfl rfl rfl rfl ?_
  refine v_move rfl ?_
  refine v_call (cSzFloatS _ _ ⟨a1.1, a1.2.1⟩ hM.2.1) rfl rfl rfl (.cons vw_sl (.cons vw_v .nil)) ?_
  refine v_assign rfl ?_
  refine v_nil ?_
  refine q_n ?_
  refine w_seq ?_
  refine w_seq ?_
  refine w_reg rfl ?_
  refine v_move rfl ?_
  refine v_lss lay3 rfl rfl (fun h2 => ?_) (fun h2 => ?_)
  · refine v_nil ?_
    refine q_n ?_
    refine w_t rfl ?_
    refine w_seq ?_
    refine w_reg rfl ?_
    refine v_assign (c := .v (.int .i64 (-1))) rfl ?_
    refine v_nil ?_
    refine q_n ?_
    refine w_ret (q_r ?_)
    refine r_r rfl ?_
    exact a_i (szT_2 h2).symm
  have a2 := szr_rng ⟨a1.1, a1.2.1⟩ h2
  refine v_nil ?_
  refine q_n ?_
  refine w_f rfl ?_
  refine w_skip ?_
  refine q_n ?_
  refine w_seq ?_
  refine w_reg rfl ?_
  refine v_fa_pt (off' := 2) lay28 rfl rfl rfl ?_
  refine v_load_pt (.c _) lay24 rfl rfl rfl rfl ?_
  refine v_move rfl ?_
  refine v_call (cSzJointS _ _ ⟨a2.1, a2.2.1⟩ hM.2.2.1 hM.2.2.2.1) rfl rfl rfl (.cons vw_sl (.cons vw_v .nil)) ?_
  refine v_assign rfl ?_
  refine v_nil ?_
  refine q_n ?_
  refine w_seq ?_
  refine w_seq ?_
  refine w_reg rfl ?_
  refine v_move rfl ?_
  refine v_lss lay3 rfl rfl (fun h3 => ?_) (fun h3 => ?_)
  · refine v_nil ?_
    refine q_n ?_
    refine w_t rfl ?_
    refine w_seq ?_
    refine w_reg rfl ?_
    refine v_assign (c := .v (.int .i64 (-1))) rfl ?_
    refine v_nil ?_
    refine q_n ?_
    refine w_ret (q_r ?_)
    refine r_r rfl ?_
    exact a_i (szT_3 h3).symm
  have a3 := (szL_le szJ_le ⟨a2.1, a2.2.1⟩ h3).2.2
  refine v_nil ?_
  refine q_n ?_
  refine w_f rfl ?_
  refine w_skip ?_
  refine q_n ?_
  refine w_seq ?_
  refine w_reg rfl ?_
  refine v_fa_pt (off' := 3) lay28 rfl rfl rfl ?_
  refine v_load_pt (.c _) lay25 rfl rfl rfl rfl ?_
  refine v_move rfl ?_
  refine v_call (cSzPlanS _ _ a3 hM.2.2.2.2.1 hM.2.2.2.2.2) rfl rfl rfl (.cons vw_sl (.cons vw_v .nil)) ?_
  refine v_assign rfl ?_
  refine v_nil ?_
  refine q_n ?_
  refine w_seq ?_
  refine w_seq ?_
  refine w_reg rfl ?_
  refine v_move rfl ?_
  refine v_lss lay3 rfl rfl (fun h4 => ?_) (fun h4 => ?_)
  · refine v_nil ?_
    refine q_n ?_
    refine w_t rfl ?_
    refine w_seq ?_
    refine w_reg rfl ?_
    refine v_assign (c := .v (.int .i64 (-1))) rfl ?_
    refine v_nil ?_
    refine q_n ?_
    refine w_ret (q_r ?_)
    refine r_r rfl ?_
    exact a_i (szT_4 h4).symm
  refine v_nil ?_
  refine q_n ?_
  refine w_f rfl ?_
  refine w_skip ?_
  refine q_n ?_
  refine w_seq ?_
  refine w_reg rfl ?_
  refine v_move rfl ?_
  refine v_assign rfl ?_
  refine v_nil ?_
  refine q_n ?_
  refine w_ret ?_
  refine r_r rfl ?_
  exact a_i rfl
theorem cToTown (t : Tw) (hB : tB (2 ^ 20) t) : PureC X 7 [.agg (twf false t)] (.agg (twf true t)) := by
  refine PureC.of_body (drawD_ok X) (fun _ _ => Go.Proofs.Try.call7 _ _) Go.Proofs.Try.func7 rfl (n := 30) rfl ?_
  refine w_seq ?_
  refine w_reg rfl ?_
  refine v_box (m := 0) (H' := [_]) lay28 rfl rfl rfl ?_
  refine v_alloc (m := 1) (H' := [_, ⟨[.v _, .v _, .v _, .v _, .v _, .f _ _, .f _ _], 35, true⟩]) lay35 rfl rfl ?_
  refine v_nil ?_
  refine q_n ?_
  refine w_seq ?_
  refine w_reg rfl ?_
  refine v_alloc (m := 2) (H' := [_, _, ⟨[.v _, .v _, .v _, .v _, .v _, .f _ _, .f _ _], 35, true⟩]) lay35 rfl rfl ?_
  refine v_nil ?_
  refine q_n ?_
  refine w_seq ?_
  refine w_reg rfl ?_
  refine v_fa_pt (off' := 0) lay28 rfl rfl rfl ?_
  refine v_load_pt (.c _) lay22 rfl rfl rfl rfl ?_
  refine v_call (cToRoadS _ (by have := hB.1; omega)) rfl rfl rfl (.cons vw_sl .nil) ?_
  refine v_fa_pt (off' := 0) lay35 rfl rfl rfl ?_
  refine v_store (H' := [_, _, ⟨[_, _, _, _, _, _, _], 35, true⟩]) lay31 rfl rfl rfl rfl rfl rfl ?_
  refine v_nil ?_
  refine q_n ?_
  refine w_seq ?_
  refine w_reg rfl ?_
  refine v_fa_pt (off' := 1) lay28 rfl rfl rfl ?_
  refine v_load_pt (.c _) lay23 rfl rfl rfl rfl ?_
  refine v_call (cToFloatS _ (by have := hB.2.1; omega)) rfl rfl rfl (.cons vw_sl .nil) ?_
  refine v_fa_pt (off' := 1) lay35 rfl rfl rfl ?_
  refine v_store (H' := [_, _, ⟨[_, _, _, _, _, _, _], 35, true⟩]) lay23 rfl rfl rfl rfl rfl rfl ?_
  refine v_nil ?_
  refine q_n ?_
  refine w_seq ?_
  refine w_reg rfl ?_
  refine v_fa_pt (off' := 2) lay28 rfl rfl rfl ?_
  refine v_load_pt (.c _) lay24 rfl rfl rfl rfl ?_
  refine v_call (cToJointS _ (by have := hB.2.2.1; omega) (fun j hj => by have := hB.2.2.2.1 j hj; omega)) rfl rfl rfl (.cons vw_sl .nil) ?_
  refine v_fa_pt (off' := 2) lay35 rfl rfl rfl ?_
  refine v_store (H' := [_, _, ⟨[_, _, _, _, _, _, _], 35, true⟩]) lay32 rfl rfl rfl rfl rfl rfl ?_
  refine v_nil ?_
  refine q_n ?_
  refine w_seq ?_
  refine w_reg rfl ?_
  refine v_fa_pt (off' := 3) lay28 rfl rfl rfl ?_
  refine v_load_pt (.c _) lay25 rfl rfl rfl rfl ?_
  refine v_call (cToPlanS _ (by have := hB.2.2.2.2.1; omega) (fun p hp => by have := hB.2.2.2.2.2 p hp; omega)) rfl rfl rfl (.cons vw_sl .nil) ?_
  refine v_fa_pt (off' := 3) lay35 rfl rfl rfl ?_
  refine v_store (H' := [_, _, ⟨[_, _, _, _, _, _, _], 35, true⟩]) lay33 rfl rfl rfl rfl rfl rfl ?_
  refine v_nil ?_
  refine q_n ?_
  refine w_seq ?_
  refine w_reg rfl ?_
  refine v_fa_pt (off' := 4) lay28 rfl rfl rfl ?_
  refine v_load_pt (.c _) lay2 rfl rfl rfl rfl ?_
  refine v_fa_pt (off' := 4) lay35 rfl rfl rfl ?_
  refine v_store (H' := [_, _, ⟨[_, _, _, _, _, _, _], 35, true⟩]) lay2 rfl rfl rfl rfl rfl rfl ?_
  refine v_nil ?_
  refine q_n ?_
  refine w_seq ?_
  refine w_reg rfl ?_
  refine v_fa_pt (off' := 5) lay28 rfl rfl rfl ?_
  refine v_load_pt (.c _) lay26 rfl rfl rfl rfl ?_
  refine v_fa_pt (off' := 5) lay35 rfl rfl rfl ?_
  refine v_store (H' := [_, _, ⟨[_, _, _, _, _, _, _], 35, true⟩]) lay26 rfl rfl rfl rfl rfl rfl ?_
  refine v_nil ?_
  refine q_n ?_
  refine w_seq ?_
  refine w_reg rfl ?_
  refine v_fa_pt (off' := 6) lay28 rfl rfl rfl ?_
  refine v_load_pt (.c _) lay26 rfl rfl rfl rfl ?_
  refine v_fa_pt (off' := 6) lay35 rfl rfl rfl ?_
  refine v_store (H' := [_, _, ⟨[_, _, _, _, _, _, _], 35, true⟩]) lay26 rfl rfl rfl rfl rfl rfl ?_
  refine v_nil ?_
  refine q_n ?_
  refine w_seq ?_
  refine w_reg rfl ?_
  refine v_load_pt (.agg [_, _, _, _, _, _, _]) lay35 rfl rfl rfl rfl ?_
  refine v_store (H' := [_, ⟨[_, _, _, _, _, _, _], 35, true⟩, _]) lay35 rfl rfl rfl rfl rfl rfl ?_
  refine v_nil ?_
  refine q_n ?_
  refine w_ret ?_
  refine r_r rfl ?_
  exact a_agg (.cons tr_sl (.cons tr_sl (.cons tr_sl (.cons tr_sl (.cons tr_v (.cons tr_f (.cons tr_f .nil)))))))
theorem cEqTown (t : Tw) (hB : tB (2 ^ 20) t) (hF : tF t) : PureC X 9 [.agg (twf false t), .agg (twf false t)] (cB (decide True)) := by
  refine PureC.of_body (drawD_ok X) (fun _ _ => Go.Proofs.Try.call9 _ _) Go.Proofs.Try.func9 rfl (n := 50) rfl ?_
  refine w_seq ?_
  refine w_reg rfl ?_
  refine v_box (m := 0) (H' := [_]) lay35 rfl rfl rfl ?_
  refine v_box (m := 1) (H' := [_, _]) lay35 rfl rfl rfl ?_
  refine v_assign (c := .v (.bool false)) rfl ?_
  refine v_nil ?_
  refine q_n ?_
  refine w_seq ?_
  refine w_seq ?_
  refine w_reg rfl ?_
  refine v_fa_pt (off' := 0) lay35 rfl rfl rfl ?_
  refine v_load_pt (.c _) lay31 rfl rfl rfl rfl ?_
  refine v_fa_pt (off' := 0) lay35 rfl rfl rfl ?_
  refine v_load_pt (.c _) lay31 rfl rfl rfl rfl ?_
  refine v_callb (cEqRoadS _ (by have := hB.1; omega) hF.1) rfl rfl (.cons vw_sl (.cons vw_sl .nil)) (fun h1 => ?_) (fun h1 => ?_)
  rotate_left
  · exact absurd trivial h1
  refine v_not false rfl rfl ?_
  refine v_nil ?_
  refine q_n ?_
  refine w_f rfl ?_
  refine w_skip ?_
  refine q_n ?_
  refine w_seq ?_
  refine w_seq ?_
  refine w_reg rfl ?_
  refine v_fa_pt (off' := 1) lay35 rfl rfl rfl ?_
  refine v_load_pt (.c _) lay23 rfl rfl rfl rfl ?_
  refine v_fa_pt (off' := 1) lay35 rfl rfl rfl ?_
  refine v_load_pt (.c _) lay23 rfl rfl rfl rfl ?_
  refine v_callb (cEqFloatS _ (by have := hB.2.1; omega) hF.2.1) rfl rfl (.cons vw_sl (.cons vw_sl .nil)) (fun h2 => ?_) (fun h2 => ?_)
  rotate_left
  · exact absurd trivial h2
  refine v_not false rfl rfl ?_
  refine v_nil ?_
  refine q_n ?_
  refine w_f rfl ?_
  refine w_skip ?_
  refine q_n ?_
  refine w_seq ?_
  refine w_seq ?_
  refine w_reg rfl ?_
  refine v_fa_pt (off' := 2) lay35 rfl rfl rfl ?_
  refine v_load_pt (.c _) lay32 rfl rfl rfl rfl ?_
  refine v_fa_pt (off' := 2) lay35 rfl rfl rfl ?_
  refine v_load_pt (.c _) lay32 rfl rfl rfl rfl ?_
  refine v_callb (cEqJointS _ (by have := hB.2.2.1; omega) (fun j hj => ⟨by have := hB.2.2.2.1 j hj; omega, hF.2.2.1 j hj⟩)) rfl rfl (.cons vw_sl (.cons vw_sl .nil)) (fun h3 => ?_) (fun h3 => ?_)
  rotate_left
  · exact absurd trivial h3
  refine v_not false rfl rfl ?_
  refine v_nil ?_
  refine q_n ?_
  refine w_f rfl ?_
  refine w_skip ?_
  refine q_n ?_
  refine w_seq ?_
  refine w_seq ?_
  refine w_reg rfl ?_
  refine v_fa_pt (off' := 3) lay35 rfl rfl rfl ?_
  refine v_load_pt (.c _) lay33 rfl rfl rfl rfl ?_
  refine v_fa_pt (off' := 3) lay35 rfl rfl rfl ?_
  refine v_load_pt (.c _) lay33 rfl rfl rfl rfl ?_
  refine v_callb (cEqPlanS _ (by have := hB.2.2.2.2.1; omega) (fun p hp => by have := hB.2.2.2.2.2 p hp; omega)) rfl rfl (.cons vw_sl (.cons vw_sl .nil)) (fun h4 => ?_) (fun h4 => ?_)
  rotate_left
  · exact absurd trivial h4
  refine v_not false rfl rfl ?_
  refine v_nil ?_
  refine q_n ?_
  refine w_f rfl ?_
  refine w_skip ?_
  refine q_n ?_
  refine w_seq ?_
  refine w_seq ?_
  refine w_reg rfl ?_
  refine v_fa_pt (off' := 4) lay35 rfl rfl rfl ?_
  refine v_load_pt (.c _) lay2 rfl rfl rfl rfl ?_
  refine v_fa_pt (off' := 4) lay35 rfl rfl rfl ?_
  refine v_load_pt (.c _) lay2 rfl rfl rfl rfl ?_
  refine v_neq lay2 rfl rfl (fun h5 => ?_) (fun h5 => ?_)
  · exact absurd rfl h5
  refine v_nil ?_
  refine q_n ?_
  refine w_f rfl ?_
  refine w_skip ?_
  refine q_n ?_
  refine w_seq ?_
  refine w_seq ?_
  refine w_reg rfl ?_
  refine v_fa_pt (off' := 5) lay35 rfl rfl rfl ?_
  refine v_load_pt (.c _) lay26 rfl rfl rfl rfl ?_
  refine v_conv_ff _ lay26 lay80 rfl (convF_single (by first | exact hF.2.2.2.1.1 | exact hF.2.2.2.2.1.1)) ?_
  refine v_fa_pt (off' := 5) lay35 rfl rfl rfl ?_
  refine v_load_pt (.c _) lay26 rfl rfl rfl rfl ?_
  refine v_conv_ff _ lay26 lay80 rfl (convF_single (by first | exact hF.2.2.2.1.1 | exact hF.2.2.2.2.1.1)) ?_
  refine v_callb (cSF _ (wide_ok (by first | exact hF.2.2.2.1.1 | exact hF.2.2.2.2.1.1))) rfl rfl (.cons vw_f (.cons vw_f .nil)) (fun h6 => ?_) (fun h6 => ?_)
  rotate_left
  · exact absurd trivial h6
  refine v_not false rfl rfl ?_
  refine v_nil ?_
  refine q_n ?_
  refine w_f rfl ?_
  refine w_skip ?_
  refine q_n ?_
  refine w_seq ?_
  refine w_seq ?_
  refine w_reg rfl ?_
  refine v_fa_pt (off' := 6) lay35 rfl rfl rfl ?_
  refine v_load_pt (.c _) lay26 rfl rfl rfl rfl ?_
  refine v_conv_ff _ lay26 lay80 rfl (convF_single (by first | exact hF.2.2.2.1.1 | exact hF.2.2.2.2.1.1)) ?_
  refine v_fa_pt (off' := 6) lay35 rfl rfl rfl ?_
  refine v_load_pt (.c _) lay26 rfl rfl rfl rfl ?_
  refine v_conv_ff _ lay26 lay80 rfl (convF_single (by first | exact hF.2.2.2.1.1 | exact hF.2.2.2.2.1.1)) ?_
  refine v_callb (cSF _ (wide_ok (by first | exact hF.2.2.2.1.1 | exact hF.2.2.2.2.1.1))) rfl rfl (.cons vw_f (.cons vw_f .nil)) (fun h7 => ?_) (fun h7 => ?_)
  rotate_left
  · exact absurd trivial h7
  refine v_not false rfl rfl ?_
  refine v_nil ?_
  refine q_n ?_
  refine w_f rfl ?_
  refine w_skip ?_
  refine q_n ?_
  refine w_seq ?_
  refine w_reg rfl ?_
  refine v_assign (c := .v (.bool true)) rfl ?_
  refine v_nil ?_
  refine q_n ?_
  refine w_ret ?_
  refine r_r rfl ?_
  exact a_b ⟨fun _ => trivial, fun _ => rfl⟩
end Go.VL
namespace Go.VL
open Go.RowKit
set_option maxRecDepth 20000
set_option maxHeartbeats 8000000
instance decFl : DecidableEq Fl := inferInstance
instance decJn : DecidableEq Jn := inferInstance
instance decJo : DecidableEq Jo := inferInstance
instance decRd : DecidableEq Rd := inferInstance
instance decPln : DecidableEq Pln := inferInstance
instance decT3 : DecidableEq (List Jo × List Pln × Int × Option Nat × Option Nat) := inferInstance
instance decTw : DecidableEq Tw := inferInstance
theorem rd_ext {r q : Rd} : r = q ↔ r.1 = q.1 ∧ r.2.1 = q.2.1 ∧ r.2.2.1 = q.2.2.1 ∧ r.2.2.2 = q.2.2.2 := by
  rw [Prod.ext_iff, Prod.ext_iff, Prod.ext_iff]
theorem jn_ext {r q : Jn} : r = q ↔ r.1 = q.1 ∧ r.2.1 = q.2.1 ∧ r.2.2.1 = q.2.2.1 ∧ r.2.2.2 = q.2.2.2 := by
  rw [Prod.ext_iff, Prod.ext_iff, Prod.ext_iff]
theorem jo_ext {r q : Jo} : r = q ↔ r.1 = q.1 ∧ r.2.1 = q.2.1 ∧ r.2.2.1 = q.2.2.1 ∧ r.2.2.2 = q.2.2.2 := by
  constructor
  · rintro rfl; exact ⟨rfl, rfl, rfl, rfl⟩
  · rintro ⟨a, b, c, d⟩; exact Prod.ext a (Prod.ext b (Prod.ext c d))
theorem tw_ext {r q : Tw} : r = q ↔ r.1 = q.1 ∧ r.2.1 = q.2.1 ∧ r.2.2.1 = q.2.2.1 ∧ r.2.2.2.1 = q.2.2.2.1 ∧ r.2.2.2.2.1 = q.2.2.2.2.1 ∧ r.2.2.2.2.2.1 = q.2.2.2.2.2.1 ∧ r.2.2.2.2.2.2 = q.2.2.2.2.2.2 := by
  rw [Prod.ext_iff, Prod.ext_iff, Prod.ext_iff, Prod.ext_iff, Prod.ext_iff, Prod.ext_iff]
theorem rd_ld (r : Rd) {i : Nat} (h : i < 16) : mkV false (reowns false (sub (rdc r) (0 + i * 1) 1)) = some (.c (.f .f32 (r.1 ⟨i, h⟩))) := by
  have e : sub (rdc r) (0 + i * 1) 1 = [.f .f32 (r.1 ⟨i, h⟩)] := by
    rw [show 0 + i * 1 = i by omega]
    exact cac_sub r.1 [.f .f32 r.2.1, .f .f32 r.2.2.1, .f .f32 r.2.2.2] h
  rw [e]
  rfl
theorem jt_ld (j : Jn) (ra : List C) {i k : Nat} (h : i < 4) (hk : k < 4) : mkV false (reowns false (sub (jnc j ++ ra) (2 + i * 4 + k * 1) 1)) = some (.c (.f .f32 (j.2.2.1 ⟨i, h⟩ ⟨k, hk⟩))) := by
  match i, h, k, hk with
  | 0, _, 0, _ => rfl
  | 0, _, 1, _ => rfl
  | 0, _, 2, _ => rfl
  | 0, _, 3, _ => rfl
  | 1, _, 0, _ => rfl
  | 1, _, 1, _ => rfl
  | 1, _, 2, _ => rfl
  | 1, _, 3, _ => rfl
  | 2, _, 0, _ => rfl
  | 2, _, 1, _ => rfl
  | 2, _, 2, _ => rfl
  | 2, _, 3, _ => rfl
  | 3, _, 0, _ => rfl
  | 3, _, 1, _ => rfl
  | 3, _, 2, _ => rfl
  | 3, _, 3, _ => rfl
theorem jp_ld (j : Jn) (ra : List C) {i : Nat} (h : i < 4) : mkV false (reowns false (sub (jnc j ++ ra) (18 + i * 1) 1)) = some (.c (.f .f32 (j.2.2.2 ⟨i, h⟩))) := by
  match i, h with
  | 0, _ => rfl
  | 1, _ => rfl
  | 2, _ => rfl
  | 3, _ => rfl
theorem jn_len (j : Jn) (ra : List C) : (jnc j ++ ra).length = 22 + ra.length := by simp; omega
def stv (s : Slo) : List Value := [.bool (s.1 0), .bool (s.1 1), .bool (s.1 2), .bool (s.1 3), .bool (s.1 4), .bool (s.1 5), .bool (s.1 6), .bool (s.1 7), .int .i64 s.2]
def stl (s : Slo) : List Lit := [.bool (s.1 0), .bool (s.1 1), .bool (s.1 2), .bool (s.1 3), .bool (s.1 4), .bool (s.1 5), .bool (s.1 6), .bool (s.1 7), .int .i64 s.2]
theorem st_wf {s : Slo} (h : -9223372036854775808 ≤ s.2 ∧ s.2 ≤ 9223372036854775807) : (Lit.int .i64 s.2).wf = true := by
  simp only [Lit.wf, decide_eq_true_eq, Bool.and_eq_true]
  exact ⟨show (-9223372036854775808 : Int) ≤ s.2 by omega, show s.2 ≤ (9223372036854775807 : Int) by omega⟩
theorem st_lits {s : Slo} (h : -9223372036854775808 ≤ s.2 ∧ s.2 ≤ 9223372036854775807) : X.P.keyLits 3 117 (stv s) = some (stl s) := by
  have hw := st_wf h
  have e : ∀ w : Bool, w = true → Option.map List.flatten (do
      let a ← (some [Lit.bool (s.1 0), .bool (s.1 1), .bool (s.1 2), .bool (s.1 3), .bool (s.1 4), .bool (s.1 5), .bool (s.1 6), .bool (s.1 7)])
      let b ← (if IntKind.i64 = IntKind.i64 ∧ w = true then some [Lit.int .i64 s.2] else none)
      pure [a, b]) = some (stl s) := fun w hw => by subst hw; rfl
  refine Eq.trans ?_ (e _ hw)
  kernel_rfl
theorem stl_inj {a b : Slo} : a = b ↔ stl a = stl b := by
  refine ⟨fun e => by rw [e], fun e => ?_⟩
  simp only [stl, List.cons.injEq, Lit.bool.injEq, Lit.int.injEq, true_and, and_true] at e
  obtain ⟨h0, h1, h2, h3, h4, h5, h6, h7, h8⟩ := e
  refine Prod.ext ?_ h8
  funext ⟨i, hi⟩
  match i, hi with
  | 0, _ => exact h0
  | 1, _ => exact h1
  | 2, _ => exact h2
  | 3, _ => exact h3
  | 4, _ => exact h4
  | 5, _ => exact h5
  | 6, _ => exact h6
  | 7, _ => exact h7
theorem rqS {x y : Operand} {ty2 : TypeId} {ρ : Operand → V} {a b : Slo} (ha : -9223372036854775808 ≤ a.2 ∧ a.2 ≤ 9223372036854775807) (hb : -9223372036854775808 ≤ b.2 ∧ b.2 ≤ 9223372036854775807) (hx : ρ x = .agg (stc a)) (hy : ρ y = .agg (stc b)) : RawQ X (.binOp .neq 117 x y ty2) ρ (cB (decide (¬ a = b))) :=
  rq_neqD (vs1 := stv a) (vs2 := stv b) 3 9997 rfl (by kernel_rfl) (by kernel_rfl) (by kernel_rfl) (st_lits ha) (st_lits hb) stl_inj (by kernel_rfl) hx hy
theorem cLSRoad (r q : Rd) (hr : rW r) (hq : rW q) : PureC X 53 [.c (.vw false (rdc r) 0), .c (.vw false (rdc q) 0)] (cB (decide (r = q))) := by
  refine PureC.of_body (drawD_ok X) (fun _ _ => Go.Proofs.Try.call53 _ _) Go.Proofs.Try.func53 rfl (n := 55) rfl ?_
  refine w_seq ?_
  refine w_reg rfl ?_
  refine v_assign (c := .v (.bool false)) rfl ?_
  refine v_nil ?_
  refine q_n ?_
  refine w_seq ?_
  refine w_seq ?_
  refine w_reg rfl ?_
  refine v_assign (c := .v (.int .i64 0)) rfl ?_
  refine v_nil ?_
  refine q_n ?_
  refine w_block ?_
  refine w_loop (fun k sl H => ∃ i : Nat, k = 16 - i ∧ i ≤ 16 ∧ (∀ j (hj : j < 16), j < i → r.1 ⟨j, hj⟩ = q.1 ⟨j, hj⟩) ∧ sl = sls [(0, .c (.vw false (rdc r) 0)), (1, .c (.vw false (rdc q) 0)), (5, cI i)] ∧ H = []) ?_ ?_
  · refine ⟨_, _, _, ?_, 0, rfl, Nat.zero_le _, fun j hj h => by omega, rfl, rfl⟩
    exact turn0 ⟨tr_vw, tr_vw, tr_v, trivial⟩
  rintro k sl H ⟨i, rfl, hi, hp, rfl, rfl⟩
  refine w_seq ?_
  refine w_seq ?_
  refine w_reg rfl ?_
  refine v_move rfl ?_
  refine v_lss lay3 rfl rfl (fun h1 => ?_) (fun h1 => ?_)
  · have hi1 : i < 16 := by omega
    refine v_nil ?_
    refine q_n ?_
    refine w_t rfl ?_
    refine w_skip ?_
    refine q_n ?_
    refine w_seq ?_
    refine w_block ?_
    refine w_seq ?_
    refine w_draw [0, 0, 1, 5, 15, 31, 0, 0, 64, 320, 960, 1984, 4095, 8191] [⟨0, 0, []⟩, ⟨1, 0, []⟩, ⟨2, 0, []⟩, ⟨3, 0, []⟩, ⟨4, 0, []⟩, ⟨5, 0, []⟩, ⟨6, 0, []⟩, ⟨7, 0, []⟩, ⟨8, 0, []⟩, ⟨9, 0, []⟩, ⟨10, 0, []⟩, ⟨11, 0, []⟩, ⟨12, 0, []⟩, ⟨13, 0, []⟩] rfl rfl ?_
    refine d_q rfl rfl rfl rfl rfl ?_
    refine v_move rfl ?_
    refine v_nil ?_
    refine d_q rfl rfl rfl rfl rfl ?_
    refine v_move rfl ?_
    refine v_nil ?_
    refine d_q rfl rfl rfl rfl rfl ?_
    refine v_nil_vw rfl ?_
    refine v_nil ?_
    refine d_q rfl rfl rfl rfl rfl ?_
    refine v_fa_vw (off' := 0) lay56 rfl rfl rfl ?_
    refine v_nil ?_
    refine d_q rfl rfl rfl rfl rfl ?_
    refine v_idx_av_e (k := 1) (i) lay54 lay26 rfl rfl rfl (rfl) (hi1) ?_
    refine v_nil ?_
    refine d_q rfl rfl rfl rfl rfl ?_
    refine v_load_vw_e (.c (.f .f32 (r.1 ⟨i, hi1⟩))) lay26 rfl (by show 0 + i * 1 + 1 ≤ 19; omega) (rd_ld r hi1) ?_
    refine v_nil ?_
    refine d_q rfl rfl rfl rfl rfl ?_
    refine v_move rfl ?_
    refine v_nil ?_
    refine d_q rfl rfl rfl rfl rfl ?_
    refine v_move rfl ?_
    refine v_nil ?_
    refine d_q rfl rfl rfl rfl rfl ?_
    refine v_nil_vw rfl ?_
    refine v_nil ?_
    refine d_q rfl rfl rfl rfl rfl ?_
    refine v_fa_vw (off' := 0) lay56 rfl rfl rfl ?_
    refine v_nil ?_
    refine d_q rfl rfl rfl rfl rfl ?_
    refine v_idx_av_e (k := 1) (i) lay54 lay26 rfl rfl rfl (rfl) (hi1) ?_
    refine v_nil ?_
    refine d_q rfl rfl rfl rfl rfl ?_
    refine v_load_vw_e (.c (.f .f32 (q.1 ⟨i, hi1⟩))) lay26 rfl (by show 0 + i * 1 + 1 ≤ 19; omega) (rd_ld q hi1) ?_
    refine v_nil ?_
    refine d_callb (cLS _ _ (hr.1 i hi1).1 (hq.1 i hi1).1) rfl rfl rfl rfl (.cons vw_f (.cons vw_f .nil)) (fun h2 => ?_) (fun h2 => ?_)
    rotate_left
    · refine d_q rfl rfl rfl rfl rfl ?_
      refine v_not true rfl rfl ?_
      refine v_nil ?_
      refine d_nil ?_
      refine q_n ?_
      refine w_t rfl ?_
      refine w_seq ?_
      refine w_reg rfl ?_
      refine v_assign (c := .v (.bool false)) rfl ?_
      refine v_nil ?_
      refine q_n ?_
      refine w_ret (q_br (q_r (q_r (q_br (q_r ?_)))))
      refine r_r rfl ?_
      exact a_b (by simp only [Bool.false_eq_true, false_iff]; rintro rfl; exact h2 rfl)
    refine d_q rfl rfl rfl rfl rfl ?_
    refine v_not false rfl rfl ?_
    refine v_nil ?_
    refine d_nil ?_
    refine q_n ?_
    refine w_f rfl ?_
    refine w_skip ?_
    refine q_bn ?_
    refine q_n ?_
    refine w_reg rfl ?_
    refine v_move rfl ?_
    refine v_add lay3 rfl rfl (i64r (by omega)) ?_
    refine v_assign rfl ?_
    refine v_nil ?_
    refine q_n ?_
    refine ⟨_, _, _, ?_, ⟨i + 1, rfl, by omega, fun j hj h => ?_, rfl, rfl⟩, by omega⟩
    · exact turn0 ⟨tr_vw, tr_vw, tr_v, trivial⟩
    · rcases Nat.lt_or_eq_of_le (Nat.le_of_lt_succ h) with h | rfl
      · exact hp j hj h
      · exact h2
  have hpe : r.1 = q.1 := fin_ext.2 fun j hj => hp j hj (by omega)
  refine v_nil ?_
  refine q_n ?_
  refine w_f rfl ?_
  refine w_exit ?_
  refine q_e ?_
  refine q_e ?_
  refine q_hit ?_
  refine q_n ?_
  refine w_seq ?_
  refine w_draw [0, 1, 3, 7, 0, 16, 48, 112, 255, 511, 1023, 2047, 4095, 8191, 1023, 17407, 50175, 115711, 262143, 524287, 1048575, 2097151, 4194303, 8388607, 16777215, 2097151, 35651583, 102760447, 236978175, 536870911, 1073741823, 2147483647] [⟨0, 0, []⟩, ⟨1, 0, []⟩, ⟨2, 0, []⟩, ⟨3, 0, []⟩, ⟨4, 0, []⟩, ⟨5, 0, []⟩, ⟨6, 0, []⟩, ⟨7, 0, []⟩, ⟨8, 0, []⟩, ⟨9, 0, []⟩, ⟨10, 0, []⟩, ⟨11, 0, []⟩, ⟨12, 0, []⟩, ⟨13, 0, []⟩, ⟨14, 0, []⟩, ⟨15, 0, []⟩, ⟨16, 0, []⟩, ⟨17, 0, []⟩, ⟨18, 0, []⟩, ⟨19, 0, []⟩, ⟨20, 0, []⟩, ⟨21, 0, []⟩, ⟨22, 0, []⟩, ⟨23, 0, []⟩, ⟨24, 0, []⟩, ⟨25, 0, []⟩, ⟨26, 0, []⟩, ⟨27, 0, []⟩, ⟨28, 0, []⟩, ⟨29, 0, []⟩, ⟨30, 0, []⟩, ⟨31, 0, []⟩] rfl rfl ?_
  refine d_q rfl rfl rfl rfl rfl ?_
  refine v_move rfl ?_
  refine v_nil ?_
  refine d_q rfl rfl rfl rfl rfl ?_
  refine v_nil_vw rfl ?_
  refine v_nil ?_
  refine d_q rfl rfl rfl rfl rfl ?_
  refine v_fa_vw (off' := 16) lay56 rfl rfl rfl ?_
  refine v_nil ?_
  refine d_q rfl rfl rfl rfl rfl ?_
  refine v_load_vw (.c (.f _ _)) lay26 rfl rfl rfl ?_
  refine v_nil ?_
  refine d_q rfl rfl rfl rfl rfl ?_
  refine v_move rfl ?_
  refine v_nil ?_
  refine d_q rfl rfl rfl rfl rfl ?_
  refine v_nil_vw rfl ?_
  refine v_nil ?_
  refine d_q rfl rfl rfl rfl rfl ?_
  refine v_fa_vw (off' := 16) lay56 rfl rfl rfl ?_
  refine v_nil ?_
  refine d_q rfl rfl rfl rfl rfl ?_
  refine v_load_vw (.c (.f _ _)) lay26 rfl rfl rfl ?_
  refine v_nil ?_
  refine d_callb (cLS _ _ hr.2.1.1 hq.2.1.1) rfl rfl rfl rfl (.cons vw_f (.cons vw_f .nil)) (fun h3 => ?_) (fun h3 => ?_)
  rotate_left
  · refine d_q rfl rfl rfl rfl rfl ?_
    refine v_move rfl ?_
    refine v_nil ?_
    refine d_off rfl rfl ?_
    refine d_off rfl rfl ?_
    refine d_off rfl rfl ?_
    refine d_off rfl rfl ?_
    refine d_off rfl rfl ?_
    refine d_off rfl rfl ?_
    refine d_off rfl rfl ?_
    refine d_off rfl rfl ?_
    refine d_off rfl rfl ?_
    refine d_q rfl rfl rfl rfl rfl ?_
    refine v_pick_f (v := .v (.bool false)) rfl rfl ?_
    refine v_nil ?_
    refine d_q rfl rfl rfl rfl rfl ?_
    refine v_move rfl ?_
    refine v_nil ?_
    refine d_off rfl rfl ?_
    refine d_off rfl rfl ?_
    refine d_off rfl rfl ?_
    refine d_off rfl rfl ?_
    refine d_off rfl rfl ?_
    refine d_off rfl rfl ?_
    refine d_off rfl rfl ?_
    refine d_off rfl rfl ?_
    refine d_off rfl rfl ?_
    refine d_q rfl rfl rfl rfl rfl ?_
    refine v_pick_f (v := .v (.bool false)) rfl rfl ?_
    refine v_nil ?_
    refine d_q rfl rfl rfl rfl rfl ?_
    refine v_assign rfl ?_
    refine v_nil ?_
    refine d_nil ?_
    refine q_n ?_
    refine w_ret ?_
    refine r_r rfl ?_
    exact a_b (by rw [rd_ext]; simp_all)
  refine d_q rfl rfl rfl rfl rfl ?_
  refine v_move rfl ?_
  refine v_nil ?_
  refine d_q rfl rfl rfl rfl rfl ?_
  refine v_move rfl ?_
  refine v_nil ?_
  refine d_q rfl rfl rfl rfl rfl ?_
  refine v_nil_vw rfl ?_
  refine v_nil ?_
  refine d_q rfl rfl rfl rfl rfl ?_
  refine v_fa_vw (off' := 17) lay56 rfl rfl rfl ?_
  refine v_nil ?_
  refine d_q rfl rfl rfl rfl rfl ?_
  refine v_load_vw (.c (.f _ _)) lay26 rfl rfl rfl ?_
  refine v_nil ?_
  refine d_q rfl rfl rfl rfl rfl ?_
  refine v_move rfl ?_
  refine v_nil ?_
  refine d_q rfl rfl rfl rfl rfl ?_
  refine v_nil_vw rfl ?_
  refine v_nil ?_
  refine d_q rfl rfl rfl rfl rfl ?_
  refine v_fa_vw (off' := 17) lay56 rfl rfl rfl ?_
  refine v_nil ?_
  refine d_q rfl rfl rfl rfl rfl ?_
  refine v_load_vw (.c (.f _ _)) lay26 rfl rfl rfl ?_
  refine v_nil ?_
  refine d_callb (cLS _ _ hr.2.2.1.1 hq.2.2.1.1) rfl rfl rfl rfl (.cons vw_f (.cons vw_f .nil)) (fun h4 => ?_) (fun h4 => ?_)
  rotate_left
  · refine d_q rfl rfl rfl rfl rfl ?_
    refine v_pick_t rfl rfl ?_
    refine v_nil ?_
    refine d_q rfl rfl rfl rfl rfl ?_
    refine v_move rfl ?_
    refine v_nil ?_
    refine d_off rfl rfl ?_
    refine d_off rfl rfl ?_
    refine d_off rfl rfl ?_
    refine d_off rfl rfl ?_
    refine d_off rfl rfl ?_
    refine d_off rfl rfl ?_
    refine d_off rfl rfl ?_
    refine d_off rfl rfl ?_
    refine d_off rfl rfl ?_
    refine d_q rfl rfl rfl rfl rfl ?_
    refine v_pick_f (v := .v (.bool false)) rfl rfl ?_
    refine v_nil ?_
    refine d_q rfl rfl rfl rfl rfl ?_
    refine v_assign rfl ?_
    refine v_nil ?_
    refine d_nil ?_
    refine q_n ?_
    refine w_ret ?_
    refine r_r rfl ?_
    exact a_b (by rw [rd_ext]; simp_all)
  refine d_q rfl rfl rfl rfl rfl ?_
  refine v_pick_t rfl rfl ?_
  refine v_nil ?_
  refine d_q rfl rfl rfl rfl rfl ?_
  refine v_move rfl ?_
  refine v_nil ?_
  refine d_q rfl rfl rfl rfl rfl ?_
  refine v_move rfl ?_
  refine v_nil ?_
  refine d_q rfl rfl rfl rfl rfl ?_
  refine v_nil_vw rfl ?_
  refine v_nil ?_
  refine d_q rfl rfl rfl rfl rfl ?_
  refine v_fa_vw (off' := 18) lay56 rfl rfl rfl ?_
  refine v_nil ?_
  refine d_q rfl rfl rfl rfl rfl ?_
  refine v_load_vw (.c (.f _ _)) lay26 rfl rfl rfl ?_
  refine v_nil ?_
  refine d_q rfl rfl rfl rfl rfl ?_
  refine v_move rfl ?_
  refine v_nil ?_
  refine d_q rfl rfl rfl rfl rfl ?_
  refine v_nil_vw rfl ?_
  refine v_nil ?_
  refine d_q rfl rfl rfl rfl rfl ?_
  refine v_fa_vw (off' := 18) lay56 rfl rfl rfl ?_
  refine v_nil ?_
  refine d_q rfl rfl rfl rfl rfl ?_
  refine v_load_vw (.c (.f _ _)) lay26 rfl rfl rfl ?_
  refine v_nil ?_
  refine d_callb (cLS _ _ hr.2.2.2.1 hq.2.2.2.1) rfl rfl rfl rfl (.cons vw_f (.cons vw_f .nil)) (fun h5 => ?_) (fun h5 => ?_)
  · refine d_q rfl rfl rfl rfl rfl ?_
    refine v_pick_t rfl rfl ?_
    refine v_nil ?_
    refine d_q rfl rfl rfl rfl rfl ?_
    refine v_assign rfl ?_
    refine v_nil ?_
    refine d_nil ?_
    refine q_n ?_
    refine w_ret ?_
    refine r_r rfl ?_
    exact a_b (by rw [rd_ext]; simp_all)
  refine d_q rfl rfl rfl rfl rfl ?_
  refine v_pick_t rfl rfl ?_
  refine v_nil ?_
  refine d_q rfl rfl rfl rfl rfl ?_
  refine v_assign rfl ?_
  refine v_nil ?_
  refine d_nil ?_
  refine q_n ?_
  refine w_ret ?_
  refine r_r rfl ?_
  exact a_b (by rw [rd_ext]; simp_all)
theorem cL3Same (j q : Jn) (ra rb : List C) (hj : jW j) (hq : jW q) : PureC X 80 [.c (.vw false (jnc j ++ ra) 0), .c (.vw false (jnc q ++ rb) 0)] (cB (decide (j = q))) := by
  refine PureC.of_body (drawD_ok X) (fun _ _ => Go.Proofs.Try.call80 _ _) Go.Proofs.Try.func80 rfl (n := 67) rfl ?_
  refine w_seq ?_
  refine w_reg rfl ?_
  refine v_assign (c := .v (.bool false)) rfl ?_
  refine v_nil ?_
  refine q_n ?_
  refine w_seq ?_
  refine w_seq ?_
  refine w_reg rfl ?_
  refine v_assign (c := .v (.int .i64 0)) rfl ?_
  refine v_nil ?_
  refine q_n ?_
  refine w_block ?_
  refine w_loop (fun k sl H => ∃ i : Nat, k = 4 - i ∧ i ≤ 4 ∧ (∀ a (ha : a < 4), a < i → j.2.2.1 ⟨a, ha⟩ = q.2.2.1 ⟨a, ha⟩ ∧ j.2.2.2 ⟨a, ha⟩ = q.2.2.2 ⟨a, ha⟩) ∧ sl = sls [(0, .c (.vw false (jnc j ++ ra) 0)), (1, .c (.vw false (jnc q ++ rb) 0)), (5, cI i)] ∧ H = []) ?_ ?_
  · refine ⟨_, _, _, ?_, 0, rfl, Nat.zero_le _, fun a ha h => by omega, rfl, rfl⟩
    exact turn0 ⟨tr_vw, tr_vw, tr_v, trivial⟩
  rintro k sl H ⟨i, rfl, hi, hp, rfl, rfl⟩
  refine w_seq ?_
  refine w_seq ?_
  refine w_reg rfl ?_
  refine v_move rfl ?_
  refine v_lss lay3 rfl rfl (fun h1 => ?_) (fun h1 => ?_)
  rotate_left
  · have hT : j.2.2.1 = q.2.2.1 := fin_ext.2 fun a ha => (hp a ha (by omega)).1
    have hR : j.2.2.2 = q.2.2.2 := fin_ext.2 fun a ha => (hp a ha (by omega)).2
    refine v_nil ?_
    refine q_n ?_
    refine w_f rfl ?_
    refine w_exit ?_
    refine q_e ?_
    refine q_e ?_
    refine q_hit ?_
    refine q_n ?_
    refine w_seq ?_
    refine w_draw [0, 1, 3, 7, 0, 16, 48, 112, 255, 511, 1023, 2047, 4095, 8191, 1023, 17407, 50175, 115711, 262143, 524287, 1048575] [⟨0, 0, []⟩, ⟨1, 0, []⟩, ⟨2, 0, []⟩, ⟨3, 0, []⟩, ⟨4, 0, []⟩, ⟨5, 0, []⟩, ⟨6, 0, []⟩, ⟨7, 0, []⟩, ⟨8, 0, []⟩, ⟨9, 0, []⟩, ⟨10, 0, []⟩, ⟨11, 0, []⟩, ⟨12, 0, []⟩, ⟨13, 0, []⟩, ⟨14, 0, []⟩, ⟨15, 0, []⟩, ⟨16, 0, []⟩, ⟨17, 0, []⟩, ⟨18, 0, []⟩, ⟨19, 0, []⟩, ⟨20, 0, []⟩] rfl rfl ?_
    refine d_q rfl rfl rfl rfl rfl ?_
    refine v_move rfl ?_
    refine v_nil ?_
    refine d_q rfl rfl rfl rfl rfl ?_
    refine v_nil_vw rfl ?_
    refine v_nil ?_
    refine d_q rfl rfl rfl rfl rfl ?_
    refine v_fa_vw (off' := 0) lay65 rfl rfl rfl ?_
    refine v_nil ?_
    refine d_q rfl rfl rfl rfl rfl ?_
    refine v_load_vw (.c (.v _)) lay2 rfl rfl rfl ?_
    refine v_nil ?_
    refine d_q rfl rfl rfl rfl rfl ?_
    refine v_move rfl ?_
    refine v_nil ?_
    refine d_q rfl rfl rfl rfl rfl ?_
    refine v_nil_vw rfl ?_
    refine v_nil ?_
    refine d_q rfl rfl rfl rfl rfl ?_
    refine v_fa_vw (off' := 0) lay65 rfl rfl rfl ?_
    refine v_nil ?_
    refine d_q rfl rfl rfl rfl rfl ?_
    refine v_load_vw (.c (.v _)) lay2 rfl rfl rfl ?_
    refine v_nil ?_
    refine d_q rfl rfl rfl rfl rfl ?_
    refine v_eql lay2 rfl rfl (fun h5 => ?_) (fun h5 => ?_)
    rotate_left
    · refine v_nil ?_
      refine d_q rfl rfl rfl rfl rfl ?_
      refine v_move rfl ?_
      refine v_nil ?_
      refine d_off rfl rfl ?_
      refine d_off rfl rfl ?_
      refine d_off rfl rfl ?_
      refine d_off rfl rfl ?_
      refine d_off rfl rfl ?_
      refine d_off rfl rfl ?_
      refine d_off rfl rfl ?_
      refine d_off rfl rfl ?_
      refine d_off rfl rfl ?_
      refine d_q rfl rfl rfl rfl rfl ?_
      refine v_pick_f (v := .v (.bool false)) rfl rfl ?_
      refine v_nil ?_
      refine d_q rfl rfl rfl rfl rfl ?_
      refine v_assign rfl ?_
      refine v_nil ?_
      refine d_nil ?_
      refine q_n ?_
      refine w_ret ?_
      refine r_r rfl ?_
      exact a_b (by rw [jn_ext]; simp_all)
    refine v_nil ?_
    refine d_q rfl rfl rfl rfl rfl ?_
    refine v_move rfl ?_
    refine v_nil ?_
    refine d_q rfl rfl rfl rfl rfl ?_
    refine v_move rfl ?_
    refine v_nil ?_
    refine d_q rfl rfl rfl rfl rfl ?_
    refine v_nil_vw rfl ?_
    refine v_nil ?_
    refine d_q rfl rfl rfl rfl rfl ?_
    refine v_fa_vw (off' := 1) lay65 rfl rfl rfl ?_
    refine v_nil ?_
    refine d_q rfl rfl rfl rfl rfl ?_
    refine v_load_vw (.c (.v _)) lay2 rfl rfl rfl ?_
    refine v_nil ?_
    refine d_q rfl rfl rfl rfl rfl ?_
    refine v_move rfl ?_
    refine v_nil ?_
    refine d_q rfl rfl rfl rfl rfl ?_
    refine v_nil_vw rfl ?_
    refine v_nil ?_
    refine d_q rfl rfl rfl rfl rfl ?_
    refine v_fa_vw (off' := 1) lay65 rfl rfl rfl ?_
    refine v_nil ?_
    refine d_q rfl rfl rfl rfl rfl ?_
    refine v_load_vw (.c (.v _)) lay2 rfl rfl rfl ?_
    refine v_nil ?_
    refine d_q rfl rfl rfl rfl rfl ?_
    refine v_eql lay2 rfl rfl (fun h6 => ?_) (fun h6 => ?_)
    · refine v_nil ?_
      refine d_q rfl rfl rfl rfl rfl ?_
      refine v_pick_t rfl rfl ?_
      refine v_nil ?_
      refine d_q rfl rfl rfl rfl rfl ?_
      refine v_assign rfl ?_
      refine v_nil ?_
      refine d_nil ?_
      refine q_n ?_
      refine w_ret ?_
      refine r_r rfl ?_
      exact a_b (by rw [jn_ext]; simp_all)
    refine v_nil ?_
    refine d_q rfl rfl rfl rfl rfl ?_
    refine v_pick_t rfl rfl ?_
    refine v_nil ?_
    refine d_q rfl rfl rfl rfl rfl ?_
    refine v_assign rfl ?_
    refine v_nil ?_
    refine d_nil ?_
    refine q_n ?_
    refine w_ret ?_
    refine r_r rfl ?_
    exact a_b (by rw [jn_ext]; simp_all)
  have hi1 : i < 4 := by omega
  refine v_nil ?_
  refine q_n ?_
  refine w_t rfl ?_
  refine w_skip ?_
  refine q_n ?_
  refine w_seq ?_
  refine w_block ?_
  refine w_seq ?_
  refine w_seq ?_
  refine w_reg rfl ?_
  refine v_assign (c := .v (.int .i64 0)) rfl ?_
  refine v_nil ?_
  refine q_n ?_
  refine w_block ?_
  refine w_loop (fun k sl H => ∃ n : Nat, k = 4 - n ∧ n ≤ 4 ∧ (∀ a (ha : a < 4), a < n → j.2.2.1 ⟨i, hi1⟩ ⟨a, ha⟩ = q.2.2.1 ⟨i, hi1⟩ ⟨a, ha⟩) ∧ sl = sls [(0, .c (.vw false (jnc j ++ ra) 0)), (1, .c (.vw false (jnc q ++ rb) 0)), (5, cI i), (6, cI n)] ∧ H = []) ?_ ?_
  · refine ⟨_, _, _, ?_, 0, rfl, Nat.zero_le _, fun a ha h => by omega, rfl, rfl⟩
    exact turn0 ⟨tr_vw, tr_vw, tr_v, tr_v, trivial⟩
  rintro k sl H ⟨n, rfl, hn, hpn, rfl, rfl⟩
  refine w_seq ?_
  refine w_seq ?_
  refine w_reg rfl ?_
  refine v_move rfl ?_
  refine v_lss lay3 rfl rfl (fun h2 => ?_) (fun h2 => ?_)
  rotate_left
  · have hrow : j.2.2.1 ⟨i, hi1⟩ = q.2.2.1 ⟨i, hi1⟩ := fin_ext.2 fun a ha => hpn a ha (by omega)
    refine v_nil ?_
    refine q_n ?_
    refine w_f rfl ?_
    refine w_exit ?_
    refine q_e ?_
    refine q_e ?_
    refine q_hit ?_
    refine q_n ?_
    refine w_seq ?_
    refine w_draw [0, 0, 1, 5, 15, 31, 0, 0, 64, 320, 960, 1984, 4095, 8191] [⟨0, 0, []⟩, ⟨1, 0, []⟩, ⟨2, 0, []⟩, ⟨3, 0, []⟩, ⟨4, 0, []⟩, ⟨5, 0, []⟩, ⟨6, 0, []⟩, ⟨7, 0, []⟩, ⟨8, 0, []⟩, ⟨9, 0, []⟩, ⟨10, 0, []⟩, ⟨11, 0, []⟩, ⟨12, 0, []⟩, ⟨13, 0, []⟩] rfl rfl ?_
    refine d_q rfl rfl rfl rfl rfl ?_
    refine v_move rfl ?_
    refine v_nil ?_
    refine d_q rfl rfl rfl rfl rfl ?_
    refine v_move rfl ?_
    refine v_nil ?_
    refine d_q rfl rfl rfl rfl rfl ?_
    refine v_nil_vw rfl ?_
    refine v_nil ?_
    refine d_q rfl rfl rfl rfl rfl ?_
    refine v_fa_vw (off' := 18) lay65 rfl rfl rfl ?_
    refine v_nil ?_
    refine d_q rfl rfl rfl rfl rfl ?_
    refine v_idx_av_e (k := 1) (i) lay63 lay26 rfl rfl rfl (rfl) (hi1) ?_
    refine v_nil ?_
    refine d_q rfl rfl rfl rfl rfl ?_
    refine v_load_vw_e (.c (.f .f32 (j.2.2.2 ⟨i, hi1⟩))) lay26 rfl (by rw [jn_len]; show 18 + i * 1 + 1 ≤ _; omega) (jp_ld j ra hi1) ?_
    refine v_nil ?_
    refine d_q rfl rfl rfl rfl rfl ?_
    refine v_move rfl ?_
    refine v_nil ?_
    refine d_q rfl rfl rfl rfl rfl ?_
    refine v_move rfl ?_
    refine v_nil ?_
    refine d_q rfl rfl rfl rfl rfl ?_
    refine v_nil_vw rfl ?_
    refine v_nil ?_
    refine d_q rfl rfl rfl rfl rfl ?_
    refine v_fa_vw (off' := 18) lay65 rfl rfl rfl ?_
    refine v_nil ?_
    refine d_q rfl rfl rfl rfl rfl ?_
    refine v_idx_av_e (k := 1) (i) lay63 lay26 rfl rfl rfl (rfl) (hi1) ?_
    refine v_nil ?_
    refine d_q rfl rfl rfl rfl rfl ?_
    refine v_load_vw_e (.c (.f .f32 (q.2.2.2 ⟨i, hi1⟩))) lay26 rfl (by rw [jn_len]; show 18 + i * 1 + 1 ≤ _; omega) (jp_ld q rb hi1) ?_
    refine v_nil ?_
    refine d_callb (cLS _ _ (hj.2 i hi1).1 (hq.2 i hi1).1) rfl rfl rfl rfl (.cons vw_f (.cons vw_f .nil)) (fun h4 => ?_) (fun h4 => ?_)
    rotate_left
    · have e51 := h4
      refine d_q rfl rfl rfl rfl rfl ?_
      refine v_not true rfl rfl ?_
      refine v_nil ?_
      refine d_nil ?_
      refine q_n ?_
      refine w_t rfl ?_
      refine w_seq ?_
      refine w_reg rfl ?_
      refine v_assign (c := .v (.bool false)) rfl ?_
      refine v_nil ?_
      refine q_n ?_
      refine w_ret (q_br (q_r (q_r (q_br (q_r ?_)))))
      refine r_r rfl ?_
      exact a_b (by simp only [Bool.false_eq_true, false_iff]; rintro rfl; exact e51 rfl)
    have e51 := h4
    refine d_q rfl rfl rfl rfl rfl ?_
    refine v_not false rfl rfl ?_
    refine v_nil ?_
    refine d_nil ?_
    refine q_n ?_
    refine w_f rfl ?_
    refine w_skip ?_
    refine q_bn ?_
    refine q_n ?_
    refine w_reg rfl ?_
    refine v_move rfl ?_
    refine v_add lay3 rfl rfl (i64r (by omega)) ?_
    refine v_assign rfl ?_
    refine v_nil ?_
    refine q_n ?_
    refine ⟨_, _, _, ?_, ⟨i + 1, rfl, by omega, fun a ha h => ?_, rfl, rfl⟩, by omega⟩
    · exact turn0 ⟨tr_vw, tr_vw, tr_v, trivial⟩
    · rcases Nat.lt_or_eq_of_le (Nat.le_of_lt_succ h) with h | rfl
      · exact hp a ha h
      · exact ⟨hrow, e51⟩
  have hn1 : n < 4 := by omega
  refine v_nil ?_
  refine q_n ?_
  refine w_t rfl ?_
  refine w_skip ?_
  refine q_n ?_
  refine w_seq ?_
  refine w_block ?_
  refine w_seq ?_
  refine w_draw [0, 0, 0, 1, 9, 27, 63, 127, 0, 0, 0, 256, 2304, 6912, 16128, 32512, 65535, 131071] [⟨0, 0, []⟩, ⟨1, 0, []⟩, ⟨2, 0, []⟩, ⟨3, 0, []⟩, ⟨4, 0, []⟩, ⟨5, 0, []⟩, ⟨6, 0, []⟩, ⟨7, 0, []⟩, ⟨8, 0, []⟩, ⟨9, 0, []⟩, ⟨10, 0, []⟩, ⟨11, 0, []⟩, ⟨12, 0, []⟩, ⟨13, 0, []⟩, ⟨14, 0, []⟩, ⟨15, 0, []⟩, ⟨16, 0, []⟩, ⟨17, 0, []⟩] rfl rfl ?_
  refine d_q rfl rfl rfl rfl rfl ?_
  refine v_move rfl ?_
  refine v_nil ?_
  refine d_q rfl rfl rfl rfl rfl ?_
  refine v_move rfl ?_
  refine v_nil ?_
  refine d_q rfl rfl rfl rfl rfl ?_
  refine v_move rfl ?_
  refine v_nil ?_
  refine d_q rfl rfl rfl rfl rfl ?_
  refine v_nil_vw rfl ?_
  refine v_nil ?_
  refine d_q rfl rfl rfl rfl rfl ?_
  refine v_fa_vw (off' := 2) lay65 rfl rfl rfl ?_
  refine v_nil ?_
  refine d_q rfl rfl rfl rfl rfl ?_
  refine v_idx_av_e (k := 4) (i) lay62 lay60 rfl rfl rfl (rfl) (hi1) ?_
  refine v_nil ?_
  refine d_q rfl rfl rfl rfl rfl ?_
  refine v_idx_av_e (k := 1) (n) lay60 lay26 rfl rfl rfl (rfl) (hn1) ?_
  refine v_nil ?_
  refine d_q rfl rfl rfl rfl rfl ?_
  refine v_load_vw_e (.c (.f .f32 (j.2.2.1 ⟨i, hi1⟩ ⟨n, hn1⟩))) lay26 rfl (by rw [jn_len]; show 2 + i * 4 + n * 1 + 1 ≤ _; omega) (jt_ld j ra hi1 hn1) ?_
  refine v_nil ?_
  refine d_q rfl rfl rfl rfl rfl ?_
  refine v_move rfl ?_
  refine v_nil ?_
  refine d_q rfl rfl rfl rfl rfl ?_
  refine v_move rfl ?_
  refine v_nil ?_
  refine d_q rfl rfl rfl rfl rfl ?_
  refine v_move rfl ?_
  refine v_nil ?_
  refine d_q rfl rfl rfl rfl rfl ?_
  refine v_nil_vw rfl ?_
  refine v_nil ?_
  refine d_q rfl rfl rfl rfl rfl ?_
  refine v_fa_vw (off' := 2) lay65 rfl rfl rfl ?_
  refine v_nil ?_
  refine d_q rfl rfl rfl rfl rfl ?_
  refine v_idx_av_e (k := 4) (i) lay62 lay60 rfl rfl rfl (rfl) (hi1) ?_
  refine v_nil ?_
  refine d_q rfl rfl rfl rfl rfl ?_
  refine v_idx_av_e (k := 1) (n) lay60 lay26 rfl rfl rfl (rfl) (hn1) ?_
  refine v_nil ?_
  refine d_q rfl rfl rfl rfl rfl ?_
  refine v_load_vw_e (.c (.f .f32 (q.2.2.1 ⟨i, hi1⟩ ⟨n, hn1⟩))) lay26 rfl (by rw [jn_len]; show 2 + i * 4 + n * 1 + 1 ≤ _; omega) (jt_ld q rb hi1 hn1) ?_
  refine v_nil ?_
  refine d_callb (cLS _ _ (hj.1 i hi1 n hn1).1 (hq.1 i hi1 n hn1).1) rfl rfl rfl rfl (.cons vw_f (.cons vw_f .nil)) (fun h3 => ?_) (fun h3 => ?_)
  rotate_left
  · have e47 := h3
    refine d_q rfl rfl rfl rfl rfl ?_
    refine v_not true rfl rfl ?_
    refine v_nil ?_
    refine d_nil ?_
    refine q_n ?_
    refine w_t rfl ?_
    refine w_seq ?_
    refine w_reg rfl ?_
    refine v_assign (c := .v (.bool false)) rfl ?_
    refine v_nil ?_
    refine q_n ?_
    refine w_ret (q_br (q_r (q_r (q_br (q_r (q_br (q_r (q_r (q_br (q_r ?_))))))))))
    refine r_r rfl ?_
    exact a_b (by simp only [Bool.false_eq_true, false_iff]; rintro rfl; exact e47 rfl)
  have e47 := h3
  refine d_q rfl rfl rfl rfl rfl ?_
  refine v_not false rfl rfl ?_
  refine v_nil ?_
  refine d_nil ?_
  refine q_n ?_
  refine w_f rfl ?_
  refine w_skip ?_
  refine q_bn ?_
  refine q_n ?_
  refine w_reg rfl ?_
  refine v_move rfl ?_
  refine v_add lay3 rfl rfl (i64r (by omega)) ?_
  refine v_assign rfl ?_
  refine v_nil ?_
  refine q_n ?_
  refine ⟨_, _, _, ?_, ⟨n + 1, rfl, by omega, fun a ha h => ?_, rfl, rfl⟩, by omega⟩
  · exact turn0 ⟨tr_vw, tr_vw, tr_v, tr_v, trivial⟩
  · rcases Nat.lt_or_eq_of_le (Nat.le_of_lt_succ h) with h | rfl
    · exact hpn a ha h
    · exact e47
theorem cL0Same (xs ys : List Int) (hx : xs.length ≤ 2 ^ 40) : PureC X 81 [.c (.sl false xs.length 1 (flat int xs)), .c (.sl false ys.length 1 (flat int ys))] (cB (decide (xs = ys))) := by
  refine PureC.of_body (drawD_ok X) (fun _ _ => Go.Proofs.Try.call81 _ _) Go.Proofs.Try.func81 rfl (n := 26) rfl ?_
  refine w_seq ?_
  refine w_reg rfl ?_
  refine v_assign (c := .v (.bool false)) rfl ?_
  refine v_nil ?_
  refine q_n ?_
  refine w_seq ?_
  refine w_seq ?_
  refine w_reg rfl ?_
  refine v_move rfl ?_
  refine v_len_sl lay66 rfl ?_
  refine v_move rfl ?_
  refine v_len_sl lay66 rfl ?_
  refine v_neq lay3 rfl rfl (fun h1 => ?_) (fun h1 => ?_)
  · refine v_nil ?_
    refine q_n ?_
    refine w_t rfl ?_
    refine w_seq ?_
    refine w_reg rfl ?_
    refine v_assign (c := .v (.bool false)) rfl ?_
    refine v_nil ?_
    refine q_n ?_
    refine w_ret (q_r ?_)
    refine r_r rfl ?_
    exact a_b (by simp only [Bool.false_eq_true, false_iff]; rintro rfl; exact h1 rfl)
  refine v_nil ?_
  refine q_n ?_
  refine w_f rfl ?_
  refine w_skip ?_
  refine q_n ?_
  refine w_seq ?_
  refine w_seq ?_
  refine w_reg rfl ?_
  refine v_assign (c := .v (.int .i64 0)) rfl ?_
  refine v_nil ?_
  refine q_n ?_
  refine w_block ?_
  refine w_loop (fun k sl H => ∃ i : Nat, k = xs.length - i ∧ i ≤ xs.length ∧ xs.take i = ys.take i ∧ sl = sls [(0, .c (.sl false xs.length 1 (flat int xs))), (1, .c (.sl false ys.length 1 (flat int ys))), (5, cI i)] ∧ H = []) ?_ ?_
  · refine ⟨_, _, _, ?_, 0, rfl, Nat.zero_le _, rfl, rfl, rfl⟩
    exact turn0 ⟨tr_sl, tr_sl, tr_v, trivial⟩
  rintro k sl H ⟨i, rfl, hi, hp, rfl, rfl⟩
  refine w_seq ?_
  refine w_seq ?_
  refine w_reg rfl ?_
  refine v_move rfl ?_
  refine v_move rfl ?_
  refine v_len_sl lay66 rfl ?_
  refine v_lss lay3 rfl rfl (fun h2 => ?_) (fun h2 => ?_)
  rotate_left
  · refine v_nil ?_
    refine q_n ?_
    refine w_f rfl ?_
    refine w_exit ?_
    refine q_e ?_
    refine q_e ?_
    refine q_hit ?_
    refine q_n ?_
    refine w_seq ?_
    refine w_reg rfl ?_
    refine v_assign (c := .v (.bool true)) rfl ?_
    refine v_nil ?_
    refine q_n ?_
    refine w_ret ?_
    refine r_r rfl ?_
    exact a_b (by simp only [true_iff]; exact take_all_eq hp (by omega) (by omega))
  have i1 : i < xs.length := by omega
  have i2 : i < ys.length := by omega
  refine v_nil ?_
  refine q_n ?_
  refine w_t rfl ?_
  refine w_skip ?_
  refine q_n ?_
  refine w_seq ?_
  refine w_block ?_
  refine w_seq ?_
  refine w_draw [0, 0, 3, 7, 0, 0, 48, 112, 255] [⟨0, 0, []⟩, ⟨1, 0, []⟩, ⟨2, 0, []⟩, ⟨3, 0, []⟩, ⟨4, 0, []⟩, ⟨5, 0, []⟩, ⟨6, 0, []⟩, ⟨7, 0, []⟩, ⟨8, 0, []⟩] rfl rfl ?_
  refine d_q rfl rfl rfl rfl rfl ?_
  refine v_move rfl ?_
  refine v_nil ?_
  refine d_q rfl rfl rfl rfl rfl ?_
  refine v_move rfl ?_
  refine v_nil ?_
  refine d_q rfl rfl rfl rfl rfl ?_
  refine v_idx_e (k := 1) (i) int_len lay66 lay2 rfl rfl rfl (rfl) rfl (rfl) ((by omega : i < xs.length)) ?_
  refine v_nil ?_
  refine d_q rfl rfl rfl rfl rfl ?_
  refine v_load_vw (.c (.v _)) lay2 rfl rfl rfl ?_
  refine v_nil ?_
  refine d_q rfl rfl rfl rfl rfl ?_
  refine v_move rfl ?_
  refine v_nil ?_
  refine d_q rfl rfl rfl rfl rfl ?_
  refine v_move rfl ?_
  refine v_nil ?_
  refine d_q rfl rfl rfl rfl rfl ?_
  refine v_idx_e (k := 1) (i) int_len lay66 lay2 rfl rfl rfl (rfl) rfl (rfl) ((by omega : i < ys.length)) ?_
  refine v_nil ?_
  refine d_q rfl rfl rfl rfl rfl ?_
  refine v_load_vw (.c (.v _)) lay2 rfl rfl rfl ?_
  refine v_nil ?_
  refine d_q rfl rfl rfl rfl rfl ?_
  refine v_neq lay2 rfl rfl (fun h5 => ?_) (fun h5 => ?_)
  · refine v_nil ?_
    refine d_nil ?_
    refine q_n ?_
    refine w_t rfl ?_
    refine w_seq ?_
    refine w_reg rfl ?_
    refine v_assign (c := .v (.bool false)) rfl ?_
    refine v_nil ?_
    refine q_n ?_
    refine w_ret (q_br (q_r (q_r (q_br (q_r ?_)))))
    refine r_r rfl ?_
    exact a_b (by simp only [Bool.false_eq_true, false_iff]; exact ne_at i1 i2 h5)
  refine v_nil ?_
  refine d_nil ?_
  refine q_n ?_
  refine w_f rfl ?_
  refine w_skip ?_
  refine q_bn ?_
  refine q_n ?_
  refine w_reg rfl ?_
  refine v_move rfl ?_
  refine v_add lay3 rfl rfl (i64r (by omega)) ?_
  refine v_assign rfl ?_
  refine v_nil ?_
  refine q_n ?_
  refine ⟨_, _, _, ?_, ⟨i + 1, rfl, by omega, take_step_eq hp i1 i2 h5, rfl, rfl⟩, by omega⟩
  exact turn0 ⟨tr_sl, tr_sl, tr_v, trivial⟩
theorem cL6SJ (j q : Jo) (hj : jW j.1) (hq : jW q.1) (h1 : j.2.1.length ≤ 2 ^ 40) (h2 : j.2.2.1.length ≤ 2 ^ 40) : PureC X 54 [.c (.vw false (joc j) 0), .c (.vw false (joc q) 0)] (cB (decide (j = q))) := by
  refine PureC.of_body (drawD_ok X) (fun _ _ => Go.Proofs.Try.call54 _ _) Go.Proofs.Try.func54 rfl (n := 45) rfl ?_
  refine w_seq ?_
  refine w_reg rfl ?_
  refine v_assign (c := .v (.bool false)) rfl ?_
  refine v_nil ?_
  refine q_n ?_
  refine w_seq ?_
  refine w_draw [0, 1, 3, 0, 8, 24, 63, 127, 255, 511, 1023, 2047, 255, 4351, 12543, 28927, 65535, 131071, 262143, 524287, 1048575, 2097151, 4194303, 524287, 8912895, 25690111, 59244543, 134217727, 268435455, 536870911, 1073741823, 2147483647, 4294967295, 8589934591, 1073741823, 18253611007, 52613349375, 121332826111, 274877906943, 549755813887, 1099511627775] [⟨0, 0, []⟩, ⟨1, 0, []⟩, ⟨2, 0, []⟩, ⟨3, 0, []⟩, ⟨4, 0, []⟩, ⟨5, 0, []⟩, ⟨6, 0, []⟩, ⟨7, 0, []⟩, ⟨8, 0, []⟩, ⟨9, 0, []⟩, ⟨10, 0, []⟩, ⟨11, 0, []⟩, ⟨12, 0, []⟩, ⟨13, 0, []⟩, ⟨14, 0, []⟩, ⟨15, 0, []⟩, ⟨16, 0, []⟩, ⟨17, 0, []⟩, ⟨18, 0, []⟩, ⟨19, 0, []⟩, ⟨20, 0, []⟩, ⟨21, 0, []⟩, ⟨22, 0, []⟩, ⟨23, 0, []⟩, ⟨24, 0, []⟩, ⟨25, 0, []⟩, ⟨26, 0, []⟩, ⟨27, 0, []⟩, ⟨28, 0, []⟩, ⟨29, 0, []⟩, ⟨30, 0, []⟩, ⟨31, 0, []⟩, ⟨32, 0, []⟩, ⟨33, 0, []⟩, ⟨34, 0, []⟩, ⟨35, 0, []⟩, ⟨36, 0, []⟩, ⟨37, 0, []⟩, ⟨38, 0, []⟩, ⟨39, 0, []⟩, ⟨40, 0, []⟩] rfl rfl ?_
  refine d_q rfl rfl rfl rfl rfl ?_
  refine v_move rfl ?_
  refine v_nil ?_
  refine d_q rfl rfl rfl rfl rfl ?_
  refine v_nil_vw rfl ?_
  refine v_nil ?_
  refine d_q rfl rfl rfl rfl rfl ?_
  refine v_fa_vw (off' := 0) lay68 rfl rfl rfl ?_
  refine v_nil ?_
  refine d_q rfl rfl rfl rfl rfl ?_
  refine v_move rfl ?_
  refine v_nil ?_
  refine d_q rfl rfl rfl rfl rfl ?_
  refine v_nil_vw rfl ?_
  refine v_nil ?_
  refine d_q rfl rfl rfl rfl rfl ?_
  refine v_fa_vw (off' := 0) lay68 rfl rfl rfl ?_
  refine v_nil ?_
  refine d_callb (cL3Same j.1 q.1 [.sl true j.2.1.length 1 (flat int j.2.1), .sl true j.2.2.1.length 1 (flat int j.2.2.1), .v (.int .i64 j.2.2.2)] [.sl true q.2.1.length 1 (flat int q.2.1), .sl true q.2.2.1.length 1 (flat int q.2.2.1), .v (.int .i64 q.2.2.2)] hj hq) rfl rfl rfl rfl (.cons vw_vw (.cons vw_vw .nil)) (fun h1 => ?_) (fun h1 => ?_)
  rotate_left
  · refine d_q rfl rfl rfl rfl rfl ?_
    refine v_move rfl ?_
    refine v_nil ?_
    refine d_off rfl rfl ?_
    refine d_off rfl rfl ?_
    refine d_off rfl rfl ?_
    refine d_off rfl rfl ?_
    refine d_off rfl rfl ?_
    refine d_off rfl rfl ?_
    refine d_off rfl rfl ?_
    refine d_off rfl rfl ?_
    refine d_off rfl rfl ?_
    refine d_q rfl rfl rfl rfl rfl ?_
    refine v_pick_f (v := .v (.bool false)) rfl rfl ?_
    refine v_nil ?_
    refine d_q rfl rfl rfl rfl rfl ?_
    refine v_move rfl ?_
    refine v_nil ?_
    refine d_off rfl rfl ?_
    refine d_off rfl rfl ?_
    refine d_off rfl rfl ?_
    refine d_off rfl rfl ?_
    refine d_off rfl rfl ?_
    refine d_off rfl rfl ?_
    refine d_off rfl rfl ?_
    refine d_off rfl rfl ?_
    refine d_off rfl rfl ?_
    refine d_q rfl rfl rfl rfl rfl ?_
    refine v_pick_f (v := .v (.bool false)) rfl rfl ?_
    refine v_nil ?_
    refine d_q rfl rfl rfl rfl rfl ?_
    refine v_move rfl ?_
    refine v_nil ?_
    refine d_off rfl rfl ?_
    refine d_off rfl rfl ?_
    refine d_off rfl rfl ?_
    refine d_off rfl rfl ?_
    refine d_off rfl rfl ?_
    refine d_off rfl rfl ?_
    refine d_off rfl rfl ?_
    refine d_off rfl rfl ?_
    refine d_off rfl rfl ?_
    refine d_q rfl rfl rfl rfl rfl ?_
    refine v_pick_f (v := .v (.bool false)) rfl rfl ?_
    refine v_nil ?_
    refine d_q rfl rfl rfl rfl rfl ?_
    refine v_assign rfl ?_
    refine v_nil ?_
    refine d_nil ?_
    refine q_n ?_
    refine w_ret ?_
    refine r_r rfl ?_
    exact a_b (by rw [jo_ext]; simp_all)
  refine d_q rfl rfl rfl rfl rfl ?_
  refine v_move rfl ?_
  refine v_nil ?_
  refine d_q rfl rfl rfl rfl rfl ?_
  refine v_move rfl ?_
  refine v_nil ?_
  refine d_q rfl rfl rfl rfl rfl ?_
  refine v_nil_vw rfl ?_
  refine v_nil ?_
  refine d_q rfl rfl rfl rfl rfl ?_
  refine v_fa_vw (off' := 22) lay68 rfl rfl rfl ?_
  refine v_nil ?_
  refine d_q rfl rfl rfl rfl rfl ?_
  refine v_load_vw (.c (_)) lay66 rfl rfl rfl ?_
  refine v_nil ?_
  refine d_q rfl rfl rfl rfl rfl ?_
  refine v_move rfl ?_
  refine v_nil ?_
  refine d_q rfl rfl rfl rfl rfl ?_
  refine v_nil_vw rfl ?_
  refine v_nil ?_
  refine d_q rfl rfl rfl rfl rfl ?_
  refine v_fa_vw (off' := 22) lay68 rfl rfl rfl ?_
  refine v_nil ?_
  refine d_q rfl rfl rfl rfl rfl ?_
  refine v_load_vw (.c (_)) lay66 rfl rfl rfl ?_
  refine v_nil ?_
  refine d_callb (cL0Same _ _ (by omega)) rfl rfl rfl rfl (.cons vw_sl (.cons vw_sl .nil)) (fun h2 => ?_) (fun h2 => ?_)
  rotate_left
  · refine d_q rfl rfl rfl rfl rfl ?_
    refine v_pick_t rfl rfl ?_
    refine v_nil ?_
    refine d_q rfl rfl rfl rfl rfl ?_
    refine v_move rfl ?_
    refine v_nil ?_
    refine d_off rfl rfl ?_
    refine d_off rfl rfl ?_
    refine d_off rfl rfl ?_
    refine d_off rfl rfl ?_
    refine d_off rfl rfl ?_
    refine d_off rfl rfl ?_
    refine d_off rfl rfl ?_
    refine d_off rfl rfl ?_
    refine d_off rfl rfl ?_
    refine d_q rfl rfl rfl rfl rfl ?_
    refine v_pick_f (v := .v (.bool false)) rfl rfl ?_
    refine v_nil ?_
    refine d_q rfl rfl rfl rfl rfl ?_
    refine v_move rfl ?_
    refine v_nil ?_
    refine d_off rfl rfl ?_
    refine d_off rfl rfl ?_
    refine d_off rfl rfl ?_
    refine d_off rfl rfl ?_
    refine d_off rfl rfl ?_
    refine d_off rfl rfl ?_
    refine d_off rfl rfl ?_
    refine d_off rfl rfl ?_
    refine d_off rfl rfl ?_
    refine d_q rfl rfl rfl rfl rfl ?_
    refine v_pick_f (v := .v (.bool false)) rfl rfl ?_
    refine v_nil ?_
    refine d_q rfl rfl rfl rfl rfl ?_
    refine v_assign rfl ?_
    refine v_nil ?_
    refine d_nil ?_
    refine q_n ?_
    refine w_ret ?_
    refine r_r rfl ?_
    exact a_b (by rw [jo_ext]; simp_all)
  refine d_q rfl rfl rfl rfl rfl ?_
  refine v_pick_t rfl rfl ?_
  refine v_nil ?_
  refine d_q rfl rfl rfl rfl rfl ?_
  refine v_move rfl ?_
  refine v_nil ?_
  refine d_q rfl rfl rfl rfl rfl ?_
  refine v_move rfl ?_
  refine v_nil ?_
  refine d_q rfl rfl rfl rfl rfl ?_
  refine v_nil_vw rfl ?_
  refine v_nil ?_
  refine d_q rfl rfl rfl rfl rfl ?_
  refine v_fa_vw (off' := 23) lay68 rfl rfl rfl ?_
  refine v_nil ?_
  refine d_q rfl rfl rfl rfl rfl ?_
  refine v_load_vw (.c (_)) lay66 rfl rfl rfl ?_
  refine v_nil ?_
  refine d_q rfl rfl rfl rfl rfl ?_
  refine v_move rfl ?_
  refine v_nil ?_
  refine d_q rfl rfl rfl rfl rfl ?_
  refine v_nil_vw rfl ?_
  refine v_nil ?_
  refine d_q rfl rfl rfl rfl rfl ?_
  refine v_fa_vw (off' := 23) lay68 rfl rfl rfl ?_
  refine v_nil ?_
  refine d_q rfl rfl rfl rfl rfl ?_
  refine v_load_vw (.c (_)) lay66 rfl rfl rfl ?_
  refine v_nil ?_
  refine d_callb (cL0Same _ _ (by omega)) rfl rfl rfl rfl (.cons vw_sl (.cons vw_sl .nil)) (fun h3 => ?_) (fun h3 => ?_)
  rotate_left
  · refine d_q rfl rfl rfl rfl rfl ?_
    refine v_pick_t rfl rfl ?_
    refine v_nil ?_
    refine d_q rfl rfl rfl rfl rfl ?_
    refine v_move rfl ?_
    refine v_nil ?_
    refine d_off rfl rfl ?_
    refine d_off rfl rfl ?_
    refine d_off rfl rfl ?_
    refine d_off rfl rfl ?_
    refine d_off rfl rfl ?_
    refine d_off rfl rfl ?_
    refine d_off rfl rfl ?_
    refine d_off rfl rfl ?_
    refine d_off rfl rfl ?_
    refine d_q rfl rfl rfl rfl rfl ?_
    refine v_pick_f (v := .v (.bool false)) rfl rfl ?_
    refine v_nil ?_
    refine d_q rfl rfl rfl rfl rfl ?_
    refine v_assign rfl ?_
    refine v_nil ?_
    refine d_nil ?_
    refine q_n ?_
    refine w_ret ?_
    refine r_r rfl ?_
    exact a_b (by rw [jo_ext]; simp_all)
  refine d_q rfl rfl rfl rfl rfl ?_
  refine v_pick_t rfl rfl ?_
  refine v_nil ?_
  refine d_q rfl rfl rfl rfl rfl ?_
  refine v_move rfl ?_
  refine v_nil ?_
  refine d_q rfl rfl rfl rfl rfl ?_
  refine v_move rfl ?_
  refine v_nil ?_
  refine d_q rfl rfl rfl rfl rfl ?_
  refine v_nil_vw rfl ?_
  refine v_nil ?_
  refine d_q rfl rfl rfl rfl rfl ?_
  refine v_fa_vw (off' := 24) lay68 rfl rfl rfl ?_
  refine v_nil ?_
  refine d_q rfl rfl rfl rfl rfl ?_
  refine v_load_vw (.c (.v _)) lay2 rfl rfl rfl ?_
  refine v_nil ?_
  refine d_q rfl rfl rfl rfl rfl ?_
  refine v_move rfl ?_
  refine v_nil ?_
  refine d_q rfl rfl rfl rfl rfl ?_
  refine v_nil_vw rfl ?_
  refine v_nil ?_
  refine d_q rfl rfl rfl rfl rfl ?_
  refine v_fa_vw (off' := 24) lay68 rfl rfl rfl ?_
  refine v_nil ?_
  refine d_q rfl rfl rfl rfl rfl ?_
  refine v_load_vw (.c (.v _)) lay2 rfl rfl rfl ?_
  refine v_nil ?_
  refine d_q rfl rfl rfl rfl rfl ?_
  refine v_eql lay2 rfl rfl (fun h4 => ?_) (fun h4 => ?_)
  · refine v_nil ?_
    refine d_q rfl rfl rfl rfl rfl ?_
    refine v_pick_t rfl rfl ?_
    refine v_nil ?_
    refine d_q rfl rfl rfl rfl rfl ?_
    refine v_assign rfl ?_
    refine v_nil ?_
    refine d_nil ?_
    refine q_n ?_
    refine w_ret ?_
    refine r_r rfl ?_
    exact a_b (by rw [jo_ext]; simp_all)
  refine v_nil ?_
  refine d_q rfl rfl rfl rfl rfl ?_
  refine v_pick_t rfl rfl ?_
  refine v_nil ?_
  refine d_q rfl rfl rfl rfl rfl ?_
  refine v_assign rfl ?_
  refine v_nil ?_
  refine d_nil ?_
  refine q_n ?_
  refine w_ret ?_
  refine r_r rfl ?_
  exact a_b (by rw [jo_ext]; simp_all)
theorem cL4Same (p q : Pln) (hp : pW p) (hq : pW q) (hx : p.1.length ≤ 2 ^ 40) (hy : q.1.length ≤ 2 ^ 40) : PureC X 55 [.c (.vw false (plc p) 0), .c (.vw false (plc q) 0)] (cB (decide (p = q))) := by
  refine PureC.of_body (drawD_ok X) (fun _ _ => Go.Proofs.Try.call55 _ _) Go.Proofs.Try.func55 rfl (n := 61) rfl ?_
  refine w_seq ?_
  refine w_reg rfl ?_
  refine v_assign (c := .v (.bool false)) rfl ?_
  refine v_nil ?_
  refine q_n ?_
  refine w_seq ?_
  refine w_seq ?_
  refine w_draw [0, 1, 3, 7, 15, 0, 32, 96, 224, 480, 1023] [⟨0, 0, []⟩, ⟨1, 0, []⟩, ⟨2, 0, []⟩, ⟨3, 0, []⟩, ⟨4, 0, []⟩, ⟨5, 0, []⟩, ⟨6, 0, []⟩, ⟨7, 0, []⟩, ⟨8, 0, []⟩, ⟨9, 0, []⟩, ⟨10, 0, []⟩] rfl rfl ?_
  refine d_q rfl rfl rfl rfl rfl ?_
  refine v_move rfl ?_
  refine v_nil ?_
  refine d_q rfl rfl rfl rfl rfl ?_
  refine v_nil_vw rfl ?_
  refine v_nil ?_
  refine d_q rfl rfl rfl rfl rfl ?_
  refine v_fa_vw (off' := 0) lay73 rfl rfl rfl ?_
  refine v_nil ?_
  refine d_q rfl rfl rfl rfl rfl ?_
  refine v_load_vw (.c (_)) lay71 rfl rfl rfl ?_
  refine v_nil ?_
  refine d_q rfl rfl rfl rfl rfl ?_
  refine v_len_sl lay71 rfl ?_
  refine v_nil ?_
  refine d_q rfl rfl rfl rfl rfl ?_
  refine v_move rfl ?_
  refine v_nil ?_
  refine d_q rfl rfl rfl rfl rfl ?_
  refine v_nil_vw rfl ?_
  refine v_nil ?_
  refine d_q rfl rfl rfl rfl rfl ?_
  refine v_fa_vw (off' := 0) lay73 rfl rfl rfl ?_
  refine v_nil ?_
  refine d_q rfl rfl rfl rfl rfl ?_
  refine v_load_vw (.c (_)) lay71 rfl rfl rfl ?_
  refine v_nil ?_
  refine d_q rfl rfl rfl rfl rfl ?_
  refine v_len_sl lay71 rfl ?_
  refine v_nil ?_
  refine d_q rfl rfl rfl rfl rfl ?_
  refine v_neq lay3 rfl rfl (fun h1 => ?_) (fun h1 => ?_)
  · have hl := h1
    refine v_nil ?_
    refine d_nil ?_
    refine q_n ?_
    refine w_t rfl ?_
    refine w_seq ?_
    refine w_reg rfl ?_
    refine v_assign (c := .v (.bool false)) rfl ?_
    refine v_nil ?_
    refine q_n ?_
    refine w_ret (q_r ?_)
    refine r_r rfl ?_
    exact a_b (by simp only [Bool.false_eq_true, false_iff]; rintro rfl; exact hl rfl)
  have hl := h1
  refine v_nil ?_
  refine d_nil ?_
  refine q_n ?_
  refine w_f rfl ?_
  refine w_skip ?_
  refine q_n ?_
  refine w_seq ?_
  refine w_seq ?_
  refine w_reg rfl ?_
  refine v_assign (c := .v (.int .i64 0)) rfl ?_
  refine v_nil ?_
  refine q_n ?_
  refine w_block ?_
  refine w_loop (fun k sl H => ∃ i : Nat, k = p.1.length - i ∧ i ≤ p.1.length ∧ p.1.take i = q.1.take i ∧ sl = sls [(0, .c (.vw false (plc p) 0)), (1, .c (.vw false (plc q) 0)), (5, cI i)] ∧ H = []) ?_ ?_
  · refine ⟨_, _, _, ?_, 0, rfl, Nat.zero_le _, rfl, rfl, rfl⟩
    exact turn0 ⟨tr_vw, tr_vw, tr_v, trivial⟩
  rintro k sl H ⟨i, rfl, hi, hpq, rfl, rfl⟩
  refine w_seq ?_
  refine w_seq ?_
  refine w_reg rfl ?_
  refine v_move rfl ?_
  refine v_move rfl ?_
  refine v_nil_vw rfl ?_
  refine v_fa_vw (off' := 0) lay73 rfl rfl rfl ?_
  refine v_load_vw (.c (_)) lay71 rfl rfl rfl ?_
  refine v_len_sl lay71 rfl ?_
  refine v_lss lay3 rfl rfl (fun h2 => ?_) (fun h2 => ?_)
  · have i1 : i < p.1.length := by omega
    have i2 : i < q.1.length := by omega
    refine v_nil ?_
    refine q_n ?_
    refine w_t rfl ?_
    refine w_skip ?_
    refine q_n ?_
    refine w_seq ?_
    refine w_block ?_
    refine w_seq ?_
    refine w_draw [0, 1, 3, 7, 0, 31, 63, 0, 128, 384, 896, 0, 3968, 8064, 16383] [⟨0, 0, []⟩, ⟨1, 0, []⟩, ⟨2, 0, []⟩, ⟨3, 0, []⟩, ⟨4, 0, []⟩, ⟨5, 0, []⟩, ⟨6, 0, []⟩, ⟨7, 0, []⟩, ⟨8, 0, []⟩, ⟨9, 0, []⟩, ⟨10, 0, []⟩, ⟨11, 0, []⟩, ⟨12, 0, []⟩, ⟨13, 0, []⟩, ⟨14, 0, []⟩] rfl rfl ?_
    refine d_q rfl rfl rfl rfl rfl ?_
    refine v_move rfl ?_
    refine v_nil ?_
    refine d_q rfl rfl rfl rfl rfl ?_
    refine v_nil_vw rfl ?_
    refine v_nil ?_
    refine d_q rfl rfl rfl rfl rfl ?_
    refine v_fa_vw (off' := 0) lay73 rfl rfl rfl ?_
    refine v_nil ?_
    refine d_q rfl rfl rfl rfl rfl ?_
    refine v_load_vw (.c (_)) lay71 rfl rfl rfl ?_
    refine v_nil ?_
    refine d_q rfl rfl rfl rfl rfl ?_
    refine v_move rfl ?_
    refine v_nil ?_
    refine d_q rfl rfl rfl rfl rfl ?_
    refine v_idx_e (k := 9) (i) stc_len lay71 lay117 rfl rfl rfl (rfl) rfl (rfl) (i1) ?_
    refine v_nil ?_
    refine d_q rfl rfl rfl rfl rfl ?_
    refine v_load_vw (.agg [.v _, .v _, .v _, .v _, .v _, .v _, .v _, .v _, .v _]) lay117 rfl rfl rfl ?_
    refine v_nil ?_
    refine d_q rfl rfl rfl rfl rfl ?_
    refine v_move rfl ?_
    refine v_nil ?_
    refine d_q rfl rfl rfl rfl rfl ?_
    refine v_nil_vw rfl ?_
    refine v_nil ?_
    refine d_q rfl rfl rfl rfl rfl ?_
    refine v_fa_vw (off' := 0) lay73 rfl rfl rfl ?_
    refine v_nil ?_
    refine d_q rfl rfl rfl rfl rfl ?_
    refine v_load_vw (.c (_)) lay71 rfl rfl rfl ?_
    refine v_nil ?_
    refine d_q rfl rfl rfl rfl rfl ?_
    refine v_move rfl ?_
    refine v_nil ?_
    refine d_q rfl rfl rfl rfl rfl ?_
    refine v_idx_e (k := 9) (i) stc_len lay71 lay117 rfl rfl rfl (rfl) rfl (rfl) (i2) ?_
    refine v_nil ?_
    refine d_q rfl rfl rfl rfl rfl ?_
    refine v_load_vw (.agg [.v _, .v _, .v _, .v _, .v _, .v _, .v _, .v _, .v _]) lay117 rfl rfl rfl ?_
    refine v_nil ?_
    refine d_rawb (rqS (a := p.1[i]) (b := q.1[i]) (hp _ (List.getElem_mem i1)) (hq _ (List.getElem_mem i2)) rfl rfl) rfl rfl rfl rfl rfl (fun h5 => ?_) (fun h5 => ?_)
    · have heq := h5
      refine d_nil ?_
      refine q_n ?_
      refine w_t rfl ?_
      refine w_seq ?_
      refine w_reg rfl ?_
      refine v_assign (c := .v (.bool false)) rfl ?_
      refine v_nil ?_
      refine q_n ?_
      refine w_ret (q_br (q_r (q_r (q_br (q_r ?_)))))
      refine r_r rfl ?_
      exact a_b (by simp only [Bool.false_eq_true, false_iff]; rintro rfl; exact heq rfl)
    have heq := h5
    refine d_nil ?_
    refine q_n ?_
    refine w_f rfl ?_
    refine w_skip ?_
    refine q_bn ?_
    refine q_n ?_
    refine w_reg rfl ?_
    refine v_move rfl ?_
    refine v_add lay3 rfl rfl (i64r (by omega)) ?_
    refine v_assign rfl ?_
    refine v_nil ?_
    refine q_n ?_
    refine ⟨_, _, _, ?_, ⟨i + 1, rfl, by omega, take_step_eq hpq i1 i2 (Decidable.not_not.1 heq), rfl, rfl⟩, by omega⟩
    exact turn0 ⟨tr_vw, tr_vw, tr_v, trivial⟩
  have hpe : p.1 = q.1 := take_all_eq hpq (by omega) (by omega)
  refine v_nil ?_
  refine q_n ?_
  refine w_f rfl ?_
  refine w_exit ?_
  refine q_e ?_
  refine q_e ?_
  refine q_hit ?_
  refine q_n ?_
  refine w_seq ?_
  refine w_draw [0, 1, 3, 7, 0, 16, 48, 112, 255, 511, 1023, 2047, 4095, 8191, 1023, 17407, 50175, 115711, 262143, 524287, 1048575] [⟨0, 0, []⟩, ⟨1, 0, []⟩, ⟨2, 0, []⟩, ⟨3, 0, []⟩, ⟨4, 0, []⟩, ⟨5, 0, []⟩, ⟨6, 0, []⟩, ⟨7, 0, []⟩, ⟨8, 0, []⟩, ⟨9, 0, []⟩, ⟨10, 0, []⟩, ⟨11, 0, []⟩, ⟨12, 0, []⟩, ⟨13, 0, []⟩, ⟨14, 0, []⟩, ⟨15, 0, []⟩, ⟨16, 0, []⟩, ⟨17, 0, []⟩, ⟨18, 0, []⟩, ⟨19, 0, []⟩, ⟨20, 0, []⟩] rfl rfl ?_
  refine d_q rfl rfl rfl rfl rfl ?_
  refine v_move rfl ?_
  refine v_nil ?_
  refine d_q rfl rfl rfl rfl rfl ?_
  refine v_nil_vw rfl ?_
  refine v_nil ?_
  refine d_q rfl rfl rfl rfl rfl ?_
  refine v_fa_vw (off' := 1) lay73 rfl rfl rfl ?_
  refine v_nil ?_
  refine d_q rfl rfl rfl rfl rfl ?_
  refine v_load_vw (.c (.v _)) lay2 rfl rfl rfl ?_
  refine v_nil ?_
  refine d_q rfl rfl rfl rfl rfl ?_
  refine v_move rfl ?_
  refine v_nil ?_
  refine d_q rfl rfl rfl rfl rfl ?_
  refine v_nil_vw rfl ?_
  refine v_nil ?_
  refine d_q rfl rfl rfl rfl rfl ?_
  refine v_fa_vw (off' := 1) lay73 rfl rfl rfl ?_
  refine v_nil ?_
  refine d_q rfl rfl rfl rfl rfl ?_
  refine v_load_vw (.c (.v _)) lay2 rfl rfl rfl ?_
  refine v_nil ?_
  refine d_q rfl rfl rfl rfl rfl ?_
  refine v_eql lay2 rfl rfl (fun h6 => ?_) (fun h6 => ?_)
  rotate_left
  · refine v_nil ?_
    refine d_q rfl rfl rfl rfl rfl ?_
    refine v_move rfl ?_
    refine v_nil ?_
    refine d_off rfl rfl ?_
    refine d_off rfl rfl ?_
    refine d_off rfl rfl ?_
    refine d_off rfl rfl ?_
    refine d_off rfl rfl ?_
    refine d_off rfl rfl ?_
    refine d_off rfl rfl ?_
    refine d_off rfl rfl ?_
    refine d_off rfl rfl ?_
    refine d_q rfl rfl rfl rfl rfl ?_
    refine v_pick_f (v := .v (.bool false)) rfl rfl ?_
    refine v_nil ?_
    refine d_q rfl rfl rfl rfl rfl ?_
    refine v_assign rfl ?_
    refine v_nil ?_
    refine d_nil ?_
    refine q_n ?_
    refine w_ret ?_
    refine r_r rfl ?_
    exact a_b (by rw [pln_ext]; simp_all)
  refine v_nil ?_
  refine d_q rfl rfl rfl rfl rfl ?_
  refine v_move rfl ?_
  refine v_nil ?_
  refine d_q rfl rfl rfl rfl rfl ?_
  refine v_move rfl ?_
  refine v_nil ?_
  refine d_q rfl rfl rfl rfl rfl ?_
  refine v_nil_vw rfl ?_
  refine v_nil ?_
  refine d_q rfl rfl rfl rfl rfl ?_
  refine v_fa_vw (off' := 2) lay73 rfl rfl rfl ?_
  refine v_nil ?_
  refine d_q rfl rfl rfl rfl rfl ?_
  refine v_load_vw (.c (.v _)) lay2 rfl rfl rfl ?_
  refine v_nil ?_
  refine d_q rfl rfl rfl rfl rfl ?_
  refine v_move rfl ?_
  refine v_nil ?_
  refine d_q rfl rfl rfl rfl rfl ?_
  refine v_nil_vw rfl ?_
  refine v_nil ?_
  refine d_q rfl rfl rfl rfl rfl ?_
  refine v_fa_vw (off' := 2) lay73 rfl rfl rfl ?_
  refine v_nil ?_
  refine d_q rfl rfl rfl rfl rfl ?_
  refine v_load_vw (.c (.v _)) lay2 rfl rfl rfl ?_
  refine v_nil ?_
  refine d_q rfl rfl rfl rfl rfl ?_
  refine v_eql lay2 rfl rfl (fun h7 => ?_) (fun h7 => ?_)
  · refine v_nil ?_
    refine d_q rfl rfl rfl rfl rfl ?_
    refine v_pick_t rfl rfl ?_
    refine v_nil ?_
    refine d_q rfl rfl rfl rfl rfl ?_
    refine v_assign rfl ?_
    refine v_nil ?_
    refine d_nil ?_
    refine q_n ?_
    refine w_ret ?_
    refine r_r rfl ?_
    exact a_b (by rw [pln_ext]; simp_all)
  refine v_nil ?_
  refine d_q rfl rfl rfl rfl rfl ?_
  refine v_pick_t rfl rfl ?_
  refine v_nil ?_
  refine d_q rfl rfl rfl rfl rfl ?_
  refine v_assign rfl ?_
  refine v_nil ?_
  refine d_nil ?_
  refine q_n ?_
  refine w_ret ?_
  refine r_r rfl ?_
  exact a_b (by rw [pln_ext]; simp_all)
theorem cL6Same (t u : Tw) (hB : tB (2 ^ 20) t) (hC : tB (2 ^ 20) u) (hF : tF t) (hG : tF u) : PureC X 18 [.c (.vw false (twf true t) 0), .c (.vw false (twf true u) 0)] (cB (decide (t = u))) := by
  refine PureC.of_body (drawD_ok X) (fun _ _ => Go.Proofs.Try.call18 _ _) Go.Proofs.Try.func18 rfl (n := 188) rfl ?_
  obtain ⟨b1, b2, b3, b4, b5, b6⟩ := id hB
  obtain ⟨c1, c2, c3, c4, c5, c6⟩ := id hC
  refine w_seq ?_
  refine w_reg rfl ?_
  refine v_assign (c := .v (.bool false)) rfl ?_
  refine v_nil ?_
  refine q_n ?_
  refine w_seq ?_
  refine w_seq ?_
  refine w_draw [0, 1, 3, 7, 15, 0, 32, 96, 224, 480, 1023, 2047, 4095, 8191, 16383, 32767, 65535, 4095, 135167, 397311, 921599, 1970175, 4194303, 8388607, 16777215, 33554431, 67108863, 134217727, 268435455, 536870911, 33554431, 1107296255, 3254779903, 7549747199, 16139681791, 34359738367, 68719476735, 137438953471, 274877906943, 549755813887, 1099511627775, 2199023255551, 4398046511103, 274877906943, 9070970929151, 26663156973567, 61847529062399, 132216273240063, 281474976710655, 562949953421311, 1125899906842623, 2251799813685247, 4503599627370495, 9007199254740991, 18014398509481983, 2251799813685247, 38280596832649215, 110338190870577151, 254453378946433023, 576460752303423487, 1152921504606846975, 2305843009213693951, 4611686018427387903, 9223372036854775807, 18446744073709551615, 36893488147419103231, 4611686018427387903, 78398662313265594367, 225972614902942007295, 521120520082294833151, 1180591620717411303423, 2361183241434822606847, 4722366482869645213695, 9444732965739290427391, 18889465931478580854783, 37778931862957161709567, 75557863725914323419135, 151115727451828646838271, 18889465931478580854783, 321120920835135874531327, 925583830642450461884415, 2134509650257079636590591, 4835703278458516698824703, 9671406556917033397649407, 19342813113834066795298815] [⟨0, 0, []⟩, ⟨1, 0, []⟩, ⟨2, 0, []⟩, ⟨3, 0, []⟩, ⟨4, 0, []⟩, ⟨5, 0, []⟩, ⟨6, 0, []⟩, ⟨7, 0, []⟩, ⟨8, 0, []⟩, ⟨9, 0, []⟩, ⟨10, 0, []⟩, ⟨11, 0, []⟩, ⟨12, 0, []⟩, ⟨13, 0, []⟩, ⟨14, 0, []⟩, ⟨15, 0, []⟩, ⟨16, 0, []⟩, ⟨17, 0, []⟩, ⟨18, 0, []⟩, ⟨19, 0, []⟩, ⟨20, 0, []⟩, ⟨21, 0, []⟩, ⟨22, 0, []⟩, ⟨23, 0, []⟩, ⟨24, 0, []⟩, ⟨25, 0, []⟩, ⟨26, 0, []⟩, ⟨27, 0, []⟩, ⟨28, 0, []⟩, ⟨29, 0, []⟩, ⟨30, 0, []⟩, ⟨31, 0, []⟩, ⟨32, 0, []⟩, ⟨33, 0, []⟩, ⟨34, 0, []⟩, ⟨35, 0, []⟩, ⟨36, 0, []⟩, ⟨37, 0, []⟩, ⟨38, 0, []⟩, ⟨39, 0, []⟩, ⟨40, 0, []⟩, ⟨41, 0, []⟩, ⟨42, 0, []⟩, ⟨43, 0, []⟩, ⟨44, 0, []⟩, ⟨45, 0, []⟩, ⟨46, 0, []⟩, ⟨47, 0, []⟩, ⟨48, 0, []⟩, ⟨49, 0, []⟩, ⟨50, 0, []⟩, ⟨51, 0, []⟩, ⟨52, 0, []⟩, ⟨53, 0, []⟩, ⟨54, 0, []⟩, ⟨55, 0, []⟩, ⟨56, 0, []⟩, ⟨57, 0, []⟩, ⟨58, 0, []⟩, ⟨59, 0, []⟩, ⟨60, 0, []⟩, ⟨61, 0, []⟩, ⟨62, 0, []⟩, ⟨63, 0, []⟩, ⟨64, 0, []⟩, ⟨65, 0, []⟩, ⟨66, 0, []⟩, ⟨67, 0, []⟩, ⟨68, 0, []⟩, ⟨69, 0, []⟩, ⟨70, 0, []⟩, ⟨71, 0, []⟩, ⟨72, 0, []⟩, ⟨73, 0, []⟩, ⟨74, 0, []⟩, ⟨75, 0, []⟩, ⟨76, 0, []⟩, ⟨77, 0, []⟩, ⟨78, 0, []⟩, ⟨79, 0, []⟩, ⟨80, 0, []⟩, ⟨81, 0, []⟩, ⟨82, 0, []⟩, ⟨83, 0, []⟩, ⟨84, 0, []⟩] rfl rfl ?_
  refine d_q rfl rfl rfl rfl rfl ?_
  refine v_move rfl ?_
  refine v_nil ?_
  refine d_q rfl rfl rfl rfl rfl ?_
  refine v_nil_vw rfl ?_
  refine v_nil ?_
  refine d_q rfl rfl rfl rfl rfl ?_
  refine v_fa_vw (off' := 0) lay35 rfl rfl rfl ?_
  refine v_nil ?_
  refine d_q rfl rfl rfl rfl rfl ?_
  refine v_load_vw (.c (_)) lay31 rfl rfl rfl ?_
  refine v_nil ?_
  refine d_q rfl rfl rfl rfl rfl ?_
  refine v_len_sl lay31 rfl ?_
  refine v_nil ?_
  refine d_q rfl rfl rfl rfl rfl ?_
  refine v_move rfl ?_
  refine v_nil ?_
  refine d_q rfl rfl rfl rfl rfl ?_
  refine v_nil_vw rfl ?_
  refine v_nil ?_
  refine d_q rfl rfl rfl rfl rfl ?_
  refine v_fa_vw (off' := 0) lay35 rfl rfl rfl ?_
  refine v_nil ?_
  refine d_q rfl rfl rfl rfl rfl ?_
  refine v_load_vw (.c (_)) lay31 rfl rfl rfl ?_
  refine v_nil ?_
  refine d_q rfl rfl rfl rfl rfl ?_
  refine v_len_sl lay31 rfl ?_
  refine v_nil ?_
  refine d_q rfl rfl rfl rfl rfl ?_
  refine v_neq lay3 rfl rfl (fun h1 => ?_) (fun h1 => ?_)
  · have hn := h1
    refine v_nil ?_
    refine d_q rfl rfl rfl rfl rfl ?_
    refine v_move rfl ?_
    refine v_nil ?_
    refine d_off rfl rfl ?_
    refine d_off rfl rfl ?_
    refine d_off rfl rfl ?_
    refine d_off rfl rfl ?_
    refine d_off rfl rfl ?_
    refine d_off rfl rfl ?_
    refine d_off rfl rfl ?_
    refine d_off rfl rfl ?_
    refine d_off rfl rfl ?_
    refine d_off rfl rfl ?_
    refine d_off rfl rfl ?_
    refine d_q rfl rfl rfl rfl rfl ?_
    refine v_pick_t (v := .v (.bool true)) rfl rfl ?_
    refine v_nil ?_
    refine d_q rfl rfl rfl rfl rfl ?_
    refine v_move rfl ?_
    refine v_nil ?_
    refine d_off rfl rfl ?_
    refine d_off rfl rfl ?_
    refine d_off rfl rfl ?_
    refine d_off rfl rfl ?_
    refine d_off rfl rfl ?_
    refine d_off rfl rfl ?_
    refine d_off rfl rfl ?_
    refine d_off rfl rfl ?_
    refine d_off rfl rfl ?_
    refine d_off rfl rfl ?_
    refine d_off rfl rfl ?_
    refine d_q rfl rfl rfl rfl rfl ?_
    refine v_pick_t (v := .v (.bool true)) rfl rfl ?_
    refine v_nil ?_
    refine d_q rfl rfl rfl rfl rfl ?_
    refine v_move rfl ?_
    refine v_nil ?_
    refine d_off rfl rfl ?_
    refine d_off rfl rfl ?_
    refine d_off rfl rfl ?_
    refine d_off rfl rfl ?_
    refine d_off rfl rfl ?_
    refine d_off rfl rfl ?_
    refine d_off rfl rfl ?_
    refine d_off rfl rfl ?_
    refine d_off rfl rfl ?_
    refine d_off rfl rfl ?_
    refine d_off rfl rfl ?_
    refine d_q rfl rfl rfl rfl rfl ?_
    refine v_pick_t (v := .v (.bool true)) rfl rfl ?_
    refine v_nil ?_
    refine d_q rfl rfl rfl rfl rfl ?_
    refine v_move rfl ?_
    refine v_nil ?_
    refine d_off rfl rfl ?_
    refine d_off rfl rfl ?_
    refine d_off rfl rfl ?_
    refine d_off rfl rfl ?_
    refine d_off rfl rfl ?_
    refine d_off rfl rfl ?_
    refine d_off rfl rfl ?_
    refine d_off rfl rfl ?_
    refine d_off rfl rfl ?_
    refine d_q rfl rfl rfl rfl rfl ?_
    refine v_pick_t (v := .v (.bool true)) rfl rfl ?_
    refine v_nil ?_
    refine d_q rfl rfl rfl rfl rfl ?_
    refine v_move rfl ?_
    refine v_nil ?_
    refine d_off rfl rfl ?_
    refine d_off rfl rfl ?_
    refine d_off rfl rfl ?_
    refine d_off rfl rfl ?_
    refine d_off rfl rfl ?_
    refine d_off rfl rfl ?_
    refine d_off rfl rfl ?_
    refine d_off rfl rfl ?_
    refine d_off rfl rfl ?_
    refine d_off rfl rfl ?_
    refine d_q rfl rfl rfl rfl rfl ?_
    refine v_pick_t (v := .v (.bool true)) rfl rfl ?_
    refine v_nil ?_
    refine d_q rfl rfl rfl rfl rfl ?_
    refine v_move rfl ?_
    refine v_nil ?_
    refine d_off rfl rfl ?_
    refine d_off rfl rfl ?_
    refine d_off rfl rfl ?_
    refine d_off rfl rfl ?_
    refine d_off rfl rfl ?_
    refine d_off rfl rfl ?_
    refine d_off rfl rfl ?_
    refine d_off rfl rfl ?_
    refine d_off rfl rfl ?_
    refine d_off rfl rfl ?_
    refine d_q rfl rfl rfl rfl rfl ?_
    refine v_pick_t (v := .v (.bool true)) rfl rfl ?_
    refine v_nil ?_
    refine d_nil ?_
    refine q_n ?_
    refine w_t rfl ?_
    refine w_seq ?_
    refine w_reg rfl ?_
    refine v_assign (c := .v (.bool false)) rfl ?_
    refine v_nil ?_
    refine q_n ?_
    refine w_ret (q_r ?_)
    refine r_r rfl ?_
    exact a_b (by simp only [Bool.false_eq_true, false_iff]; rintro rfl; exact hn rfl)
  have hn := h1
  refine v_nil ?_
  refine d_q rfl rfl rfl rfl rfl ?_
  refine v_move rfl ?_
  refine v_nil ?_
  refine d_q rfl rfl rfl rfl rfl ?_
  refine v_move rfl ?_
  refine v_nil ?_
  refine d_q rfl rfl rfl rfl rfl ?_
  refine v_nil_vw rfl ?_
  refine v_nil ?_
  refine d_q rfl rfl rfl rfl rfl ?_
  refine v_fa_vw (off' := 1) lay35 rfl rfl rfl ?_
  refine v_nil ?_
  refine d_q rfl rfl rfl rfl rfl ?_
  refine v_load_vw (.c (_)) lay23 rfl rfl rfl ?_
  refine v_nil ?_
  refine d_q rfl rfl rfl rfl rfl ?_
  refine v_len_sl lay23 rfl ?_
  refine v_nil ?_
  refine d_q rfl rfl rfl rfl rfl ?_
  refine v_move rfl ?_
  refine v_nil ?_
  refine d_q rfl rfl rfl rfl rfl ?_
  refine v_nil_vw rfl ?_
  refine v_nil ?_
  refine d_q rfl rfl rfl rfl rfl ?_
  refine v_fa_vw (off' := 1) lay35 rfl rfl rfl ?_
  refine v_nil ?_
  refine d_q rfl rfl rfl rfl rfl ?_
  refine v_load_vw (.c (_)) lay23 rfl rfl rfl ?_
  refine v_nil ?_
  refine d_q rfl rfl rfl rfl rfl ?_
  refine v_len_sl lay23 rfl ?_
  refine v_nil ?_
  refine d_q rfl rfl rfl rfl rfl ?_
  refine v_neq lay3 rfl rfl (fun h2 => ?_) (fun h2 => ?_)
  · have hn := h2
    refine v_nil ?_
    refine d_q rfl rfl rfl rfl rfl ?_
    refine v_pick_f rfl rfl ?_
    refine v_nil ?_
    refine d_q rfl rfl rfl rfl rfl ?_
    refine v_move rfl ?_
    refine v_nil ?_
    refine d_off rfl rfl ?_
    refine d_off rfl rfl ?_
    refine d_off rfl rfl ?_
    refine d_off rfl rfl ?_
    refine d_off rfl rfl ?_
    refine d_off rfl rfl ?_
    refine d_off rfl rfl ?_
    refine d_off rfl rfl ?_
    refine d_off rfl rfl ?_
    refine d_off rfl rfl ?_
    refine d_off rfl rfl ?_
    refine d_q rfl rfl rfl rfl rfl ?_
    refine v_pick_t (v := .v (.bool true)) rfl rfl ?_
    refine v_nil ?_
    refine d_q rfl rfl rfl rfl rfl ?_
    refine v_move rfl ?_
    refine v_nil ?_
    refine d_off rfl rfl ?_
    refine d_off rfl rfl ?_
    refine d_off rfl rfl ?_
    refine d_off rfl rfl ?_
    refine d_off rfl rfl ?_
    refine d_off rfl rfl ?_
    refine d_off rfl rfl ?_
    refine d_off rfl rfl ?_
    refine d_off rfl rfl ?_
    refine d_off rfl rfl ?_
    refine d_off rfl rfl ?_
    refine d_q rfl rfl rfl rfl rfl ?_
    refine v_pick_t (v := .v (.bool true)) rfl rfl ?_
    refine v_nil ?_
    refine d_q rfl rfl rfl rfl rfl ?_
    refine v_move rfl ?_
    refine v_nil ?_
    refine d_off rfl rfl ?_
    refine d_off rfl rfl ?_
    refine d_off rfl rfl ?_
    refine d_off rfl rfl ?_
    refine d_off rfl rfl ?_
    refine d_off rfl rfl ?_
    refine d_off rfl rfl ?_
    refine d_off rfl rfl ?_
    refine d_off rfl rfl ?_
    refine d_q rfl rfl rfl rfl rfl ?_
    refine v_pick_t (v := .v (.bool true)) rfl rfl ?_
    refine v_nil ?_
    refine d_q rfl rfl rfl rfl rfl ?_
    refine v_move rfl ?_
    refine v_nil ?_
    refine d_off rfl rfl ?_
    refine d_off rfl rfl ?_
    refine d_off rfl rfl ?_
    refine d_off rfl rfl ?_
    refine d_off rfl rfl ?_
    refine d_off rfl rfl ?_
    refine d_off rfl rfl ?_
    refine d_off rfl rfl ?_
    refine d_off rfl rfl ?_
    refine d_off rfl rfl ?_
    refine d_q rfl rfl rfl rfl rfl ?_
    refine v_pick_t (v := .v (.bool true)) rfl rfl ?_
    refine v_nil ?_
    refine d_q rfl rfl rfl rfl rfl ?_
    refine v_move rfl ?_
    refine v_nil ?_
    refine d_off rfl rfl ?_
    refine d_off rfl rfl ?_
    refine d_off rfl rfl ?_
    refine d_off rfl rfl ?_
    refine d_off rfl rfl ?_
    refine d_off rfl rfl ?_
    refine d_off rfl rfl ?_
    refine d_off rfl rfl ?_
    refine d_off rfl rfl ?_
    refine d_off rfl rfl ?_
    refine d_q rfl rfl rfl rfl rfl ?_
    refine v_pick_t (v := .v (.bool true)) rfl rfl ?_
    refine v_nil ?_
    refine d_nil ?_
    refine q_n ?_
    refine w_t rfl ?_
    refine w_seq ?_
    refine w_reg rfl ?_
    refine v_assign (c := .v (.bool false)) rfl ?_
    refine v_nil ?_
    refine q_n ?_
    refine w_ret (q_r ?_)
    refine r_r rfl ?_
    exact a_b (by simp only [Bool.false_eq_true, false_iff]; rintro rfl; exact hn rfl)
  have hn := h2
  refine v_nil ?_
  refine d_q rfl rfl rfl rfl rfl ?_
  refine v_pick_f rfl rfl ?_
  refine v_nil ?_
  refine d_q rfl rfl rfl rfl rfl ?_
  refine v_move rfl ?_
  refine v_nil ?_
  refine d_q rfl rfl rfl rfl rfl ?_
  refine v_move rfl ?_
  refine v_nil ?_
  refine d_q rfl rfl rfl rfl rfl ?_
  refine v_nil_vw rfl ?_
  refine v_nil ?_
  refine d_q rfl rfl rfl rfl rfl ?_
  refine v_fa_vw (off' := 2) lay35 rfl rfl rfl ?_
  refine v_nil ?_
  refine d_q rfl rfl rfl rfl rfl ?_
  refine v_load_vw (.c (_)) lay32 rfl rfl rfl ?_
  refine v_nil ?_
  refine d_q rfl rfl rfl rfl rfl ?_
  refine v_len_sl lay32 rfl ?_
  refine v_nil ?_
  refine d_q rfl rfl rfl rfl rfl ?_
  refine v_move rfl ?_
  refine v_nil ?_
  refine d_q rfl rfl rfl rfl rfl ?_
  refine v_nil_vw rfl ?_
  refine v_nil ?_
  refine d_q rfl rfl rfl rfl rfl ?_
  refine v_fa_vw (off' := 2) lay35 rfl rfl rfl ?_
  refine v_nil ?_
  refine d_q rfl rfl rfl rfl rfl ?_
  refine v_load_vw (.c (_)) lay32 rfl rfl rfl ?_
  refine v_nil ?_
  refine d_q rfl rfl rfl rfl rfl ?_
  refine v_len_sl lay32 rfl ?_
  refine v_nil ?_
  refine d_q rfl rfl rfl rfl rfl ?_
  refine v_neq lay3 rfl rfl (fun h3 => ?_) (fun h3 => ?_)
  · have hn := h3
    refine v_nil ?_
    refine d_q rfl rfl rfl rfl rfl ?_
    refine v_pick_f rfl rfl ?_
    refine v_nil ?_
    refine d_q rfl rfl rfl rfl rfl ?_
    refine v_move rfl ?_
    refine v_nil ?_
    refine d_off rfl rfl ?_
    refine d_off rfl rfl ?_
    refine d_off rfl rfl ?_
    refine d_off rfl rfl ?_
    refine d_off rfl rfl ?_
    refine d_off rfl rfl ?_
    refine d_off rfl rfl ?_
    refine d_off rfl rfl ?_
    refine d_off rfl rfl ?_
    refine d_off rfl rfl ?_
    refine d_off rfl rfl ?_
    refine d_q rfl rfl rfl rfl rfl ?_
    refine v_pick_t (v := .v (.bool true)) rfl rfl ?_
    refine v_nil ?_
    refine d_q rfl rfl rfl rfl rfl ?_
    refine v_move rfl ?_
    refine v_nil ?_
    refine d_off rfl rfl ?_
    refine d_off rfl rfl ?_
    refine d_off rfl rfl ?_
    refine d_off rfl rfl ?_
    refine d_off rfl rfl ?_
    refine d_off rfl rfl ?_
    refine d_off rfl rfl ?_
    refine d_off rfl rfl ?_
    refine d_off rfl rfl ?_
    refine d_q rfl rfl rfl rfl rfl ?_
    refine v_pick_t (v := .v (.bool true)) rfl rfl ?_
    refine v_nil ?_
    refine d_q rfl rfl rfl rfl rfl ?_
    refine v_move rfl ?_
    refine v_nil ?_
    refine d_off rfl rfl ?_
    refine d_off rfl rfl ?_
    refine d_off rfl rfl ?_
    refine d_off rfl rfl ?_
    refine d_off rfl rfl ?_
    refine d_off rfl rfl ?_
    refine d_off rfl rfl ?_
    refine d_off rfl rfl ?_
    refine d_off rfl rfl ?_
    refine d_off rfl rfl ?_
    refine d_q rfl rfl rfl rfl rfl ?_
    refine v_pick_t (v := .v (.bool true)) rfl rfl ?_
    refine v_nil ?_
    refine d_q rfl rfl rfl rfl rfl ?_
    refine v_move rfl ?_
    refine v_nil ?_
    refine d_off rfl rfl ?_
    refine d_off rfl rfl ?_
    refine d_off rfl rfl ?_
    refine d_off rfl rfl ?_
    refine d_off rfl rfl ?_
    refine d_off rfl rfl ?_
    refine d_off rfl rfl ?_
    refine d_off rfl rfl ?_
    refine d_off rfl rfl ?_
    refine d_off rfl rfl ?_
    refine d_q rfl rfl rfl rfl rfl ?_
    refine v_pick_t (v := .v (.bool true)) rfl rfl ?_
    refine v_nil ?_
    refine d_nil ?_
    refine q_n ?_
    refine w_t rfl ?_
    refine w_seq ?_
    refine w_reg rfl ?_
    refine v_assign (c := .v (.bool false)) rfl ?_
    refine v_nil ?_
    refine q_n ?_
    refine w_ret (q_r ?_)
    refine r_r rfl ?_
    exact a_b (by simp only [Bool.false_eq_true, false_iff]; rintro rfl; exact hn rfl)
  have hn := h3
  refine v_nil ?_
  refine d_q rfl rfl rfl rfl rfl ?_
  refine v_pick_f rfl rfl ?_
  refine v_nil ?_
  refine d_q rfl rfl rfl rfl rfl ?_
  refine v_move rfl ?_
  refine v_nil ?_
  refine d_q rfl rfl rfl rfl rfl ?_
  refine v_move rfl ?_
  refine v_nil ?_
  refine d_q rfl rfl rfl rfl rfl ?_
  refine v_nil_vw rfl ?_
  refine v_nil ?_
  refine d_q rfl rfl rfl rfl rfl ?_
  refine v_fa_vw (off' := 3) lay35 rfl rfl rfl ?_
  refine v_nil ?_
  refine d_q rfl rfl rfl rfl rfl ?_
  refine v_load_vw (.c (_)) lay33 rfl rfl rfl ?_
  refine v_nil ?_
  refine d_q rfl rfl rfl rfl rfl ?_
  refine v_len_sl lay33 rfl ?_
  refine v_nil ?_
  refine d_q rfl rfl rfl rfl rfl ?_
  refine v_move rfl ?_
  refine v_nil ?_
  refine d_q rfl rfl rfl rfl rfl ?_
  refine v_nil_vw rfl ?_
  refine v_nil ?_
  refine d_q rfl rfl rfl rfl rfl ?_
  refine v_fa_vw (off' := 3) lay35 rfl rfl rfl ?_
  refine v_nil ?_
  refine d_q rfl rfl rfl rfl rfl ?_
  refine v_load_vw (.c (_)) lay33 rfl rfl rfl ?_
  refine v_nil ?_
  refine d_q rfl rfl rfl rfl rfl ?_
  refine v_len_sl lay33 rfl ?_
  refine v_nil ?_
  refine d_q rfl rfl rfl rfl rfl ?_
  refine v_neq lay3 rfl rfl (fun h4 => ?_) (fun h4 => ?_)
  · have hn := h4
    refine v_nil ?_
    refine d_q rfl rfl rfl rfl rfl ?_
    refine v_pick_f rfl rfl ?_
    refine v_nil ?_
    refine d_q rfl rfl rfl rfl rfl ?_
    refine v_move rfl ?_
    refine v_nil ?_
    refine d_off rfl rfl ?_
    refine d_off rfl rfl ?_
    refine d_off rfl rfl ?_
    refine d_off rfl rfl ?_
    refine d_off rfl rfl ?_
    refine d_off rfl rfl ?_
    refine d_off rfl rfl ?_
    refine d_off rfl rfl ?_
    refine d_off rfl rfl ?_
    refine d_q rfl rfl rfl rfl rfl ?_
    refine v_pick_t (v := .v (.bool true)) rfl rfl ?_
    refine v_nil ?_
    refine d_q rfl rfl rfl rfl rfl ?_
    refine v_move rfl ?_
    refine v_nil ?_
    refine d_off rfl rfl ?_
    refine d_off rfl rfl ?_
    refine d_off rfl rfl ?_
    refine d_off rfl rfl ?_
    refine d_off rfl rfl ?_
    refine d_off rfl rfl ?_
    refine d_off rfl rfl ?_
    refine d_off rfl rfl ?_
    refine d_off rfl rfl ?_
    refine d_off rfl rfl ?_
    refine d_q rfl rfl rfl rfl rfl ?_
    refine v_pick_t (v := .v (.bool true)) rfl rfl ?_
    refine v_nil ?_
    refine d_q rfl rfl rfl rfl rfl ?_
    refine v_move rfl ?_
    refine v_nil ?_
    refine d_off rfl rfl ?_
    refine d_off rfl rfl ?_
    refine d_off rfl rfl ?_
    refine d_off rfl rfl ?_
    refine d_off rfl rfl ?_
    refine d_off rfl rfl ?_
    refine d_off rfl rfl ?_
    refine d_off rfl rfl ?_
    refine d_off rfl rfl ?_
    refine d_off rfl rfl ?_
    refine d_q rfl rfl rfl rfl rfl ?_
    refine v_pick_t (v := .v (.bool true)) rfl rfl ?_
    refine v_nil ?_
    refine d_nil ?_
    refine q_n ?_
    refine w_t rfl ?_
    refine w_seq ?_
    refine w_reg rfl ?_
    refine v_assign (c := .v (.bool false)) rfl ?_
    refine v_nil ?_
    refine q_n ?_
    refine w_ret (q_r ?_)
    refine r_r rfl ?_
    exact a_b (by simp only [Bool.false_eq_true, false_iff]; rintro rfl; exact hn rfl)
  have hn := h4
  refine v_nil ?_
  refine d_q rfl rfl rfl rfl rfl ?_
  refine v_pick_f rfl rfl ?_
  refine v_nil ?_
  refine d_q rfl rfl rfl rfl rfl ?_
  refine v_move rfl ?_
  refine v_nil ?_
  refine d_q rfl rfl rfl rfl rfl ?_
  refine v_move rfl ?_
  refine v_nil ?_
  refine d_q rfl rfl rfl rfl rfl ?_
  refine v_nil_vw rfl ?_
  refine v_nil ?_
  refine d_q rfl rfl rfl rfl rfl ?_
  refine v_fa_vw (off' := 4) lay35 rfl rfl rfl ?_
  refine v_nil ?_
  refine d_q rfl rfl rfl rfl rfl ?_
  refine v_load_vw (.c (.v _)) lay2 rfl rfl rfl ?_
  refine v_nil ?_
  refine d_q rfl rfl rfl rfl rfl ?_
  refine v_move rfl ?_
  refine v_nil ?_
  refine d_q rfl rfl rfl rfl rfl ?_
  refine v_nil_vw rfl ?_
  refine v_nil ?_
  refine d_q rfl rfl rfl rfl rfl ?_
  refine v_fa_vw (off' := 4) lay35 rfl rfl rfl ?_
  refine v_nil ?_
  refine d_q rfl rfl rfl rfl rfl ?_
  refine v_load_vw (.c (.v _)) lay2 rfl rfl rfl ?_
  refine v_nil ?_
  refine d_q rfl rfl rfl rfl rfl ?_
  refine v_neq lay2 rfl rfl (fun h5 => ?_) (fun h5 => ?_)
  · have hn := h5
    refine v_nil ?_
    refine d_q rfl rfl rfl rfl rfl ?_
    refine v_pick_f rfl rfl ?_
    refine v_nil ?_
    refine d_q rfl rfl rfl rfl rfl ?_
    refine v_move rfl ?_
    refine v_nil ?_
    refine d_off rfl rfl ?_
    refine d_off rfl rfl ?_
    refine d_off rfl rfl ?_
    refine d_off rfl rfl ?_
    refine d_off rfl rfl ?_
    refine d_off rfl rfl ?_
    refine d_off rfl rfl ?_
    refine d_off rfl rfl ?_
    refine d_off rfl rfl ?_
    refine d_off rfl rfl ?_
    refine d_q rfl rfl rfl rfl rfl ?_
    refine v_pick_t (v := .v (.bool true)) rfl rfl ?_
    refine v_nil ?_
    refine d_q rfl rfl rfl rfl rfl ?_
    refine v_move rfl ?_
    refine v_nil ?_
    refine d_off rfl rfl ?_
    refine d_off rfl rfl ?_
    refine d_off rfl rfl ?_
    refine d_off rfl rfl ?_
    refine d_off rfl rfl ?_
    refine d_off rfl rfl ?_
    refine d_off rfl rfl ?_
    refine d_off rfl rfl ?_
    refine d_off rfl rfl ?_
    refine d_off rfl rfl ?_
    refine d_q rfl rfl rfl rfl rfl ?_
    refine v_pick_t (v := .v (.bool true)) rfl rfl ?_
    refine v_nil ?_
    refine d_nil ?_
    refine q_n ?_
    refine w_t rfl ?_
    refine w_seq ?_
    refine w_reg rfl ?_
    refine v_assign (c := .v (.bool false)) rfl ?_
    refine v_nil ?_
    refine q_n ?_
    refine w_ret (q_r ?_)
    refine r_r rfl ?_
    exact a_b (by simp only [Bool.false_eq_true, false_iff]; rintro rfl; exact hn rfl)
  have hn := h5
  refine v_nil ?_
  refine d_q rfl rfl rfl rfl rfl ?_
  refine v_pick_f rfl rfl ?_
  refine v_nil ?_
  refine d_q rfl rfl rfl rfl rfl ?_
  refine v_move rfl ?_
  refine v_nil ?_
  refine d_q rfl rfl rfl rfl rfl ?_
  refine v_move rfl ?_
  refine v_nil ?_
  refine d_q rfl rfl rfl rfl rfl ?_
  refine v_nil_vw rfl ?_
  refine v_nil ?_
  refine d_q rfl rfl rfl rfl rfl ?_
  refine v_fa_vw (off' := 5) lay35 rfl rfl rfl ?_
  refine v_nil ?_
  refine d_q rfl rfl rfl rfl rfl ?_
  refine v_load_vw (.c (.f _ _)) lay26 rfl rfl rfl ?_
  refine v_nil ?_
  refine d_q rfl rfl rfl rfl rfl ?_
  refine v_move rfl ?_
  refine v_nil ?_
  refine d_q rfl rfl rfl rfl rfl ?_
  refine v_nil_vw rfl ?_
  refine v_nil ?_
  refine d_q rfl rfl rfl rfl rfl ?_
  refine v_fa_vw (off' := 5) lay35 rfl rfl rfl ?_
  refine v_nil ?_
  refine d_q rfl rfl rfl rfl rfl ?_
  refine v_load_vw (.c (.f _ _)) lay26 rfl rfl rfl ?_
  refine v_nil ?_
  refine d_callb (cLS _ _ hF.2.2.2.1.1 hG.2.2.2.1.1) rfl rfl rfl rfl (.cons vw_f (.cons vw_f .nil)) (fun h6 => ?_) (fun h6 => ?_)
  rotate_left
  · have hn := h6
    refine d_q rfl rfl rfl rfl rfl ?_
    refine v_not true rfl rfl ?_
    refine v_nil ?_
    refine d_q rfl rfl rfl rfl rfl ?_
    refine v_pick_f rfl rfl ?_
    refine v_nil ?_
    refine d_q rfl rfl rfl rfl rfl ?_
    refine v_move rfl ?_
    refine v_nil ?_
    refine d_off rfl rfl ?_
    refine d_off rfl rfl ?_
    refine d_off rfl rfl ?_
    refine d_off rfl rfl ?_
    refine d_off rfl rfl ?_
    refine d_off rfl rfl ?_
    refine d_off rfl rfl ?_
    refine d_off rfl rfl ?_
    refine d_off rfl rfl ?_
    refine d_off rfl rfl ?_
    refine d_q rfl rfl rfl rfl rfl ?_
    refine v_pick_t (v := .v (.bool true)) rfl rfl ?_
    refine v_nil ?_
    refine d_nil ?_
    refine q_n ?_
    refine w_t rfl ?_
    refine w_seq ?_
    refine w_reg rfl ?_
    refine v_assign (c := .v (.bool false)) rfl ?_
    refine v_nil ?_
    refine q_n ?_
    refine w_ret (q_r ?_)
    refine r_r rfl ?_
    exact a_b (by simp only [Bool.false_eq_true, false_iff]; rintro rfl; exact hn rfl)
  have hn := h6
  refine d_q rfl rfl rfl rfl rfl ?_
  refine v_not false rfl rfl ?_
  refine v_nil ?_
  refine d_q rfl rfl rfl rfl rfl ?_
  refine v_pick_f rfl rfl ?_
  refine v_nil ?_
  refine d_q rfl rfl rfl rfl rfl ?_
  refine v_move rfl ?_
  refine v_nil ?_
  refine d_q rfl rfl rfl rfl rfl ?_
  refine v_move rfl ?_
  refine v_nil ?_
  refine d_q rfl rfl rfl rfl rfl ?_
  refine v_nil_vw rfl ?_
  refine v_nil ?_
  refine d_q rfl rfl rfl rfl rfl ?_
  refine v_fa_vw (off' := 6) lay35 rfl rfl rfl ?_
  refine v_nil ?_
  refine d_q rfl rfl rfl rfl rfl ?_
  refine v_load_vw (.c (.f _ _)) lay26 rfl rfl rfl ?_
  refine v_nil ?_
  refine d_q rfl rfl rfl rfl rfl ?_
  refine v_move rfl ?_
  refine v_nil ?_
  refine d_q rfl rfl rfl rfl rfl ?_
  refine v_nil_vw rfl ?_
  refine v_nil ?_
  refine d_q rfl rfl rfl rfl rfl ?_
  refine v_fa_vw (off' := 6) lay35 rfl rfl rfl ?_
  refine v_nil ?_
  refine d_q rfl rfl rfl rfl rfl ?_
  refine v_load_vw (.c (.f _ _)) lay26 rfl rfl rfl ?_
  refine v_nil ?_
  refine d_callb (cLS _ _ hF.2.2.2.2.1.1 hG.2.2.2.2.1.1) rfl rfl rfl rfl (.cons vw_f (.cons vw_f .nil)) (fun h7 => ?_) (fun h7 => ?_)
  rotate_left
  · have hn := h7
    refine d_q rfl rfl rfl rfl rfl ?_
    refine v_not true rfl rfl ?_
    refine v_nil ?_
    refine d_q rfl rfl rfl rfl rfl ?_
    refine v_pick_f rfl rfl ?_
    refine v_nil ?_
    refine d_nil ?_
    refine q_n ?_
    refine w_t rfl ?_
    refine w_seq ?_
    refine w_reg rfl ?_
    refine v_assign (c := .v (.bool false)) rfl ?_
    refine v_nil ?_
    refine q_n ?_
    refine w_ret (q_r ?_)
    refine r_r rfl ?_
    exact a_b (by simp only [Bool.false_eq_true, false_iff]; rintro rfl; exact hn rfl)
  have hn := h7
  refine d_q rfl rfl rfl rfl rfl ?_
  refine v_not false rfl rfl ?_
  refine v_nil ?_
  refine d_q rfl rfl rfl rfl rfl ?_
  refine v_pick_f rfl rfl ?_
  refine v_nil ?_
  refine d_nil ?_
  refine q_n ?_
  refine w_f rfl ?_
  refine w_skip ?_
  refine q_n ?_
  refine w_seq ?_
  refine w_seq ?_
  refine w_reg rfl ?_
  refine v_assign (c := .v (.int .i64 0)) rfl ?_
  refine v_nil ?_
  refine q_n ?_
  refine w_block ?_
  refine w_loop (fun k sl H => ∃ i : Nat, k = t.1.length - i ∧ i ≤ t.1.length ∧ t.1.take i = u.1.take i ∧ sl = sls [(0, .c (.vw false (twf true t) 0)), (1, .c (.vw false (twf true u) 0)), (5, cI i)] ∧ H = []) ?_ ?_
  · refine ⟨_, _, _, ?_, 0, rfl, Nat.zero_le _, rfl, rfl, rfl⟩
    exact turn0 ⟨tr_vw, tr_vw, tr_v, trivial⟩
  rintro k sl H ⟨i, rfl, hi, hp, rfl, rfl⟩
  refine w_seq ?_
  refine w_seq ?_
  refine w_reg rfl ?_
  refine v_move rfl ?_
  refine v_move rfl ?_
  refine v_nil_vw rfl ?_
  refine v_fa_vw (off' := 0) lay35 rfl rfl rfl ?_
  refine v_load_vw (.c (_)) lay31 rfl rfl rfl ?_
  refine v_len_sl lay31 rfl ?_
  refine v_lss lay3 rfl rfl (fun h8 => ?_) (fun h8 => ?_)
  · have i1 : i < t.1.length := by omega
    have i2 : i < u.1.length := by omega
    refine v_nil ?_
    refine q_n ?_
    refine w_t rfl ?_
    refine w_skip ?_
    refine q_n ?_
    refine w_seq ?_
    refine w_block ?_
    refine w_seq ?_
    refine w_draw [0, 1, 3, 7, 0, 31, 0, 64, 192, 448, 0, 1984, 4095, 8191] [⟨0, 0, []⟩, ⟨1, 0, []⟩, ⟨2, 0, []⟩, ⟨3, 0, []⟩, ⟨4, 0, []⟩, ⟨5, 0, []⟩, ⟨6, 0, []⟩, ⟨7, 0, []⟩, ⟨8, 0, []⟩, ⟨9, 0, []⟩, ⟨10, 0, []⟩, ⟨11, 0, []⟩, ⟨12, 0, []⟩, ⟨13, 0, []⟩] rfl rfl ?_
    refine d_q rfl rfl rfl rfl rfl ?_
    refine v_move rfl ?_
    refine v_nil ?_
    refine d_q rfl rfl rfl rfl rfl ?_
    refine v_nil_vw rfl ?_
    refine v_nil ?_
    refine d_q rfl rfl rfl rfl rfl ?_
    refine v_fa_vw (off' := 0) lay35 rfl rfl rfl ?_
    refine v_nil ?_
    refine d_q rfl rfl rfl rfl rfl ?_
    refine v_load_vw (.c (_)) lay31 rfl rfl rfl ?_
    refine v_nil ?_
    refine d_q rfl rfl rfl rfl rfl ?_
    refine v_move rfl ?_
    refine v_nil ?_
    refine d_q rfl rfl rfl rfl rfl ?_
    refine v_idx_e (k := 19) (i) rdc_len lay31 lay56 rfl rfl rfl (rfl) rfl (rfl) (i1) ?_
    refine v_nil ?_
    refine d_q rfl rfl rfl rfl rfl ?_
    refine v_move rfl ?_
    refine v_nil ?_
    refine d_q rfl rfl rfl rfl rfl ?_
    refine v_nil_vw rfl ?_
    refine v_nil ?_
    refine d_q rfl rfl rfl rfl rfl ?_
    refine v_fa_vw (off' := 0) lay35 rfl rfl rfl ?_
    refine v_nil ?_
    refine d_q rfl rfl rfl rfl rfl ?_
    refine v_load_vw (.c (_)) lay31 rfl rfl rfl ?_
    refine v_nil ?_
    refine d_q rfl rfl rfl rfl rfl ?_
    refine v_move rfl ?_
    refine v_nil ?_
    refine d_q rfl rfl rfl rfl rfl ?_
    refine v_idx_e (k := 19) (i) rdc_len lay31 lay56 rfl rfl rfl (rfl) rfl (rfl) (i2) ?_
    refine v_nil ?_
    refine d_callb (cLSRoad _ _ (hF.1 _ (List.getElem_mem i1)) (hG.1 _ (List.getElem_mem i2))) rfl rfl rfl rfl (.cons vw_vw (.cons vw_vw .nil)) (fun h11 => ?_) (fun h11 => ?_)
    · have heq := h11
      refine d_q rfl rfl rfl rfl rfl ?_
      refine v_not false rfl rfl ?_
      refine v_nil ?_
      refine d_nil ?_
      refine q_n ?_
      refine w_f rfl ?_
      refine w_skip ?_
      refine q_bn ?_
      refine q_n ?_
      refine w_reg rfl ?_
      refine v_move rfl ?_
      refine v_add lay3 rfl rfl (i64r (by omega)) ?_
      refine v_assign rfl ?_
      refine v_nil ?_
      refine q_n ?_
      refine ⟨_, _, _, ?_, ⟨i + 1, rfl, by omega, take_step_eq hp i1 i2 heq, rfl, rfl⟩, by omega⟩
      exact turn0 ⟨tr_vw, tr_vw, tr_v, trivial⟩
    have heq := h11
    refine d_q rfl rfl rfl rfl rfl ?_
    refine v_not true rfl rfl ?_
    refine v_nil ?_
    refine d_nil ?_
    refine q_n ?_
    refine w_t rfl ?_
    refine w_seq ?_
    refine w_reg rfl ?_
    refine v_assign (c := .v (.bool false)) rfl ?_
    refine v_nil ?_
    refine q_n ?_
    refine w_ret (q_br (q_r (q_r (q_br (q_r ?_)))))
    refine r_r rfl ?_
    first | exact a_b (by simp only [Bool.false_eq_true, false_iff]; rintro rfl; exact heq rfl) | exact a_b (by simp only [true_iff]; exact tw_ext.2 ⟨e1, e2, e3, e4, by assumption, by assumption, by assumption⟩)
  have e1 : t.1 = u.1 := take_all_eq hp (by omega) (by omega)
  clear hp hi
  refine v_nil ?_
  refine q_n ?_
  refine w_f rfl ?_
  refine w_exit ?_
  refine q_e ?_
  refine q_e ?_
  refine q_hit ?_
  refine q_n ?_
  refine w_seq ?_
  refine w_seq ?_
  refine w_reg rfl ?_
  refine v_assign (c := .v (.int .i64 0)) rfl ?_
  refine v_nil ?_
  refine q_n ?_
  refine w_block ?_
  refine w_loop (fun k sl H => ∃ i : Nat, k = t.2.1.length - i ∧ i ≤ t.2.1.length ∧ t.2.1.take i = u.2.1.take i ∧ sl = sls [(0, .c (.vw false (twf true t) 0)), (1, .c (.vw false (twf true u) 0)), (6, cI i)] ∧ H = []) ?_ ?_
  · refine ⟨_, _, _, ?_, 0, rfl, Nat.zero_le _, rfl, rfl, rfl⟩
    exact turn0 ⟨tr_vw, tr_vw, tr_v, trivial⟩
  rintro k sl H ⟨i, rfl, hi, hp, rfl, rfl⟩
  refine w_seq ?_
  refine w_seq ?_
  refine w_reg rfl ?_
  refine v_move rfl ?_
  refine v_move rfl ?_
  refine v_nil_vw rfl ?_
  refine v_fa_vw (off' := 1) lay35 rfl rfl rfl ?_
  refine v_load_vw (.c (_)) lay23 rfl rfl rfl ?_
  refine v_len_sl lay23 rfl ?_
  refine v_lss lay3 rfl rfl (fun h12 => ?_) (fun h12 => ?_)
  · have i1 : i < t.2.1.length := by omega
    have i2 : i < u.2.1.length := by omega
    refine v_nil ?_
    refine q_n ?_
    refine w_t rfl ?_
    refine w_skip ?_
    refine q_n ?_
    refine w_seq ?_
    refine w_block ?_
    refine w_seq ?_
    refine w_draw [0, 1, 3, 7, 0, 31, 63, 0, 128, 384, 896, 0, 3968, 8064, 16383, 32767] [⟨0, 0, []⟩, ⟨1, 0, []⟩, ⟨2, 0, []⟩, ⟨3, 0, []⟩, ⟨4, 0, []⟩, ⟨5, 0, []⟩, ⟨6, 0, []⟩, ⟨7, 0, []⟩, ⟨8, 0, []⟩, ⟨9, 0, []⟩, ⟨10, 0, []⟩, ⟨11, 0, []⟩, ⟨12, 0, []⟩, ⟨13, 0, []⟩, ⟨14, 0, []⟩, ⟨15, 0, []⟩] rfl rfl ?_
    refine d_q rfl rfl rfl rfl rfl ?_
    refine v_move rfl ?_
    refine v_nil ?_
    refine d_q rfl rfl rfl rfl rfl ?_
    refine v_nil_vw rfl ?_
    refine v_nil ?_
    refine d_q rfl rfl rfl rfl rfl ?_
    refine v_fa_vw (off' := 1) lay35 rfl rfl rfl ?_
    refine v_nil ?_
    refine d_q rfl rfl rfl rfl rfl ?_
    refine v_load_vw (.c (_)) lay23 rfl rfl rfl ?_
    refine v_nil ?_
    refine d_q rfl rfl rfl rfl rfl ?_
    refine v_move rfl ?_
    refine v_nil ?_
    refine d_q rfl rfl rfl rfl rfl ?_
    refine v_idx_e (k := 1) (i) fe_len lay23 lay26 rfl rfl rfl (rfl) rfl (rfl) (i1) ?_
    refine v_nil ?_
    refine d_q rfl rfl rfl rfl rfl ?_
    refine v_load_vw (.c (.f _ _)) lay26 rfl rfl rfl ?_
    refine v_nil ?_
    refine d_q rfl rfl rfl rfl rfl ?_
    refine v_move rfl ?_
    refine v_nil ?_
    refine d_q rfl rfl rfl rfl rfl ?_
    refine v_nil_vw rfl ?_
    refine v_nil ?_
    refine d_q rfl rfl rfl rfl rfl ?_
    refine v_fa_vw (off' := 1) lay35 rfl rfl rfl ?_
    refine v_nil ?_
    refine d_q rfl rfl rfl rfl rfl ?_
    refine v_load_vw (.c (_)) lay23 rfl rfl rfl ?_
    refine v_nil ?_
    refine d_q rfl rfl rfl rfl rfl ?_
    refine v_move rfl ?_
    refine v_nil ?_
    refine d_q rfl rfl rfl rfl rfl ?_
    refine v_idx_e (k := 1) (i) fe_len lay23 lay26 rfl rfl rfl (rfl) rfl (rfl) (i2) ?_
    refine v_nil ?_
    refine d_q rfl rfl rfl rfl rfl ?_
    refine v_load_vw (.c (.f _ _)) lay26 rfl rfl rfl ?_
    refine v_nil ?_
    refine d_callb (cLS _ _ (hF.2.1 _ (List.getElem_mem i1)).1 (hG.2.1 _ (List.getElem_mem i2)).1) rfl rfl rfl rfl (.cons vw_f (.cons vw_f .nil)) (fun h15 => ?_) (fun h15 => ?_)
    · have heq := h15
      refine d_q rfl rfl rfl rfl rfl ?_
      refine v_not false rfl rfl ?_
      refine v_nil ?_
      refine d_nil ?_
      refine q_n ?_
      refine w_f rfl ?_
      refine w_skip ?_
      refine q_bn ?_
      refine q_n ?_
      refine w_reg rfl ?_
      refine v_move rfl ?_
      refine v_add lay3 rfl rfl (i64r (by omega)) ?_
      refine v_assign rfl ?_
      refine v_nil ?_
      refine q_n ?_
      refine ⟨_, _, _, ?_, ⟨i + 1, rfl, by omega, take_step_eq hp i1 i2 heq, rfl, rfl⟩, by omega⟩
      exact turn0 ⟨tr_vw, tr_vw, tr_v, trivial⟩
    have heq := h15
    refine d_q rfl rfl rfl rfl rfl ?_
    refine v_not true rfl rfl ?_
    refine v_nil ?_
    refine d_nil ?_
    refine q_n ?_
    refine w_t rfl ?_
    refine w_seq ?_
    refine w_reg rfl ?_
    refine v_assign (c := .v (.bool false)) rfl ?_
    refine v_nil ?_
    refine q_n ?_
    refine w_ret (q_br (q_r (q_r (q_br (q_r ?_)))))
    refine r_r rfl ?_
    first | exact a_b (by simp only [Bool.false_eq_true, false_iff]; rintro rfl; exact heq rfl) | exact a_b (by simp only [true_iff]; exact tw_ext.2 ⟨e1, e2, e3, e4, by assumption, by assumption, by assumption⟩)
  have e2 : t.2.1 = u.2.1 := take_all_eq hp (by omega) (by omega)
  clear hp hi
  refine v_nil ?_
  refine q_n ?_
  refine w_f rfl ?_
  refine w_exit ?_
  refine q_e ?_
  refine q_e ?_
  refine q_hit ?_
  refine q_n ?_
  refine w_seq ?_
  refine w_seq ?_
  refine w_reg rfl ?_
  refine v_assign (c := .v (.int .i64 0)) rfl ?_
  refine v_nil ?_
  refine q_n ?_
  refine w_block ?_
  refine w_loop (fun k sl H => ∃ i : Nat, k = t.2.2.1.length - i ∧ i ≤ t.2.2.1.length ∧ t.2.2.1.take i = u.2.2.1.take i ∧ sl = sls [(0, .c (.vw false (twf true t) 0)), (1, .c (.vw false (twf true u) 0)), (7, cI i)] ∧ H = []) ?_ ?_
  · refine ⟨_, _, _, ?_, 0, rfl, Nat.zero_le _, rfl, rfl, rfl⟩
    exact turn0 ⟨tr_vw, tr_vw, tr_v, trivial⟩
  rintro k sl H ⟨i, rfl, hi, hp, rfl, rfl⟩
  refine w_seq ?_
  refine w_seq ?_
  refine w_reg rfl ?_
  refine v_move rfl ?_
  refine v_move rfl ?_
  refine v_nil_vw rfl ?_
  refine v_fa_vw (off' := 2) lay35 rfl rfl rfl ?_
  refine v_load_vw (.c (_)) lay32 rfl rfl rfl ?_
  refine v_len_sl lay32 rfl ?_
  refine v_lss lay3 rfl rfl (fun h16 => ?_) (fun h16 => ?_)
  · have i1 : i < t.2.2.1.length := by omega
    have i2 : i < u.2.2.1.length := by omega
    refine v_nil ?_
    refine q_n ?_
    refine w_t rfl ?_
    refine w_skip ?_
    refine q_n ?_
    refine w_seq ?_
    refine w_block ?_
    refine w_seq ?_
    refine w_draw [0, 1, 3, 7, 0, 31, 0, 64, 192, 448, 0, 1984, 4095, 8191] [⟨0, 0, []⟩, ⟨1, 0, []⟩, ⟨2, 0, []⟩, ⟨3, 0, []⟩, ⟨4, 0, []⟩, ⟨5, 0, []⟩, ⟨6, 0, []⟩, ⟨7, 0, []⟩, ⟨8, 0, []⟩, ⟨9, 0, []⟩, ⟨10, 0, []⟩, ⟨11, 0, []⟩, ⟨12, 0, []⟩, ⟨13, 0, []⟩] rfl rfl ?_
    refine d_q rfl rfl rfl rfl rfl ?_
    refine v_move rfl ?_
    refine v_nil ?_
    refine d_q rfl rfl rfl rfl rfl ?_
    refine v_nil_vw rfl ?_
    refine v_nil ?_
    refine d_q rfl rfl rfl rfl rfl ?_
    refine v_fa_vw (off' := 2) lay35 rfl rfl rfl ?_
    refine v_nil ?_
    refine d_q rfl rfl rfl rfl rfl ?_
    refine v_load_vw (.c (_)) lay32 rfl rfl rfl ?_
    refine v_nil ?_
    refine d_q rfl rfl rfl rfl rfl ?_
    refine v_move rfl ?_
    refine v_nil ?_
    refine d_q rfl rfl rfl rfl rfl ?_
    refine v_idx_e (k := 25) (i) joc_len lay32 lay68 rfl rfl rfl (rfl) rfl (rfl) (i1) ?_
    refine v_nil ?_
    refine d_q rfl rfl rfl rfl rfl ?_
    refine v_move rfl ?_
    refine v_nil ?_
    refine d_q rfl rfl rfl rfl rfl ?_
    refine v_nil_vw rfl ?_
    refine v_nil ?_
    refine d_q rfl rfl rfl rfl rfl ?_
    refine v_fa_vw (off' := 2) lay35 rfl rfl rfl ?_
    refine v_nil ?_
    refine d_q rfl rfl rfl rfl rfl ?_
    refine v_load_vw (.c (_)) lay32 rfl rfl rfl ?_
    refine v_nil ?_
    refine d_q rfl rfl rfl rfl rfl ?_
    refine v_move rfl ?_
    refine v_nil ?_
    refine d_q rfl rfl rfl rfl rfl ?_
    refine v_idx_e (k := 25) (i) joc_len lay32 lay68 rfl rfl rfl (rfl) rfl (rfl) (i2) ?_
    refine v_nil ?_
    refine d_callb (cL6SJ _ _ (hF.2.2.1 _ (List.getElem_mem i1)) (hG.2.2.1 _ (List.getElem_mem i2)) (by have := b4 _ (List.getElem_mem i1); omega) (by have := b4 _ (List.getElem_mem i1); omega)) rfl rfl rfl rfl (.cons vw_vw (.cons vw_vw .nil)) (fun h19 => ?_) (fun h19 => ?_)
    · have heq := h19
      refine d_q rfl rfl rfl rfl rfl ?_
      refine v_not false rfl rfl ?_
      refine v_nil ?_
      refine d_nil ?_
      refine q_n ?_
      refine w_f rfl ?_
      refine w_skip ?_
      refine q_bn ?_
      refine q_n ?_
      refine w_reg rfl ?_
      refine v_move rfl ?_
      refine v_add lay3 rfl rfl (i64r (by omega)) ?_
      refine v_assign rfl ?_
      refine v_nil ?_
      refine q_n ?_
      refine ⟨_, _, _, ?_, ⟨i + 1, rfl, by omega, take_step_eq hp i1 i2 heq, rfl, rfl⟩, by omega⟩
      exact turn0 ⟨tr_vw, tr_vw, tr_v, trivial⟩
    have heq := h19
    refine d_q rfl rfl rfl rfl rfl ?_
    refine v_not true rfl rfl ?_
    refine v_nil ?_
    refine d_nil ?_
    refine q_n ?_
    refine w_t rfl ?_
    refine w_seq ?_
    refine w_reg rfl ?_
    refine v_assign (c := .v (.bool false)) rfl ?_
    refine v_nil ?_
    refine q_n ?_
    refine w_ret (q_br (q_r (q_r (q_br (q_r ?_)))))
    refine r_r rfl ?_
    first | exact a_b (by simp only [Bool.false_eq_true, false_iff]; rintro rfl; exact heq rfl) | exact a_b (by simp only [true_iff]; exact tw_ext.2 ⟨e1, e2, e3, e4, by assumption, by assumption, by assumption⟩)
  have e3 : t.2.2.1 = u.2.2.1 := take_all_eq hp (by omega) (by omega)
  clear hp hi
  refine v_nil ?_
  refine q_n ?_
  refine w_f rfl ?_
  refine w_exit ?_
  refine q_e ?_
  refine q_e ?_
  refine q_hit ?_
  refine q_n ?_
  refine w_seq ?_
  refine w_seq ?_
  refine w_reg rfl ?_
  refine v_assign (c := .v (.int .i64 0)) rfl ?_
  refine v_nil ?_
  refine q_n ?_
  refine w_block ?_
  refine w_loop (fun k sl H => ∃ i : Nat, k = t.2.2.2.1.length - i ∧ i ≤ t.2.2.2.1.length ∧ t.2.2.2.1.take i = u.2.2.2.1.take i ∧ sl = sls [(0, .c (.vw false (twf true t) 0)), (1, .c (.vw false (twf true u) 0)), (8, cI i)] ∧ H = []) ?_ ?_
  · refine ⟨_, _, _, ?_, 0, rfl, Nat.zero_le _, rfl, rfl, rfl⟩
    exact turn0 ⟨tr_vw, tr_vw, tr_v, trivial⟩
  rintro k sl H ⟨i, rfl, hi, hp, rfl, rfl⟩
  refine w_seq ?_
  refine w_seq ?_
  refine w_reg rfl ?_
  refine v_move rfl ?_
  refine v_move rfl ?_
  refine v_nil_vw rfl ?_
  refine v_fa_vw (off' := 3) lay35 rfl rfl rfl ?_
  refine v_load_vw (.c (_)) lay33 rfl rfl rfl ?_
  refine v_len_sl lay33 rfl ?_
  refine v_lss lay3 rfl rfl (fun h20 => ?_) (fun h20 => ?_)
  rotate_left
  · have e4 : t.2.2.2.1 = u.2.2.2.1 := take_all_eq hp (by omega) (by omega)
    clear hp hi
    refine v_nil ?_
    refine q_n ?_
    refine w_f rfl ?_
    refine w_exit ?_
    refine q_e ?_
    refine q_e ?_
    refine q_hit ?_
    refine q_n ?_
    refine w_seq ?_
    refine w_reg rfl ?_
    refine v_assign (c := .v (.bool true)) rfl ?_
    refine v_nil ?_
    refine q_n ?_
    refine w_ret ?_
    refine r_r rfl ?_
    exact a_b (by rw [tw_ext]; simp_all)
  have i1 : i < t.2.2.2.1.length := by omega
  have i2 : i < u.2.2.2.1.length := by omega
  refine v_nil ?_
  refine q_n ?_
  refine w_t rfl ?_
  refine w_skip ?_
  refine q_n ?_
  refine w_seq ?_
  refine w_block ?_
  refine w_seq ?_
  refine w_draw [0, 1, 3, 7, 0, 31, 0, 64, 192, 448, 0, 1984, 4095, 8191] [⟨0, 0, []⟩, ⟨1, 0, []⟩, ⟨2, 0, []⟩, ⟨3, 0, []⟩, ⟨4, 0, []⟩, ⟨5, 0, []⟩, ⟨6, 0, []⟩, ⟨7, 0, []⟩, ⟨8, 0, []⟩, ⟨9, 0, []⟩, ⟨10, 0, []⟩, ⟨11, 0, []⟩, ⟨12, 0, []⟩, ⟨13, 0, []⟩] rfl rfl ?_
  refine d_q rfl rfl rfl rfl rfl ?_
  refine v_move rfl ?_
  refine v_nil ?_
  refine d_q rfl rfl rfl rfl rfl ?_
  refine v_nil_vw rfl ?_
  refine v_nil ?_
  refine d_q rfl rfl rfl rfl rfl ?_
  refine v_fa_vw (off' := 3) lay35 rfl rfl rfl ?_
  refine v_nil ?_
  refine d_q rfl rfl rfl rfl rfl ?_
  refine v_load_vw (.c (_)) lay33 rfl rfl rfl ?_
  refine v_nil ?_
  refine d_q rfl rfl rfl rfl rfl ?_
  refine v_move rfl ?_
  refine v_nil ?_
  refine d_q rfl rfl rfl rfl rfl ?_
  refine v_idx_e (k := 3) (i) plc_len lay33 lay73 rfl rfl rfl (rfl) rfl (rfl) (i1) ?_
  refine v_nil ?_
  refine d_q rfl rfl rfl rfl rfl ?_
  refine v_move rfl ?_
  refine v_nil ?_
  refine d_q rfl rfl rfl rfl rfl ?_
  refine v_nil_vw rfl ?_
  refine v_nil ?_
  refine d_q rfl rfl rfl rfl rfl ?_
  refine v_fa_vw (off' := 3) lay35 rfl rfl rfl ?_
  refine v_nil ?_
  refine d_q rfl rfl rfl rfl rfl ?_
  refine v_load_vw (.c (_)) lay33 rfl rfl rfl ?_
  refine v_nil ?_
  refine d_q rfl rfl rfl rfl rfl ?_
  refine v_move rfl ?_
  refine v_nil ?_
  refine d_q rfl rfl rfl rfl rfl ?_
  refine v_idx_e (k := 3) (i) plc_len lay33 lay73 rfl rfl rfl (rfl) rfl (rfl) (i2) ?_
  refine v_nil ?_
  refine d_callb (cL4Same _ _ (hF.2.2.2.2.2 _ (List.getElem_mem i1)) (hG.2.2.2.2.2 _ (List.getElem_mem i2)) (by have := b6 _ (List.getElem_mem i1); omega) (by have := c6 _ (List.getElem_mem i2); omega)) rfl rfl rfl rfl (.cons vw_vw (.cons vw_vw .nil)) (fun h23 => ?_) (fun h23 => ?_)
  · have heq := h23
    refine d_q rfl rfl rfl rfl rfl ?_
    refine v_not false rfl rfl ?_
    refine v_nil ?_
    refine d_nil ?_
    refine q_n ?_
    refine w_f rfl ?_
    refine w_skip ?_
    refine q_bn ?_
    refine q_n ?_
    refine w_reg rfl ?_
    refine v_move rfl ?_
    refine v_add lay3 rfl rfl (i64r (by omega)) ?_
    refine v_assign rfl ?_
    refine v_nil ?_
    refine q_n ?_
    refine ⟨_, _, _, ?_, ⟨i + 1, rfl, by omega, take_step_eq hp i1 i2 heq, rfl, rfl⟩, by omega⟩
    exact turn0 ⟨tr_vw, tr_vw, tr_v, trivial⟩
  have heq := h23
  refine d_q rfl rfl rfl rfl rfl ?_
  refine v_not true rfl rfl ?_
  refine v_nil ?_
  refine d_nil ?_
  refine q_n ?_
  refine w_t rfl ?_
  refine w_seq ?_
  refine w_reg rfl ?_
  refine v_assign (c := .v (.bool false)) rfl ?_
  refine v_nil ?_
  refine q_n ?_
  refine w_ret (q_br (q_r (q_r (q_br (q_r ?_)))))
  refine r_r rfl ?_
  first | exact a_b (by simp only [Bool.false_eq_true, false_iff]; rintro rfl; exact heq rfl) | exact a_b (by simp only [true_iff]; exact tw_ext.2 ⟨e1, e2, e3, e4, by assumption, by assumption, by assumption⟩)
theorem cSpecSame (t u : Tw) (hB : tB (2 ^ 20) t) (hC : tB (2 ^ 20) u) (hF : tF t) (hG : tF u) : PureC X 6 [.agg (twf false t), .agg (twf false u)] (cB (decide (t = u))) := by
  refine PureC.of_body (drawD_ok X) (fun _ _ => Go.Proofs.Try.call6 _ _) Go.Proofs.Try.func6 rfl (n := 6) rfl ?_
  refine w_seq ?_
  refine w_reg rfl ?_
  refine v_box (m := 0) (H' := [_]) lay35 rfl rfl rfl ?_
  refine v_box (m := 1) (H' := [_, _]) lay35 rfl rfl rfl ?_
  refine v_assign (c := .v (.bool false)) rfl ?_
  refine v_nil ?_
  refine q_n ?_
  refine w_seq ?_
  refine w_reg rfl ?_
  refine v_callb (cL6Same _ _ (by assumption) (by assumption) (by assumption) (by assumption)) rfl rfl (.cons (vw_pt rfl (.cons (.sl (fun h => by cases h)) (.cons (.sl (fun h => by cases h)) (.cons (.sl (fun h => by cases h)) (.cons (.sl (fun h => by cases h)) (.cons .v (.cons .f (.cons .f .nil)))))))) (.cons (vw_pt rfl (.cons (.sl (fun h => by cases h)) (.cons (.sl (fun h => by cases h)) (.cons (.sl (fun h => by cases h)) (.cons (.sl (fun h => by cases h)) (.cons .v (.cons .f (.cons .f .nil)))))))) .nil)) (fun h1 => ?_) (fun h1 => ?_)
  · refine v_assign rfl ?_
    refine v_nil ?_
    refine q_n ?_
    refine w_ret ?_
    refine r_r rfl ?_
    exact a_b (by simp_all)
  refine v_assign rfl ?_
  refine v_nil ?_
  refine q_n ?_
  refine w_ret ?_
  refine r_r rfl ?_
  exact a_b (by simp_all)
end Go.VL
