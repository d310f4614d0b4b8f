/- Texts of one proof, put together: T2, T3, T7, T8, T9, T10. -/
import Derived.Test.YtejgddephbaenaaGreatM3
namespace Go.VL
open Go.RowKit
set_option maxRecDepth 20000
set_option maxHeartbeats 8000000
/-- A single as data. -/
def Sg (x : Option Nat) : Prop := okF .f32 x ∧ ∀ b, x = some b → b < 2 ^ 32
abbrev Rd := Ca × Option Nat × Option Nat × Option Nat
def rdc (r : Rd) : List C := [.f .f32 (r.1 0), .f .f32 (r.1 1), .f .f32 (r.1 2), .f .f32 (r.1 3), .f .f32 (r.1 4), .f .f32 (r.1 5), .f .f32 (r.1 6), .f .f32 (r.1 7), .f .f32 (r.1 8), .f .f32 (r.1 9), .f .f32 (r.1 10), .f .f32 (r.1 11), .f .f32 (r.1 12), .f .f32 (r.1 13), .f .f32 (r.1 14), .f .f32 (r.1 15), .f .f32 r.2.1, .f .f32 r.2.2.1, .f .f32 r.2.2.2]
theorem rdc_len (r : Rd) : (rdc r).length = 19 := rfl
theorem rdc_sc (r : Rd) : (rdc r).all sc = true := rfl
abbrev rds (o : Bool) (xs : List Rd) : C := .sl o xs.length 19 (flat rdc xs)
def zR : Rd := (fun _ => some 0, some 0, some 0, some 0)
def rW (r : Rd) : Prop := (∀ i (hi : i < 16), Sg (r.1 ⟨i, hi⟩)) ∧ Sg r.2.1 ∧ Sg r.2.2.1 ∧ Sg r.2.2.2
abbrev Jn := Int × Int × Fl × Fo
abbrev jnc (j : Jn) : List C := [.v (.int .i64 j.1), .v (.int .i64 j.2.1), .f .f32 (j.2.2.1 0 0), .f .f32 (j.2.2.1 0 1), .f .f32 (j.2.2.1 0 2), .f .f32 (j.2.2.1 0 3), .f .f32 (j.2.2.1 1 0), .f .f32 (j.2.2.1 1 1), .f .f32 (j.2.2.1 1 2), .f .f32 (j.2.2.1 1 3), .f .f32 (j.2.2.1 2 0), .f .f32 (j.2.2.1 2 1), .f .f32 (j.2.2.1 2 2), .f .f32 (j.2.2.1 2 3), .f .f32 (j.2.2.1 3 0), .f .f32 (j.2.2.1 3 1), .f .f32 (j.2.2.1 3 2), .f .f32 (j.2.2.1 3 3), .f .f32 (j.2.2.2 0), .f .f32 (j.2.2.2 1), .f .f32 (j.2.2.2 2), .f .f32 (j.2.2.2 3)]
def jW (j : Jn) : Prop := (∀ i (hi : i < 4) k (hk : k < 4), Sg (j.2.2.1 ⟨i, hi⟩ ⟨k, hk⟩)) ∧ ∀ i (hi : i < 4), Sg (j.2.2.2 ⟨i, hi⟩)
/-- A joint: its junction, its ins, its outs, its plan. -/
abbrev Jo := Jn × List Int × List Int × Int
abbrev jof (o : Bool) (j : Jo) : List C := [.v (.int .i64 j.1.1), .v (.int .i64 j.1.2.1), .f .f32 (j.1.2.2.1 0 0), .f .f32 (j.1.2.2.1 0 1), .f .f32 (j.1.2.2.1 0 2), .f .f32 (j.1.2.2.1 0 3), .f .f32 (j.1.2.2.1 1 0), .f .f32 (j.1.2.2.1 1 1), .f .f32 (j.1.2.2.1 1 2), .f .f32 (j.1.2.2.1 1 3), .f .f32 (j.1.2.2.1 2 0), .f .f32 (j.1.2.2.1 2 1), .f .f32 (j.1.2.2.1 2 2), .f .f32 (j.1.2.2.1 2 3), .f .f32 (j.1.2.2.1 3 0), .f .f32 (j.1.2.2.1 3 1), .f .f32 (j.1.2.2.1 3 2), .f .f32 (j.1.2.2.1 3 3), .f .f32 (j.1.2.2.2 0), .f .f32 (j.1.2.2.2 1), .f .f32 (j.1.2.2.2 2), .f .f32 (j.1.2.2.2 3),
  .sl o j.2.1.length 1 (flat int j.2.1), .sl o j.2.2.1.length 1 (flat int j.2.2.1), .v (.int .i64 j.2.2.2)]
def joc (j : Jo) : List C := jof true j
theorem joc_len (j : Jo) : (joc j).length = 25 := rfl
theorem joc_sc (j : Jo) : (joc j).all fz = true := rfl
abbrev jos (o : Bool) (js : List Jo) : C := .sl o js.length 25 (flat joc js)
/-- A joint, or the room for one. -/
def ozj : Option Jo → List C
  | none => [.v (.int .i64 0), .v (.int .i64 0), .f .f32 (some 0), .f .f32 (some 0), .f .f32 (some 0), .f .f32 (some 0), .f .f32 (some 0), .f .f32 (some 0), .f .f32 (some 0), .f .f32 (some 0), .f .f32 (some 0), .f .f32 (some 0), .f .f32 (some 0), .f .f32 (some 0), .f .f32 (some 0), .f .f32 (some 0), .f .f32 (some 0), .f .f32 (some 0), .f .f32 (some 0), .f .f32 (some 0), .f .f32 (some 0), .f .f32 (some 0), .v (.slice none 0 0), .v (.slice none 0 0), .v (.int .i64 0)]
  | some j => joc j
theorem ozj_len (o : Option Jo) : (ozj o).length = 25 := by cases o <;> rfl
theorem ozj_sc (o : Option Jo) : (ozj o).all fz = true := by cases o <;> rfl
theorem ozj_set (o : Option Jo) (j : Jo) : setCells (ozj o) 0 (joc j) = joc j := by cases o <;> rfl
theorem ozj_flat (js : List Jo) : flat ozj (js.map some) = flat joc js := by simp [flat, List.flatMap_map, ozj]
abbrev Slo := Ph × Int
def stc (s : Slo) : List C := [.v (.bool (s.1 0)), .v (.bool (s.1 1)), .v (.bool (s.1 2)), .v (.bool (s.1 3)), .v (.bool (s.1 4)), .v (.bool (s.1 5)), .v (.bool (s.1 6)), .v (.bool (s.1 7)), .v (.int .i64 s.2)]
theorem stc_len (s : Slo) : (stc s).length = 9 := rfl
theorem stc_sc (s : Slo) : (stc s).all sc = true := rfl
theorem slo_ext (a b : Slo) : a = b ↔ a.1 = b.1 ∧ a.2 = b.2 := Prod.ext_iff
abbrev sts (o : Bool) (xs : List Slo) : C := .sl o xs.length 9 (flat stc xs)
abbrev pln (o : Bool) (xs : List Slo) (b f : Int) : List C := [sts o xs, .v (.int .i64 b), .v (.int .i64 f)]
def zS : Slo := (fun _ => false, 0)
def zg : Ph := fun _ => false
theorem pl_ld (g : Ph) {i : Nat} (h : i < 8) (h' : i < (pl g).length) : mkV false (sub (bo ((pl g)[i]'h')) 0 1) = some (.c (.v (.bool (g ⟨i, h⟩)))) := by
  rw [pl_get g h]
  rfl
abbrev Pln := List Slo × Int × Int
def plc (p : Pln) : List C := [.sl true p.1.length 9 (flat stc p.1), .v (.int .i64 p.2.1), .v (.int .i64 p.2.2)]
theorem plc_len (p : Pln) : (plc p).length = 3 := rfl
theorem plc_sc (p : Pln) : (plc p).all fz = true := rfl
abbrev plf (p : Pln) : List C := pln false p.1 p.2.1 p.2.2
abbrev pls (o : Bool) (ps : List Pln) : C := .sl o ps.length 3 (flat plc ps)
theorem pln_ext {p q : Pln} : p = q ↔ p.1 = q.1 ∧ p.2.1 = q.2.1 ∧ p.2.2 = q.2.2 := by
  constructor
  · rintro rfl; exact ⟨rfl, rfl, rfl⟩
  · rintro ⟨a, b, c⟩; exact Prod.ext a (Prod.ext b c)
/-- A plan, or the room for one. -/
def ozc : Option Pln → List C
  | none => [.v (.slice none 0 0), .v (.int .i64 0), .v (.int .i64 0)]
  | some p => plc p
theorem ozc_len (o : Option Pln) : (ozc o).length = 3 := by cases o <;> rfl
theorem ozc_sc (o : Option Pln) : (ozc o).all fz = true := by cases o <;> rfl
theorem oz_set (o : Option Pln) {c0 c1 c2 : C} : setCells (ozc o) 0 [c0, c1, c2] = [c0, c1, c2] := by cases o <;> rfl
theorem oz_flat (ps : List Pln) : flat ozc (ps.map some) = flat plc ps := by simp [flat, List.flatMap_map, ozc]
theorem szr_rng {n : Nat} {l : Int} (hl : 0 ≤ l ∧ l ≤ 2 ^ 20) (h : ¬ szr n l < 0) : 0 ≤ szr n l ∧ szr n l ≤ 2 ^ 20 ∧ (n : Int) ≤ l := by
  unfold szr at h ⊢
  split at h
  · omega
  · split <;> omega
/-- What is left behind things of which each has a size. -/
def szG {α : Type} (f : α → Int → Int) : List α → Int → Int
  | [], l => l
  | p :: r, l => if f p l < 0 then -1 else szG f r (f p l)
def szL {α : Type} (f : α → Int → Int) (ps : List α) (l : Int) : Int := if l - ps.length < 0 then -1 else szG f ps (l - ps.length)
theorem szG_at {α : Type} {f : α → Int → Int} {ps : List α} {l : Int} {i : Nat} (h : i < ps.length) : szG f (ps.drop i) l = if f ps[i] l < 0 then -1 else szG f (ps.drop (i + 1)) (f ps[i] l) := by
  rw [List.drop_eq_getElem_cons h, szG]
theorem szG_le {α : Type} {f : α → Int → Int} {W : α → Prop} (hf : ∀ p l, 0 ≤ l ∧ l ≤ 2 ^ 20 → ¬ f p l < 0 → (0 ≤ f p l ∧ f p l ≤ 2 ^ 20) ∧ W p) : ∀ {ps : List α} {l : Int}, 0 ≤ l ∧ l ≤ 2 ^ 20 → ¬ szG f ps l < 0 → (∀ p ∈ ps, W p) ∧ 0 ≤ szG f ps l ∧ szG f ps l ≤ 2 ^ 20
  | [], l, hl, _ => ⟨(fun p hp => by cases hp), hl⟩
  | p :: r, l, hl, h => by
    unfold szG at h ⊢
    split at h
    · exact absurd (show (-1 : Int) < 0 by decide) h
    · rename_i h1
      rw [if_neg h1]
      obtain ⟨h2, h3⟩ := hf p l hl h1
      obtain ⟨k1, k2⟩ := szG_le hf (ps := r) h2 h
      refine ⟨fun q hq => ?_, k2⟩
      rcases List.mem_cons.1 hq with rfl | hq
      · exact h3
      · exact k1 q hq
theorem szL_le {α : Type} {f : α → Int → Int} {W : α → Prop} (hf : ∀ p l, 0 ≤ l ∧ l ≤ 2 ^ 20 → ¬ f p l < 0 → (0 ≤ f p l ∧ f p l ≤ 2 ^ 20) ∧ W p) {ps : List α} {l : Int} (hl : 0 ≤ l ∧ l ≤ 2 ^ 20) (h : ¬ szL f ps l < 0) : ps.length ≤ 2 ^ 20 ∧ (∀ p ∈ ps, W p) ∧ 0 ≤ szL f ps l ∧ szL f ps l ≤ 2 ^ 20 := by
  unfold szL at h ⊢
  split at h
  · exact absurd (show (-1 : Int) < 0 by decide) h
  · rename_i h1
    rw [if_neg h1]
    obtain ⟨k1, k2⟩ := szG_le hf (ps := ps) (l := l - ps.length) ⟨by omega, by omega⟩ h
    exact ⟨by omega, k1, k2⟩
def szJ (j : Jo) (l : Int) : Int := szr j.2.2.1.length (szr j.2.1.length l)
def szP (p : Pln) (l : Int) : Int := szr p.1.length l
theorem szr_neg {n : Nat} {l : Int} (h : l < 0) : szr n l = -1 := by unfold szr; rw [if_pos (by omega)]
theorem szL_neg {α : Type} {f : α → Int → Int} {ps : List α} {l : Int} (h : l < 0) : szL f ps l = -1 := by unfold szL; rw [if_pos (by omega)]
theorem szJ_le (j : Jo) (l : Int) (hl : 0 ≤ l ∧ l ≤ 2 ^ 20) (h : ¬ szJ j l < 0) : (0 ≤ szJ j l ∧ szJ j l ≤ 2 ^ 20) ∧ (j.2.1.length ≤ 2 ^ 20 ∧ j.2.2.1.length ≤ 2 ^ 20) := by
  unfold szJ at h ⊢
  by_cases h1 : szr j.2.1.length l < 0
  · rw [szr_neg h1] at h
    exact absurd (show (-1 : Int) < 0 by decide) h
  · have a := szr_rng hl h1
    have b := szr_rng ⟨a.1, a.2.1⟩ h
    omega
theorem szP_le (p : Pln) (l : Int) (hl : 0 ≤ l ∧ l ≤ 2 ^ 20) (h : ¬ szP p l < 0) : (0 ≤ szP p l ∧ szP p l ≤ 2 ^ 20) ∧ p.1.length ≤ 2 ^ 20 := by
  have a := szr_rng hl h
  unfold szP
  omega
theorem cToFlows (T : Fl) : PureC X 212 [.agg (flc T)] (.agg (flc T)) := by
  refine PureC.of_body (drawD_ok X) (fun _ _ => Go.Proofs.Tryz.call212 _ _) Go.Proofs.Tryz.func212 rfl (n := 16) rfl ?_
  refine w_seq ?_
  refine w_reg rfl ?_
  refine v_box (m := 0) (H' := [_]) lay49 rfl rfl rfl ?_
  refine v_alloc (m := 1) (H' := [_, ⟨[.f _ _, .f _ _, .f _ _, .f _ _, .f _ _, .f _ _, .f _ _, .f _ _, .f _ _, .f _ _, .f _ _, .f _ _, .f _ _, .f _ _, .f _ _, .f _ _], 50, true⟩]) lay50 rfl rfl ?_
  refine v_nil ?_
  refine q_n ?_
  refine w_seq ?_
  refine w_reg rfl ?_
  refine v_alloc (m := 2) (H' := [_, _, ⟨[.f _ _, .f _ _, .f _ _, .f _ _, .f _ _, .f _ _, .f _ _, .f _ _, .f _ _, .f _ _, .f _ _, .f _ _, .f _ _, .f _ _, .f _ _, .f _ _], 50, true⟩]) lay50 rfl rfl ?_
  refine v_nil ?_
  refine q_n ?_
  refine w_seq ?_
  refine w_seq ?_
  refine w_reg rfl ?_
  refine v_assign (c := .v (.int .i64 0)) rfl ?_
  refine v_nil ?_
  refine q_n ?_
  refine w_block ?_
  refine w_loop (fun k sl H => ∃ i : Nat, k = 4 - i ∧ i ≤ 4 ∧ sl = sls [(1, .c (.pt 0 0)), (2, .c (.pt 1 0)), (3, .c (.pt 2 0)), (4, cI i)] ∧ H = [⟨flat foc (l4 T), 49, true⟩, ⟨flat foc (l4 (fun _ => fun _ => some 0 : Fl)), 50, true⟩, ⟨flat foc (l4 (mixF i T (fun _ => fun _ => some 0 : Fl))), 50, true⟩]) ?_ ?_
  · refine ⟨_, _, _, ?_, 0, rfl, Nat.zero_le _, rfl, rfl⟩
    exact turn [some 0, some 1, some 2] rfl rfl rfl ⟨⟨_, rfl, trc_flat foc_sc rfl⟩, ⟨_, rfl, trc_flat foc_sc rfl⟩, ⟨_, rfl, trc_flat foc_sc (by rw [mixF_0]; rfl)⟩, trivial⟩ ⟨tr_pt rfl, tr_pt rfl, tr_pt rfl, tr_v, trivial⟩
  rintro k sl H ⟨i, rfl, hi, rfl, rfl⟩
  refine w_seq ?_
  refine w_seq ?_
  refine w_reg rfl ?_
  refine v_move rfl ?_
  refine v_lss lay3 rfl rfl (fun h1 => ?_) (fun h1 => ?_)
  rotate_left
  · refine v_nil ?_
    refine q_n ?_
    refine w_f rfl ?_
    refine w_exit ?_
    refine q_e ?_
    refine q_e ?_
    refine q_hit ?_
    refine q_n ?_
    refine w_seq ?_
    refine w_reg rfl ?_
    refine v_load_pt (.agg [_, _, _, _, _, _, _, _, _, _, _, _, _, _, _, _]) lay50 rfl rfl rfl rfl ?_
    refine v_store (H' := [_, ⟨[_, _, _, _, _, _, _, _, _, _, _, _, _, _, _, _], 50, true⟩, _]) lay50 rfl rfl rfl rfl rfl rfl ?_
    refine v_nil ?_
    refine q_n ?_
    refine w_ret ?_
    refine r_r rfl ?_
    obtain rfl : i = 4 := by omega
    exact a_agg (.cons tr_f (.cons tr_f (.cons tr_f (.cons tr_f (.cons tr_f (.cons tr_f (.cons tr_f (.cons tr_f (.cons tr_f (.cons tr_f (.cons tr_f (.cons tr_f (.cons tr_f (.cons tr_f (.cons tr_f (.cons tr_f .nil))))))))))))))))
  have hi1 : i < 4 := by omega
  refine v_nil ?_
  refine q_n ?_
  refine w_t rfl ?_
  refine w_skip ?_
  refine q_n ?_
  refine w_seq ?_
  refine w_block ?_
  refine w_reg rfl ?_
  refine v_move rfl ?_
  refine v_move rfl ?_
  refine v_idx_arr_e (k := 4) (i) lay49 lay48 rfl rfl rfl (rfl) (hi1) ?_
  refine v_load_flat_e (enc := foc) (ys := l4 T) i 0 (.agg (foc (T ⟨i, hi1⟩))) foc_len lay48 rfl rfl (by omega) hi1 (by decide) (r4_ld T hi1 _) ?_
  refine v_call (cToA4 _) rfl rfl rfl (.cons (vw_agg (.cons vw_f (.cons vw_f (.cons vw_f (.cons vw_f .nil))))) .nil) ?_
  refine v_idx_arr_e (k := 4) (i) lay50 lay48 rfl rfl rfl (rfl) (hi1) ?_
  refine v_store_flat (H' := [_, _, _]) i 0 (T ⟨i, hi1⟩) foc_len lay48 rfl rfl rfl (by omega) (by rw [l4_len]; exact hi1) rfl rfl (rfl) rfl ?_
  refine v_nil ?_
  refine q_bn ?_
  refine q_n ?_
  refine w_reg rfl ?_
  refine v_move rfl ?_
  refine v_add lay3 rfl rfl (i64r (by omega)) ?_
  refine v_assign rfl ?_
  refine v_nil ?_
  refine q_n ?_
  refine ⟨_, _, _, ?_, ⟨i + 1, rfl, by omega, rfl, rfl⟩, by omega⟩
  exact turn [some 0, some 1, some 2] rfl rfl rfl ⟨⟨_, rfl, trc_flat foc_sc rfl⟩, ⟨_, rfl, trc_flat foc_sc rfl⟩, ⟨_, rfl, trc_flat foc_sc (congrArg (flat foc) ((l4_set _ hi1 _).trans (congrArg l4 (mixF_put _ _ hi1))))⟩, trivial⟩ ⟨tr_pt rfl, tr_pt rfl, tr_pt rfl, tr_v, trivial⟩
theorem cEqFlows (T : Fl) (hT : ∀ i (hi : i < 4) k (hk : k < 4), Sg (T ⟨i, hi⟩ ⟨k, hk⟩)) : PureC X 32 [.agg (flc T), .agg (flc T)] (cB (decide True)) := by
  refine PureC.of_body (drawD_ok X) (fun _ _ => Go.Proofs.Tryz.call32 _ _) Go.Proofs.Tryz.func32 rfl (n := 18) rfl ?_
  refine w_seq ?_
  refine w_reg rfl ?_
  refine v_box (m := 0) (H' := [_]) lay50 rfl rfl rfl ?_
  refine v_box (m := 1) (H' := [_, _]) lay50 rfl rfl rfl ?_
  refine v_assign (c := .v (.bool false)) rfl ?_
  refine v_nil ?_
  refine q_n ?_
  refine w_seq ?_
  refine w_seq ?_
  refine w_reg rfl ?_
  refine v_assign (c := .v (.int .i64 0)) rfl ?_
  refine v_nil ?_
  refine q_n ?_
  refine w_block ?_
  refine w_loop (fun k sl H => ∃ i : Nat, k = 4 - i ∧ i ≤ 4 ∧ sl = sls [(2, .c (.pt 0 0)), (3, .c (.pt 1 0)), (5, cI i)] ∧ H = [⟨flat foc (l4 T), 50, true⟩, ⟨flat foc (l4 T), 50, true⟩]) ?_ ?_
  · refine ⟨_, _, _, ?_, 0, rfl, Nat.zero_le _, rfl, rfl⟩
    exact turn [some 0, some 1] rfl rfl rfl ⟨⟨_, rfl, trc_flat foc_sc rfl⟩, ⟨_, rfl, trc_flat foc_sc rfl⟩, trivial⟩ ⟨tr_pt rfl, tr_pt rfl, tr_v, trivial⟩
  rintro k sl H ⟨i, rfl, hi, rfl, rfl⟩
  refine w_seq ?_
  refine w_seq ?_
  refine w_reg rfl ?_
  refine v_move rfl ?_
  refine v_lss lay3 rfl rfl (fun h1 => ?_) (fun h1 => ?_)
  rotate_left
  · refine v_nil ?_
    refine q_n ?_
    refine w_f rfl ?_
    refine w_exit ?_
    refine q_e ?_
    refine q_e ?_
    refine q_hit ?_
    refine q_n ?_
    refine w_seq ?_
    refine w_reg rfl ?_
    refine v_assign (c := .v (.bool true)) rfl ?_
    refine v_nil ?_
    refine q_n ?_
    refine w_ret ?_
    refine r_r rfl ?_
    exact a_b ⟨fun _ => trivial, fun _ => rfl⟩
  have hi1 : i < 4 := by omega
  refine v_nil ?_
  refine q_n ?_
  refine w_t rfl ?_
  refine w_skip ?_
  refine q_n ?_
  refine w_seq ?_
  refine w_block ?_
  refine w_seq ?_
  refine w_draw [0, 1, 3, 0, 8, 24, 63, 127] [⟨0, 0, []⟩, ⟨1, 0, []⟩, ⟨2, 0, []⟩, ⟨3, 0, []⟩, ⟨4, 0, []⟩, ⟨5, 0, []⟩, ⟨6, 0, []⟩, ⟨7, 0, []⟩] rfl rfl ?_
  refine d_q rfl rfl rfl rfl rfl ?_
  refine v_move rfl ?_
  refine v_nil ?_
  refine d_q rfl rfl rfl rfl rfl ?_
  refine v_idx_arr_e (k := 4) (i) lay50 lay48 rfl rfl rfl (rfl) (hi1) ?_
  refine v_nil ?_
  refine d_q rfl rfl rfl rfl rfl ?_
  refine v_load_flat_e (enc := foc) (ys := l4 T) i 0 (.agg (foc (T ⟨i, hi1⟩))) foc_len lay48 rfl rfl (by omega) hi1 (by decide) (r4_ld T hi1 _) ?_
  refine v_nil ?_
  refine d_q rfl rfl rfl rfl rfl ?_
  refine v_move rfl ?_
  refine v_nil ?_
  refine d_q rfl rfl rfl rfl rfl ?_
  refine v_idx_arr_e (k := 4) (i) lay50 lay48 rfl rfl rfl (rfl) (hi1) ?_
  refine v_nil ?_
  refine d_q rfl rfl rfl rfl rfl ?_
  refine v_load_flat_e (enc := foc) (ys := l4 T) i 0 (.agg (foc (T ⟨i, hi1⟩))) foc_len lay48 rfl rfl (by omega) hi1 (by decide) (r4_ld T hi1 _) ?_
  refine v_nil ?_
  refine d_callb (cEqA4 _ (fun k hk => (hT i hi1 k hk).1)) rfl rfl rfl rfl (.cons (vw_agg (.cons vw_f (.cons vw_f (.cons vw_f (.cons vw_f .nil))))) (.cons (vw_agg (.cons vw_f (.cons vw_f (.cons vw_f (.cons vw_f .nil))))) .nil)) (fun h2 => ?_) (fun h2 => ?_)
  rotate_left
  · exact absurd trivial h2
  refine d_q rfl rfl rfl rfl rfl ?_
  refine v_not false rfl rfl ?_
  refine v_nil ?_
  refine d_nil ?_
  refine q_n ?_
  refine w_f rfl ?_
  refine w_skip ?_
  refine q_bn ?_
  refine q_n ?_
  refine w_reg rfl ?_
  refine v_move rfl ?_
  refine v_add lay3 rfl rfl (i64r (by omega)) ?_
  refine v_assign rfl ?_
  refine v_nil ?_
  refine q_n ?_
  refine ⟨_, _, _, ?_, ⟨i + 1, rfl, by omega, rfl, rfl⟩, by omega⟩
  exact turn [some 0, some 1] rfl rfl rfl ⟨⟨_, rfl, trc_flat foc_sc rfl⟩, ⟨_, rfl, trc_flat foc_sc rfl⟩, trivial⟩ ⟨tr_pt rfl, tr_pt rfl, tr_v, trivial⟩
theorem cToRoad (r : Rd) : PureC X 104 [.agg (rdc r)] (.agg (rdc r)) := by
  refine PureC.of_body (drawD_ok X) (fun _ _ => Go.Proofs.Tryz.call104 _ _) Go.Proofs.Tryz.func104 rfl (n := 18) rfl ?_
  refine w_seq ?_
  refine w_reg rfl ?_
  refine v_box (m := 0) (H' := [_]) lay155 rfl rfl rfl ?_
  refine v_alloc (m := 1) (H' := [_, ⟨[.f _ _, .f _ _, .f _ _, .f _ _, .f _ _, .f _ _, .f _ _, .f _ _, .f _ _, .f _ _, .f _ _, .f _ _, .f _ _, .f _ _, .f _ _, .f _ _, .f _ _, .f _ _, .f _ _], 73, true⟩]) lay73 rfl rfl ?_
  refine v_nil ?_
  refine q_n ?_
  refine w_seq ?_
  refine w_reg rfl ?_
  refine v_alloc (m := 2) (H' := [_, _, ⟨[.f _ _, .f _ _, .f _ _, .f _ _, .f _ _, .f _ _, .f _ _, .f _ _, .f _ _, .f _ _, .f _ _, .f _ _, .f _ _, .f _ _, .f _ _, .f _ _, .f _ _, .f _ _, .f _ _], 73, true⟩]) lay73 rfl rfl ?_
  refine v_nil ?_
  refine q_n ?_
  refine w_seq ?_
  refine w_reg rfl ?_
  refine v_fa_pt (off' := 0) lay155 rfl rfl rfl ?_
  refine v_load_pt (.agg [_, _, _, _, _, _, _, _, _, _, _, _, _, _, _, _]) lay70 rfl rfl rfl rfl ?_
  refine v_call (cToCars _) rfl rfl rfl (.cons (vw_agg (.cons vw_f (.cons vw_f (.cons vw_f (.cons vw_f (.cons vw_f (.cons vw_f (.cons vw_f (.cons vw_f (.cons vw_f (.cons vw_f (.cons vw_f (.cons vw_f (.cons vw_f (.cons vw_f (.cons vw_f (.cons vw_f .nil))))))))))))))))) .nil) ?_
  refine v_fa_pt (off' := 0) lay73 rfl rfl rfl ?_
  refine v_store (H' := [_, _, ⟨[_, _, _, _, _, _, _, _, _, _, _, _, _, _, _, _, _, _, _], 73, true⟩]) lay71 rfl rfl rfl rfl rfl rfl ?_
  refine v_nil ?_
  refine q_n ?_
  refine w_seq ?_
  refine w_reg rfl ?_
  refine v_fa_pt (off' := 16) lay155 rfl rfl rfl ?_
  refine v_load_pt (.c _) lay26 rfl rfl rfl rfl ?_
  refine v_fa_pt (off' := 16) lay73 rfl rfl rfl ?_
  refine v_store (H' := [_, _, ⟨[_, _, _, _, _, _, _, _, _, _, _, _, _, _, _, _, _, _, _], 73, true⟩]) lay26 rfl rfl rfl rfl rfl rfl ?_
  refine v_nil ?_
  refine q_n ?_
  refine w_seq ?_
  refine w_reg rfl ?_
  refine v_fa_pt (off' := 17) lay155 rfl rfl rfl ?_
  refine v_load_pt (.c _) lay26 rfl rfl rfl rfl ?_
  refine v_fa_pt (off' := 17) lay73 rfl rfl rfl ?_
  refine v_store (H' := [_, _, ⟨[_, _, _, _, _, _, _, _, _, _, _, _, _, _, _, _, _, _, _], 73, true⟩]) lay26 rfl rfl rfl rfl rfl rfl ?_
  refine v_nil ?_
  refine q_n ?_
  refine w_seq ?_
  refine w_reg rfl ?_
  refine v_fa_pt (off' := 18) lay155 rfl rfl rfl ?_
  refine v_load_pt (.c _) lay26 rfl rfl rfl rfl ?_
  refine v_fa_pt (off' := 18) lay73 rfl rfl rfl ?_
  refine v_store (H' := [_, _, ⟨[_, _, _, _, _, _, _, _, _, _, _, _, _, _, _, _, _, _, _], 73, true⟩]) lay26 rfl rfl rfl rfl rfl rfl ?_
  refine v_nil ?_
  refine q_n ?_
  refine w_seq ?_
  refine w_reg rfl ?_
  refine v_load_pt (.agg [_, _, _, _, _, _, _, _, _, _, _, _, _, _, _, _, _, _, _]) lay73 rfl rfl rfl rfl ?_
  refine v_store (H' := [_, ⟨[_, _, _, _, _, _, _, _, _, _, _, _, _, _, _, _, _, _, _], 73, true⟩, _]) lay73 rfl rfl rfl rfl rfl rfl ?_
  refine v_nil ?_
  refine q_n ?_
  refine w_ret ?_
  refine r_r rfl ?_
  exact a_agg (.cons tr_f (.cons tr_f (.cons tr_f (.cons tr_f (.cons tr_f (.cons tr_f (.cons tr_f (.cons tr_f (.cons tr_f (.cons tr_f (.cons tr_f (.cons tr_f (.cons tr_f (.cons tr_f (.cons tr_f (.cons tr_f (.cons tr_f (.cons tr_f (.cons tr_f .nil)))))))))))))))))))
theorem cToRoadS (xs : List Rd) (hx : xs.length ≤ 2 ^ 40) : PureC X 44 [.c (.sl false xs.length 19 (flat rdc xs))] (.c (.sl true xs.length 19 (flat rdc xs))) := by
  refine PureC.of_body (drawD_ok X) (fun _ _ => Go.Proofs.Tryz.call44 _ _) Go.Proofs.Tryz.func44 rfl (n := 23) rfl ?_
  refine w_seq ?_
  refine w_reg rfl ?_
  refine v_assign rfl ?_
  refine v_nil ?_
  refine q_n ?_
  refine w_seq ?_
  refine w_reg rfl ?_
  refine v_move rfl ?_
  refine v_len_sl lay22 rfl ?_
  refine v_make (enc := rdc) (a0 := zR) (m := 0) (H' := [_]) rfl lay31 lay73 rfl rfl rfl rfl (xs.length) (rfl) (by unfold maxLen; simp only []; omega) rfl rfl ?_
  refine v_assign rfl ?_
  refine v_nil ?_
  refine q_n ?_
  refine w_seq ?_
  refine w_seq ?_
  refine w_reg rfl ?_
  refine v_assign (c := .v (.int .i64 0)) rfl ?_
  refine v_nil ?_
  refine q_n ?_
  refine w_block ?_
  refine w_loop (fun k sl H => ∃ i : Nat, k = xs.length - i ∧ i ≤ xs.length ∧ sl = sls [(0, .c (.sl false xs.length 19 (flat rdc xs))), (3, .c (.mu 0 0 xs.length 19)), (4, cI i)] ∧ H = [⟨flat rdc (xs.take i ++ List.replicate (xs.length - i) zR), 73, true⟩]) ?_ ?_
  · refine ⟨_, _, _, ?_, 0, rfl, Nat.zero_le _, rfl, rfl⟩
    exact turn [some 0] rfl rfl rfl ⟨⟨_, rfl, .stay (stays_flat rdc_sc _)⟩, trivial⟩ ⟨tr_sl, tr_mu rfl, tr_v, trivial⟩
  rintro k sl H ⟨i, rfl, hi, rfl, rfl⟩
  refine w_seq ?_
  refine w_seq ?_
  refine w_reg rfl ?_
  refine v_move rfl ?_
  refine v_move rfl ?_
  refine v_len_sl lay22 rfl ?_
  refine v_lss lay3 rfl rfl (fun h1 => ?_) (fun h1 => ?_)
  rotate_left
  · refine v_nil ?_
    refine q_n ?_
    refine w_f rfl ?_
    refine w_exit ?_
    refine q_e ?_
    refine q_e ?_
    refine q_hit ?_
    refine q_n ?_
    refine w_seq ?_
    refine w_reg rfl ?_
    refine v_move rfl ?_
    refine v_assign rfl ?_
    refine v_nil ?_
    refine q_n ?_
    refine w_ret ?_
    refine r_r rfl ?_
    obtain rfl : i = xs.length := by omega
    exact a_flat (t := 73) rdc_sc rdc_len (by simp) rfl
  have hi1 : i < xs.length := by omega
  refine v_nil ?_
  refine q_n ?_
  refine w_t rfl ?_
  refine w_skip ?_
  refine q_n ?_
  refine w_seq ?_
  refine w_block ?_
  refine w_reg rfl ?_
  refine v_move rfl ?_
  refine v_move rfl ?_
  refine v_move rfl ?_
  refine v_move rfl ?_
  refine v_idx_e (k := 19) (i) rdc_len lay22 lay155 rfl rfl rfl (rfl) rfl (rfl) ((by omega : i < xs.length)) ?_
  refine v_load_vw (.agg [.f _ _, .f _ _, .f _ _, .f _ _, .f _ _, .f _ _, .f _ _, .f _ _, .f _ _, .f _ _, .f _ _, .f _ _, .f _ _, .f _ _, .f _ _, .f _ _, .f _ _, .f _ _, .f _ _]) lay155 rfl rfl rfl ?_
  refine v_call (cToRoad _) rfl rfl rfl (.cons (vw_agg (.cons vw_f (.cons vw_f (.cons vw_f (.cons vw_f (.cons vw_f (.cons vw_f (.cons vw_f (.cons vw_f (.cons vw_f (.cons vw_f (.cons vw_f (.cons vw_f (.cons vw_f (.cons vw_f (.cons vw_f (.cons vw_f (.cons vw_f (.cons vw_f (.cons vw_f .nil)))))))))))))))))))) .nil) ?_
  refine v_idx_mu_e (k := 19) (off := 0) (i) lay31 lay73 rfl rfl rfl (rfl) ((by omega : i < xs.length)) ?_
  refine v_store_flat (H' := [_]) i 0 (xs[i]) rdc_len lay73 rfl rfl rfl (by omega) (by simp; omega) rfl rfl (rfl) rfl ?_
  refine v_nil ?_
  refine q_bn ?_
  refine q_n ?_
  refine w_reg rfl ?_
  refine v_move rfl ?_
  refine v_add lay3 rfl rfl (i64r (by omega)) ?_
  refine v_assign rfl ?_
  refine v_nil ?_
  refine q_n ?_
  refine ⟨_, _, _, ?_, ⟨i + 1, rfl, by omega, rfl, rfl⟩, by omega⟩
  exact turn [some 0] rfl rfl rfl ⟨⟨_, rfl, by rw [fill_step hi1]; exact .stay (stays_flat rdc_sc _)⟩, trivial⟩ ⟨tr_sl, tr_mu rfl, tr_v, trivial⟩
theorem cToFloatS (xs : List (Option Nat)) (hx : xs.length ≤ 2 ^ 40) : PureC X 45 [.c (.sl false xs.length 1 (flat fe xs))] (.c (.sl true xs.length 1 (flat fe xs))) := by
  refine PureC.of_body (drawD_ok X) (fun _ _ => Go.Proofs.Tryz.call45 _ _) Go.Proofs.Tryz.func45 rfl (n := 22) rfl ?_
  refine w_seq ?_
  refine w_reg rfl ?_
  refine v_assign rfl ?_
  refine v_nil ?_
  refine q_n ?_
  refine w_seq ?_
  refine w_reg rfl ?_
  refine v_move rfl ?_
  refine v_len_sl lay23 rfl ?_
  refine v_make (enc := fe) (a0 := (some 0)) (m := 0) (H' := [_]) rfl lay23 lay26 rfl rfl rfl rfl (xs.length) (rfl) (by unfold maxLen; simp only []; omega) rfl rfl ?_
  refine v_assign rfl ?_
  refine v_nil ?_
  refine q_n ?_
  refine w_seq ?_
  refine w_seq ?_
  refine w_reg rfl ?_
  refine v_assign (c := .v (.int .i64 0)) rfl ?_
  refine v_nil ?_
  refine q_n ?_
  refine w_block ?_
  refine w_loop (fun k sl H => ∃ i : Nat, k = xs.length - i ∧ i ≤ xs.length ∧ sl = sls [(0, .c (.sl false xs.length 1 (flat fe xs))), (3, .c (.mu 0 0 xs.length 1)), (4, cI i)] ∧ H = [⟨flat fe (xs.take i ++ List.replicate (xs.length - i) (some 0)), 26, true⟩]) ?_ ?_
  · refine ⟨_, _, _, ?_, 0, rfl, Nat.zero_le _, rfl, rfl⟩
    exact turn [some 0] rfl rfl rfl ⟨⟨_, rfl, .stay (stays_flat fe_sc _)⟩, trivial⟩ ⟨tr_sl, tr_mu rfl, tr_v, trivial⟩
  rintro k sl H ⟨i, rfl, hi, rfl, rfl⟩
  refine w_seq ?_
  refine w_seq ?_
  refine w_reg rfl ?_
  refine v_move rfl ?_
  refine v_move rfl ?_
  refine v_len_sl lay23 rfl ?_
  refine v_lss lay3 rfl rfl (fun h1 => ?_) (fun h1 => ?_)
  rotate_left
  · refine v_nil ?_
    refine q_n ?_
    refine w_f rfl ?_
    refine w_exit ?_
    refine q_e ?_
    refine q_e ?_
    refine q_hit ?_
    refine q_n ?_
    refine w_seq ?_
    refine w_reg rfl ?_
    refine v_move rfl ?_
    refine v_assign rfl ?_
    refine v_nil ?_
    refine q_n ?_
    refine w_ret ?_
    refine r_r rfl ?_
    obtain rfl : i = xs.length := by omega
    exact a_flat (t := 26) fe_sc fe_len (by simp) rfl
  have hi1 : i < xs.length := by omega
  refine v_nil ?_
  refine q_n ?_
  refine w_t rfl ?_
  refine w_skip ?_
  refine q_n ?_
  refine w_seq ?_
  refine w_block ?_
  refine w_reg rfl ?_
  refine v_move rfl ?_
  refine v_move rfl ?_
  refine v_move rfl ?_
  refine v_move rfl ?_
  refine v_idx_e (k := 1) (i) fe_len lay23 lay26 rfl rfl rfl (rfl) rfl (rfl) ((by omega : i < xs.length)) ?_
  refine v_load_vw (.c (.f _ _)) lay26 rfl rfl rfl ?_
  refine v_idx_mu_e (k := 1) (off := 0) (i) lay23 lay26 rfl rfl rfl (rfl) ((by omega : i < xs.length)) ?_
  refine v_store_flat (H' := [_]) i 0 (xs[i]) fe_len lay26 rfl rfl rfl (by omega) (by simp; omega) rfl rfl (rfl) rfl ?_
  refine v_nil ?_
  refine q_bn ?_
  refine q_n ?_
  refine w_reg rfl ?_
  refine v_move rfl ?_
  refine v_add lay3 rfl rfl (i64r (by omega)) ?_
  refine v_assign rfl ?_
  refine v_nil ?_
  refine q_n ?_
  refine ⟨_, _, _, ?_, ⟨i + 1, rfl, by omega, rfl, rfl⟩, by omega⟩
  exact turn [some 0] rfl rfl rfl ⟨⟨_, rfl, by rw [fill_step hi1]; exact .stay (stays_flat fe_sc _)⟩, trivial⟩ ⟨tr_sl, tr_mu rfl, tr_v, trivial⟩
theorem cEqRoad (r : Rd) (hW : rW r) : PureC X 124 [.agg (rdc r), .agg (rdc r)] (cB (decide True)) := by
  refine PureC.of_body (drawD_ok X) (fun _ _ => Go.Proofs.Tryz.call124 _ _) Go.Proofs.Tryz.func124 rfl (n := 35) rfl ?_
  refine w_seq ?_
  refine w_reg rfl ?_
  refine v_box (m := 0) (H' := [_]) lay73 rfl rfl rfl ?_
  refine v_box (m := 1) (H' := [_, _]) lay73 rfl rfl rfl ?_
  refine v_assign (c := .v (.bool false)) rfl ?_
  refine v_nil ?_
  refine q_n ?_
  refine w_seq ?_
  refine w_seq ?_
  refine w_reg rfl ?_
  refine v_fa_pt (off' := 0) lay73 rfl rfl rfl ?_
  refine v_load_pt (.agg [_, _, _, _, _, _, _, _, _, _, _, _, _, _, _, _]) lay71 rfl rfl rfl rfl ?_
  refine v_fa_pt (off' := 0) lay73 rfl rfl rfl ?_
  refine v_load_pt (.agg [_, _, _, _, _, _, _, _, _, _, _, _, _, _, _, _]) lay71 rfl rfl rfl rfl ?_
  refine v_callb (cEqCars _ (fun i hi => (hW.1 i hi).1)) rfl rfl (.cons (vw_agg (.cons vw_f (.cons vw_f (.cons vw_f (.cons vw_f (.cons vw_f (.cons vw_f (.cons vw_f (.cons vw_f (.cons vw_f (.cons vw_f (.cons vw_f (.cons vw_f (.cons vw_f (.cons vw_f (.cons vw_f (.cons vw_f .nil))))))))))))))))) (.cons (vw_agg (.cons vw_f (.cons vw_f (.cons vw_f (.cons vw_f (.cons vw_f (.cons vw_f (.cons vw_f (.cons vw_f (.cons vw_f (.cons vw_f (.cons vw_f (.cons vw_f (.cons vw_f (.cons vw_f (.cons vw_f (.cons vw_f .nil))))))))))))))))) .nil)) (fun h1 => ?_) (fun h1 => ?_)
  rotate_left
  · exact absurd trivial h1
  refine v_not false rfl rfl ?_
  refine v_nil ?_
  refine q_n ?_
  refine w_f rfl ?_
  refine w_skip ?_
  refine q_n ?_
  refine w_seq ?_
  refine w_seq ?_
  refine w_reg rfl ?_
  refine v_fa_pt (off' := 16) lay73 rfl rfl rfl ?_
  refine v_load_pt (.c _) lay26 rfl rfl rfl rfl ?_
  refine v_conv_ff _ lay26 lay42 rfl (convF_single (by first | exact hW.2.1.1 | exact hW.2.2.1.1 | exact hW.2.2.2.1)) ?_
  refine v_fa_pt (off' := 16) lay73 rfl rfl rfl ?_
  refine v_load_pt (.c _) lay26 rfl rfl rfl rfl ?_
  refine v_conv_ff _ lay26 lay42 rfl (convF_single (by first | exact hW.2.1.1 | exact hW.2.2.1.1 | exact hW.2.2.2.1)) ?_
  refine v_callb (cSF _ (wide_ok (by first | exact hW.2.1.1 | exact hW.2.2.1.1 | exact hW.2.2.2.1))) rfl rfl (.cons vw_f (.cons vw_f .nil)) (fun h2 => ?_) (fun h2 => ?_)
  rotate_left
  · exact absurd trivial h2
  refine v_not false rfl rfl ?_
  refine v_nil ?_
  refine q_n ?_
  refine w_f rfl ?_
  refine w_skip ?_
  refine q_n ?_
  refine w_seq ?_
  refine w_seq ?_
  refine w_reg rfl ?_
  refine v_fa_pt (off' := 17) lay73 rfl rfl rfl ?_
  refine v_load_pt (.c _) lay26 rfl rfl rfl rfl ?_
  refine v_conv_ff _ lay26 lay42 rfl (convF_single (by first | exact hW.2.1.1 | exact hW.2.2.1.1 | exact hW.2.2.2.1)) ?_
  refine v_fa_pt (off' := 17) lay73 rfl rfl rfl ?_
  refine v_load_pt (.c _) lay26 rfl rfl rfl rfl ?_
  refine v_conv_ff _ lay26 lay42 rfl (convF_single (by first | exact hW.2.1.1 | exact hW.2.2.1.1 | exact hW.2.2.2.1)) ?_
  refine v_callb (cSF _ (wide_ok (by first | exact hW.2.1.1 | exact hW.2.2.1.1 | exact hW.2.2.2.1))) rfl rfl (.cons vw_f (.cons vw_f .nil)) (fun h3 => ?_) (fun h3 => ?_)
  rotate_left
  · exact absurd trivial h3
  refine v_not false rfl rfl ?_
  refine v_nil ?_
  refine q_n ?_
  refine w_f rfl ?_
  refine w_skip ?_
  refine q_n ?_
  refine w_seq ?_
  refine w_seq ?_
  refine w_reg rfl ?_
  refine v_fa_pt (off' := 18) lay73 rfl rfl rfl ?_
  refine v_load_pt (.c _) lay26 rfl rfl rfl rfl ?_
  refine v_conv_ff _ lay26 lay42 rfl (convF_single (by first | exact hW.2.1.1 | exact hW.2.2.1.1 | exact hW.2.2.2.1)) ?_
  refine v_fa_pt (off' := 18) lay73 rfl rfl rfl ?_
  refine v_load_pt (.c _) lay26 rfl rfl rfl rfl ?_
  refine v_conv_ff _ lay26 lay42 rfl (convF_single (by first | exact hW.2.1.1 | exact hW.2.2.1.1 | exact hW.2.2.2.1)) ?_
  refine v_callb (cSF _ (wide_ok (by first | exact hW.2.1.1 | exact hW.2.2.1.1 | exact hW.2.2.2.1))) rfl rfl (.cons vw_f (.cons vw_f .nil)) (fun h4 => ?_) (fun h4 => ?_)
  rotate_left
  · exact absurd trivial h4
  refine v_not false rfl rfl ?_
  refine v_nil ?_
  refine q_n ?_
  refine w_f rfl ?_
  refine w_skip ?_
  refine q_n ?_
  refine w_seq ?_
  refine w_reg rfl ?_
  refine v_assign (c := .v (.bool true)) rfl ?_
  refine v_nil ?_
  refine q_n ?_
  refine w_ret ?_
  refine r_r rfl ?_
  exact a_b ⟨fun _ => trivial, fun _ => rfl⟩
theorem cEqRoadS (xs : List Rd) (hx : xs.length ≤ 2 ^ 40) (hw : ∀ x ∈ xs, rW x) : PureC X 58 [.c (.sl false xs.length 19 (flat rdc xs)), .c (.sl false xs.length 19 (flat rdc xs))] (cB (decide True)) := by
  refine PureC.of_body (drawD_ok X) (fun _ _ => Go.Proofs.Tryz.call58 _ _) Go.Proofs.Tryz.func58 rfl (n := 27) rfl ?_
  refine w_seq ?_
  refine w_reg rfl ?_
  refine v_assign (c := .v (.bool false)) rfl ?_
  refine v_nil ?_
  refine q_n ?_
  refine w_seq ?_
  refine w_seq ?_
  refine w_reg rfl ?_
  refine v_move rfl ?_
  refine v_len_sl lay31 rfl ?_
  refine v_move rfl ?_
  refine v_len_sl lay31 rfl ?_
  refine v_neq lay3 rfl rfl (fun h1 => ?_) (fun h1 => ?_)
  · exact absurd rfl h1
  refine v_nil ?_
  refine q_n ?_
  refine w_f rfl ?_
  refine w_skip ?_
  refine q_n ?_
  refine w_seq ?_
  refine w_seq ?_
  refine w_reg rfl ?_
  refine v_assign (c := .v (.int .i64 0)) rfl ?_
  refine v_nil ?_
  refine q_n ?_
  refine w_block ?_
  refine w_loop (fun k sl H => ∃ i : Nat, k = xs.length - i ∧ i ≤ xs.length ∧ sl = sls [(0, .c (.sl false xs.length 19 (flat rdc xs))), (1, .c (.sl false xs.length 19 (flat rdc xs))), (5, cI i)] ∧ H = []) ?_ ?_
  · refine ⟨_, _, _, ?_, 0, rfl, Nat.zero_le _, rfl, rfl⟩
    exact turn0 ⟨tr_sl, tr_sl, tr_v, trivial⟩
  rintro k sl H ⟨i, rfl, hi, rfl, rfl⟩
  refine w_seq ?_
  refine w_seq ?_
  refine w_reg rfl ?_
  refine v_move rfl ?_
  refine v_move rfl ?_
  refine v_len_sl lay31 rfl ?_
  refine v_lss lay3 rfl rfl (fun h2 => ?_) (fun h2 => ?_)
  rotate_left
  · refine v_nil ?_
    refine q_n ?_
    refine w_f rfl ?_
    refine w_exit ?_
    refine q_e ?_
    refine q_e ?_
    refine q_hit ?_
    refine q_n ?_
    refine w_seq ?_
    refine w_reg rfl ?_
    refine v_assign (c := .v (.bool true)) rfl ?_
    refine v_nil ?_
    refine q_n ?_
    refine w_ret ?_
    refine r_r rfl ?_
    exact a_b ⟨fun _ => trivial, fun _ => rfl⟩
  have i1 : i < xs.length := by omega
  refine v_nil ?_
  refine q_n ?_
  refine w_t rfl ?_
  refine w_skip ?_
  refine q_n ?_
  refine w_seq ?_
  refine w_block ?_
  refine w_seq ?_
  refine w_draw [0, 0, 3, 7, 0, 0, 48, 112, 255, 511] [⟨0, 0, []⟩, ⟨1, 0, []⟩, ⟨2, 0, []⟩, ⟨3, 0, []⟩, ⟨4, 0, []⟩, ⟨5, 0, []⟩, ⟨6, 0, []⟩, ⟨7, 0, []⟩, ⟨8, 0, []⟩, ⟨9, 0, []⟩] rfl rfl ?_
  refine d_q rfl rfl rfl rfl rfl ?_
  refine v_move rfl ?_
  refine v_nil ?_
  refine d_q rfl rfl rfl rfl rfl ?_
  refine v_move rfl ?_
  refine v_nil ?_
  refine d_q rfl rfl rfl rfl rfl ?_
  refine v_idx_e (k := 19) (i) rdc_len lay31 lay73 rfl rfl rfl (rfl) rfl (rfl) (i1) ?_
  refine v_nil ?_
  refine d_q rfl rfl rfl rfl rfl ?_
  refine v_load_vw (.agg [.f _ _, .f _ _, .f _ _, .f _ _, .f _ _, .f _ _, .f _ _, .f _ _, .f _ _, .f _ _, .f _ _, .f _ _, .f _ _, .f _ _, .f _ _, .f _ _, .f _ _, .f _ _, .f _ _]) lay73 rfl rfl rfl ?_
  refine v_nil ?_
  refine d_q rfl rfl rfl rfl rfl ?_
  refine v_move rfl ?_
  refine v_nil ?_
  refine d_q rfl rfl rfl rfl rfl ?_
  refine v_move rfl ?_
  refine v_nil ?_
  refine d_q rfl rfl rfl rfl rfl ?_
  refine v_idx_e (k := 19) (i) rdc_len lay31 lay73 rfl rfl rfl (rfl) rfl (rfl) (i1) ?_
  refine v_nil ?_
  refine d_q rfl rfl rfl rfl rfl ?_
  refine v_load_vw (.agg [.f _ _, .f _ _, .f _ _, .f _ _, .f _ _, .f _ _, .f _ _, .f _ _, .f _ _, .f _ _, .f _ _, .f _ _, .f _ _, .f _ _, .f _ _, .f _ _, .f _ _, .f _ _, .f _ _]) lay73 rfl rfl rfl ?_
  refine v_nil ?_
  refine d_callb (cEqRoad _ (hw _ (List.getElem_mem i1))) rfl rfl rfl rfl (.cons (vw_agg (.cons vw_f (.cons vw_f (.cons vw_f (.cons vw_f (.cons vw_f (.cons vw_f (.cons vw_f (.cons vw_f (.cons vw_f (.cons vw_f (.cons vw_f (.cons vw_f (.cons vw_f (.cons vw_f (.cons vw_f (.cons vw_f (.cons vw_f (.cons vw_f (.cons vw_f .nil)))))))))))))))))))) (.cons (vw_agg (.cons vw_f (.cons vw_f (.cons vw_f (.cons vw_f (.cons vw_f (.cons vw_f (.cons vw_f (.cons vw_f (.cons vw_f (.cons vw_f (.cons vw_f (.cons vw_f (.cons vw_f (.cons vw_f (.cons vw_f (.cons vw_f (.cons vw_f (.cons vw_f (.cons vw_f .nil)))))))))))))))))))) .nil)) (fun h5 => ?_) (fun h5 => ?_)
  rotate_left
  · exact absurd trivial h5
  refine d_q rfl rfl rfl rfl rfl ?_
  refine v_not false rfl rfl ?_
  refine v_nil ?_
  refine d_nil ?_
  refine q_n ?_
  refine w_f rfl ?_
  refine w_skip ?_
  refine q_bn ?_
  refine q_n ?_
  refine w_reg rfl ?_
  refine v_move rfl ?_
  refine v_add lay3 rfl rfl (i64r (by omega)) ?_
  refine v_assign rfl ?_
  refine v_nil ?_
  refine q_n ?_
  refine ⟨_, _, _, ?_, ⟨i + 1, rfl, by omega, rfl, rfl⟩, by omega⟩
  exact turn0 ⟨tr_sl, tr_sl, tr_v, trivial⟩
theorem cEqFloatS (xs : List (Option Nat)) (hx : xs.length ≤ 2 ^ 40) (hw : ∀ x ∈ xs, Sg x) : PureC X 59 [.c (.sl false xs.length 1 (flat fe xs)), .c (.sl false xs.length 1 (flat fe xs))] (cB (decide True)) := by
  refine PureC.of_body (drawD_ok X) (fun _ _ => Go.Proofs.Tryz.call59 _ _) Go.Proofs.Tryz.func59 rfl (n := 29) rfl ?_
  refine w_seq ?_
  refine w_reg rfl ?_
  refine v_assign (c := .v (.bool false)) rfl ?_
  refine v_nil ?_
  refine q_n ?_
  refine w_seq ?_
  refine w_seq ?_
  refine w_reg rfl ?_
  refine v_move rfl ?_
  refine v_len_sl lay23 rfl ?_
  refine v_move rfl ?_
  refine v_len_sl lay23 rfl ?_
  refine v_neq lay3 rfl rfl (fun h1 => ?_) (fun h1 => ?_)
  · exact absurd rfl h1
  refine v_nil ?_
  refine q_n ?_
  refine w_f rfl ?_
  refine w_skip ?_
  refine q_n ?_
  refine w_seq ?_
  refine w_seq ?_
  refine w_reg rfl ?_
  refine v_assign (c := .v (.int .i64 0)) rfl ?_
  refine v_nil ?_
  refine q_n ?_
  refine w_block ?_
  refine w_loop (fun k sl H => ∃ i : Nat, k = xs.length - i ∧ i ≤ xs.length ∧ sl = sls [(0, .c (.sl false xs.length 1 (flat fe xs))), (1, .c (.sl false xs.length 1 (flat fe xs))), (5, cI i)] ∧ H = []) ?_ ?_
  · refine ⟨_, _, _, ?_, 0, rfl, Nat.zero_le _, rfl, rfl⟩
    exact turn0 ⟨tr_sl, tr_sl, tr_v, trivial⟩
  rintro k sl H ⟨i, rfl, hi, rfl, rfl⟩
  refine w_seq ?_
  refine w_seq ?_
  refine w_reg rfl ?_
  refine v_move rfl ?_
  refine v_move rfl ?_
  refine v_len_sl lay23 rfl ?_
  refine v_lss lay3 rfl rfl (fun h2 => ?_) (fun h2 => ?_)
  rotate_left
  · refine v_nil ?_
    refine q_n ?_
    refine w_f rfl ?_
    refine w_exit ?_
    refine q_e ?_
    refine q_e ?_
    refine q_hit ?_
    refine q_n ?_
    refine w_seq ?_
    refine w_reg rfl ?_
    refine v_assign (c := .v (.bool true)) rfl ?_
    refine v_nil ?_
    refine q_n ?_
    refine w_ret ?_
    refine r_r rfl ?_
    exact a_b ⟨fun _ => trivial, fun _ => rfl⟩
  have i1 : i < xs.length := by omega
  refine v_nil ?_
  refine q_n ?_
  refine w_t rfl ?_
  refine w_skip ?_
  refine q_n ?_
  refine w_seq ?_
  refine w_block ?_
  refine w_seq ?_
  refine w_draw [0, 0, 3, 7, 15, 0, 0, 96, 224, 480, 1023, 2047] [⟨0, 0, []⟩, ⟨1, 0, []⟩, ⟨2, 0, []⟩, ⟨3, 0, []⟩, ⟨4, 0, []⟩, ⟨5, 0, []⟩, ⟨6, 0, []⟩, ⟨7, 0, []⟩, ⟨8, 0, []⟩, ⟨9, 0, []⟩, ⟨10, 0, []⟩, ⟨11, 0, []⟩] rfl rfl ?_
  refine d_q rfl rfl rfl rfl rfl ?_
  refine v_move rfl ?_
  refine v_nil ?_
  refine d_q rfl rfl rfl rfl rfl ?_
  refine v_move rfl ?_
  refine v_nil ?_
  refine d_q rfl rfl rfl rfl rfl ?_
  refine v_idx_e (k := 1) (i) fe_len lay23 lay26 rfl rfl rfl (rfl) rfl (rfl) (i1) ?_
  refine v_nil ?_
  refine d_q rfl rfl rfl rfl rfl ?_
  refine v_load_vw (.c (.f _ _)) lay26 rfl rfl rfl ?_
  refine v_nil ?_
  refine d_q rfl rfl rfl rfl rfl ?_
  refine v_conv_ff _ lay26 lay42 rfl (convF_single (hw _ (List.getElem_mem i1)).1) ?_
  refine v_nil ?_
  refine d_q rfl rfl rfl rfl rfl ?_
  refine v_move rfl ?_
  refine v_nil ?_
  refine d_q rfl rfl rfl rfl rfl ?_
  refine v_move rfl ?_
  refine v_nil ?_
  refine d_q rfl rfl rfl rfl rfl ?_
  refine v_idx_e (k := 1) (i) fe_len lay23 lay26 rfl rfl rfl (rfl) rfl (rfl) (i1) ?_
  refine v_nil ?_
  refine d_q rfl rfl rfl rfl rfl ?_
  refine v_load_vw (.c (.f _ _)) lay26 rfl rfl rfl ?_
  refine v_nil ?_
  refine d_q rfl rfl rfl rfl rfl ?_
  refine v_conv_ff _ lay26 lay42 rfl (convF_single (hw _ (List.getElem_mem i1)).1) ?_
  refine v_nil ?_
  refine d_callb (cSF _ (wide_ok (hw _ (List.getElem_mem i1)).1)) rfl rfl rfl rfl (.cons vw_f (.cons vw_f .nil)) (fun h5 => ?_) (fun h5 => ?_)
  rotate_left
  · exact absurd trivial h5
  refine d_q rfl rfl rfl rfl rfl ?_
  refine v_not false rfl rfl ?_
  refine v_nil ?_
  refine d_nil ?_
  refine q_n ?_
  refine w_f rfl ?_
  refine w_skip ?_
  refine q_bn ?_
  refine q_n ?_
  refine w_reg rfl ?_
  refine v_move rfl ?_
  refine v_add lay3 rfl rfl (i64r (by omega)) ?_
  refine v_assign rfl ?_
  refine v_nil ?_
  refine q_n ?_
  refine ⟨_, _, _, ?_, ⟨i + 1, rfl, by omega, rfl, rfl⟩, by omega⟩
  exact turn0 ⟨tr_sl, tr_sl, tr_v, trivial⟩
theorem cSzRoadS (xs : List Rd) (l : Int) (hl : 0 ≤ l ∧ l ≤ 2 ^ 20) (hx : xs.length ≤ maxLen) : PureC X 39 [.c (.sl false xs.length 19 (flat rdc xs)), cI l] (cI (szr xs.length l)) := by
  refine PureC.of_body (drawD_ok X) (fun _ _ => Go.Proofs.Tryz.call39 _ _) Go.Proofs.Tryz.func39 rfl (n := 12) rfl ?_
  refine w_seq ?_
  refine w_reg rfl ?_
  refine v_assign (c := .v (.int .i64 0)) rfl ?_
  refine v_nil ?_
  refine q_n ?_
  refine w_seq ?_
  refine w_reg rfl ?_
  refine v_move rfl ?_
  refine v_move rfl ?_
  refine v_len_sl lay22 rfl ?_
  refine v_sub lay3 rfl rfl (i64r (by unfold maxLen at hx; omega)) ?_
  refine v_assign rfl ?_
  refine v_nil ?_
  refine q_n ?_
  refine w_seq ?_
  refine w_seq ?_
  refine w_reg rfl ?_
  refine v_move rfl ?_
  refine v_lss lay3 rfl rfl (fun h1 => ?_) (fun h1 => ?_)
  · refine v_nil ?_
    refine q_n ?_
    refine w_t rfl ?_
    refine w_seq ?_
    refine w_reg rfl ?_
    refine v_assign (c := .v (.int .i64 (-1))) rfl ?_
    refine v_nil ?_
    refine q_n ?_
    refine w_ret (q_r ?_)
    refine r_r rfl ?_
    exact a_i (by unfold szr; rw [if_pos h1])
  refine v_nil ?_
  refine q_n ?_
  refine w_f rfl ?_
  refine w_skip ?_
  refine q_n ?_
  refine w_seq ?_
  refine w_reg rfl ?_
  refine v_move rfl ?_
  refine v_assign rfl ?_
  refine v_nil ?_
  refine q_n ?_
  refine w_ret ?_
  refine r_r rfl ?_
  exact a_i (by unfold szr; rw [if_neg h1])
theorem cSzFloatS (xs : List (Option Nat)) (l : Int) (hl : 0 ≤ l ∧ l ≤ 2 ^ 20) (hx : xs.length ≤ maxLen) : PureC X 40 [.c (.sl false xs.length 1 (flat fe xs)), cI l] (cI (szr xs.length l)) := by
  refine PureC.of_body (drawD_ok X) (fun _ _ => Go.Proofs.Tryz.call40 _ _) Go.Proofs.Tryz.func40 rfl (n := 12) rfl ?_
  refine w_seq ?_
  refine w_reg rfl ?_
  refine v_assign (c := .v (.int .i64 0)) rfl ?_
  refine v_nil ?_
  refine q_n ?_
  refine w_seq ?_
  refine w_reg rfl ?_
  refine v_move rfl ?_
  refine v_move rfl ?_
  refine v_len_sl lay23 rfl ?_
  refine v_sub lay3 rfl rfl (i64r (by unfold maxLen at hx; omega)) ?_
  refine v_assign rfl ?_
  refine v_nil ?_
  refine q_n ?_
  refine w_seq ?_
  refine w_seq ?_
  refine w_reg rfl ?_
  refine v_move rfl ?_
  refine v_lss lay3 rfl rfl (fun h1 => ?_) (fun h1 => ?_)
  · refine v_nil ?_
    refine q_n ?_
    refine w_t rfl ?_
    refine w_seq ?_
    refine w_reg rfl ?_
    refine v_assign (c := .v (.int .i64 (-1))) rfl ?_
    refine v_nil ?_
    refine q_n ?_
    refine w_ret (q_r ?_)
    refine r_r rfl ?_
    exact a_i (by unfold szr; rw [if_pos h1])
  refine v_nil ?_
  refine q_n ?_
  refine w_f rfl ?_
  refine w_skip ?_
  refine q_n ?_
  refine w_seq ?_
  refine w_reg rfl ?_
  refine v_move rfl ?_
  refine v_assign rfl ?_
  refine v_nil ?_
  refine q_n ?_
  refine w_ret ?_
  refine r_r rfl ?_
  exact a_i (by unfold szr; rw [if_neg h1])
theorem cSzIntS (xs : List Int) (l : Int) (hl : 0 ≤ l ∧ l ≤ 2 ^ 20) (hx : xs.length ≤ maxLen) : PureC X 162 [.c (.sl false xs.length 1 (flat int xs)), cI l] (cI (szr xs.length l)) := by
  refine PureC.of_body (drawD_ok X) (fun _ _ => Go.Proofs.Tryz.call162 _ _) Go.Proofs.Tryz.func162 rfl (n := 12) rfl ?_
  refine w_seq ?_
  refine w_reg rfl ?_
  refine v_assign (c := .v (.int .i64 0)) rfl ?_
  refine v_nil ?_
  refine q_n ?_
  refine w_seq ?_
  refine w_reg rfl ?_
  refine v_move rfl ?_
  refine v_move rfl ?_
  refine v_len_sl lay54 rfl ?_
  refine v_sub lay3 rfl rfl (i64r (by unfold maxLen at hx; omega)) ?_
  refine v_assign rfl ?_
  refine v_nil ?_
  refine q_n ?_
  refine w_seq ?_
  refine w_seq ?_
  refine w_reg rfl ?_
  refine v_move rfl ?_
  refine v_lss lay3 rfl rfl (fun h1 => ?_) (fun h1 => ?_)
  · refine v_nil ?_
    refine q_n ?_
    refine w_t rfl ?_
    refine w_seq ?_
    refine w_reg rfl ?_
    refine v_assign (c := .v (.int .i64 (-1))) rfl ?_
    refine v_nil ?_
    refine q_n ?_
    refine w_ret (q_r ?_)
    refine r_r rfl ?_
    exact a_i (by unfold szr; rw [if_pos h1])
  refine v_nil ?_
  refine q_n ?_
  refine w_f rfl ?_
  refine w_skip ?_
  refine q_n ?_
  refine w_seq ?_
  refine w_reg rfl ?_
  refine v_move rfl ?_
  refine v_assign rfl ?_
  refine v_nil ?_
  refine q_n ?_
  refine w_ret ?_
  refine r_r rfl ?_
  exact a_i (by unfold szr; rw [if_neg h1])
theorem cSzSlotS (xs : List Slo) (l : Int) (hl : 0 ≤ l ∧ l ≤ 2 ^ 20) (hx : xs.length ≤ maxLen) : PureC X 163 [.c (.sl false xs.length 9 (flat stc xs)), cI l] (cI (szr xs.length l)) := by
  refine PureC.of_body (drawD_ok X) (fun _ _ => Go.Proofs.Tryz.call163 _ _) Go.Proofs.Tryz.func163 rfl (n := 12) rfl ?_
  refine w_seq ?_
  refine w_reg rfl ?_
  refine v_assign (c := .v (.int .i64 0)) rfl ?_
  refine v_nil ?_
  refine q_n ?_
  refine w_seq ?_
  refine w_reg rfl ?_
  refine v_move rfl ?_
  refine v_move rfl ?_
  refine v_len_sl lay144 rfl ?_
  refine v_sub lay3 rfl rfl (i64r (by unfold maxLen at hx; omega)) ?_
  refine v_assign rfl ?_
  refine v_nil ?_
  refine q_n ?_
  refine w_seq ?_
  refine w_seq ?_
  refine w_reg rfl ?_
  refine v_move rfl ?_
  refine v_lss lay3 rfl rfl (fun h1 => ?_) (fun h1 => ?_)
  · refine v_nil ?_
    refine q_n ?_
    refine w_t rfl ?_
    refine w_seq ?_
    refine w_reg rfl ?_
    refine v_assign (c := .v (.int .i64 (-1))) rfl ?_
    refine v_nil ?_
    refine q_n ?_
    refine w_ret (q_r ?_)
    refine r_r rfl ?_
    exact a_i (by unfold szr; rw [if_pos h1])
  refine v_nil ?_
  refine q_n ?_
  refine w_f rfl ?_
  refine w_skip ?_
  refine q_n ?_
  refine w_seq ?_
  refine w_reg rfl ?_
  refine v_move rfl ?_
  refine v_assign rfl ?_
  refine v_nil ?_
  refine q_n ?_
  refine w_ret ?_
  refine r_r rfl ?_
  exact a_i (by unfold szr; rw [if_neg h1])
theorem cToPhase (g : Ph) : PureC X 232 [.agg (phc g)] (.agg (phc g)) := by
  refine PureC.of_body (drawD_ok X) (fun _ _ => Go.Proofs.Tryz.call232 _ _) Go.Proofs.Tryz.func232 rfl (n := 15) rfl ?_
  refine w_seq ?_
  refine w_reg rfl ?_
  refine v_box (m := 0) (H' := [_]) lay62 rfl rfl rfl ?_
  refine v_alloc (m := 1) (H' := [_, ⟨[.v _, .v _, .v _, .v _, .v _, .v _, .v _, .v _], 63, true⟩]) lay63 rfl rfl ?_
  refine v_nil ?_
  refine q_n ?_
  refine w_seq ?_
  refine w_reg rfl ?_
  refine v_alloc (m := 2) (H' := [_, _, ⟨[.v _, .v _, .v _, .v _, .v _, .v _, .v _, .v _], 63, true⟩]) lay63 rfl rfl ?_
  refine v_nil ?_
  refine q_n ?_
  refine w_seq ?_
  refine w_seq ?_
  refine w_reg rfl ?_
  refine v_assign (c := .v (.int .i64 0)) rfl ?_
  refine v_nil ?_
  refine q_n ?_
  refine w_block ?_
  refine w_loop (fun k sl H => ∃ i : Nat, k = 8 - i ∧ i ≤ 8 ∧ sl = sls [(1, .c (.pt 0 0)), (2, .c (.pt 1 0)), (3, .c (.pt 2 0)), (4, cI i)] ∧ H = [⟨flat bo (pl g), 62, true⟩, ⟨flat bo (pl zg), 63, true⟩, ⟨flat bo (pl (mixG i g zg)), 63, true⟩]) ?_ ?_
  · refine ⟨_, _, _, ?_, 0, rfl, Nat.zero_le _, rfl, rfl⟩
    exact turn [some 0, some 1, some 2] rfl rfl rfl ⟨⟨_, rfl, trc_flat bo_sc rfl⟩, ⟨_, rfl, trc_flat bo_sc rfl⟩, ⟨_, rfl, trc_flat bo_sc (by rw [mix_0]; rfl)⟩, trivial⟩ ⟨tr_pt rfl, tr_pt rfl, tr_pt rfl, tr_v, trivial⟩
  rintro k sl H ⟨i, rfl, hi, rfl, rfl⟩
  refine w_seq ?_
  refine w_seq ?_
  refine w_reg rfl ?_
  refine v_move rfl ?_
  refine v_lss lay3 rfl rfl (fun h1 => ?_) (fun h1 => ?_)
  rotate_left
  · refine v_nil ?_
    refine q_n ?_
    refine w_f rfl ?_
    refine w_exit ?_
    refine q_e ?_
    refine q_e ?_
    refine q_hit ?_
    refine q_n ?_
    refine w_seq ?_
    refine w_reg rfl ?_
    refine v_load_pt (.agg [_, _, _, _, _, _, _, _]) lay63 rfl rfl rfl rfl ?_
    refine v_store (H' := [_, ⟨[_, _, _, _, _, _, _, _], 63, true⟩, _]) lay63 rfl rfl rfl rfl rfl rfl ?_
    refine v_nil ?_
    refine q_n ?_
    refine w_ret ?_
    refine r_r rfl ?_
    obtain rfl : i = 8 := by omega
    exact a_agg (.cons tr_v (.cons tr_v (.cons tr_v (.cons tr_v (.cons tr_v (.cons tr_v (.cons tr_v (.cons tr_v .nil))))))))
  have hi1 : i < 8 := by omega
  refine v_nil ?_
  refine q_n ?_
  refine w_t rfl ?_
  refine w_skip ?_
  refine q_n ?_
  refine w_seq ?_
  refine w_block ?_
  refine w_reg rfl ?_
  refine v_move rfl ?_
  refine v_move rfl ?_
  refine v_idx_arr_e (k := 1) (i) lay62 lay4 rfl rfl rfl (rfl) (hi1) ?_
  refine v_load_flat_e (enc := bo) (ys := pl g) i 0 (.c (.v (.bool (g ⟨i, hi1⟩)))) bo_len lay4 rfl rfl (by omega) hi1 (by decide) (pl_ld g hi1 _) ?_
  refine v_idx_arr_e (k := 1) (i) lay63 lay4 rfl rfl rfl (rfl) (hi1) ?_
  refine v_store_flat (H' := [_, _, _]) i 0 (g ⟨i, hi1⟩) bo_len lay4 rfl rfl rfl (by omega) (by rw [pl_len]; exact hi1) rfl rfl (rfl) rfl ?_
  refine v_nil ?_
  refine q_bn ?_
  refine q_n ?_
  refine w_reg rfl ?_
  refine v_move rfl ?_
  refine v_add lay3 rfl rfl (i64r (by omega)) ?_
  refine v_assign rfl ?_
  refine v_nil ?_
  refine q_n ?_
  refine ⟨_, _, _, ?_, ⟨i + 1, rfl, by omega, rfl, rfl⟩, by omega⟩
  exact turn [some 0, some 1, some 2] rfl rfl rfl ⟨⟨_, rfl, trc_flat bo_sc rfl⟩, ⟨_, rfl, trc_flat bo_sc rfl⟩, ⟨_, rfl, trc_flat bo_sc (congrArg (flat bo) ((pl_set _ hi1 _).trans (congrArg pl (mix_put _ _ hi1))))⟩, trivial⟩ ⟨tr_pt rfl, tr_pt rfl, tr_pt rfl, tr_v, trivial⟩
theorem cToSlot (s : Slo) : PureC X 214 [.agg (stc s)] (.agg (stc s)) := by
  refine PureC.of_body (drawD_ok X) (fun _ _ => Go.Proofs.Tryz.call214 _ _) Go.Proofs.Tryz.func214 rfl (n := 12) rfl ?_
  refine w_seq ?_
  refine w_reg rfl ?_
  refine v_box (m := 0) (H' := [_]) lay252 rfl rfl rfl ?_
  refine v_alloc (m := 1) (H' := [_, ⟨[.v _, .v _, .v _, .v _, .v _, .v _, .v _, .v _, .v _], 170, true⟩]) lay170 rfl rfl ?_
  refine v_nil ?_
  refine q_n ?_
  refine w_seq ?_
  refine w_reg rfl ?_
  refine v_alloc (m := 2) (H' := [_, _, ⟨[.v _, .v _, .v _, .v _, .v _, .v _, .v _, .v _, .v _], 170, true⟩]) lay170 rfl rfl ?_
  refine v_nil ?_
  refine q_n ?_
  refine w_seq ?_
  refine w_reg rfl ?_
  refine v_fa_pt (off' := 0) lay252 rfl rfl rfl ?_
  refine v_load_pt (.agg [_, _, _, _, _, _, _, _]) lay62 rfl rfl rfl rfl ?_
  refine v_call (cToPhase _) rfl rfl rfl (.cons (vw_agg (.cons vw_v (.cons vw_v (.cons vw_v (.cons vw_v (.cons vw_v (.cons vw_v (.cons vw_v (.cons vw_v .nil))))))))) .nil) ?_
  refine v_fa_pt (off' := 0) lay170 rfl rfl rfl ?_
  refine v_store (H' := [_, _, ⟨[_, _, _, _, _, _, _, _, _], 170, true⟩]) lay63 rfl rfl rfl rfl rfl rfl ?_
  refine v_nil ?_
  refine q_n ?_
  refine w_seq ?_
  refine w_reg rfl ?_
  refine v_fa_pt (off' := 8) lay252 rfl rfl rfl ?_
  refine v_load_pt (.c _) lay2 rfl rfl rfl rfl ?_
  refine v_fa_pt (off' := 8) lay170 rfl rfl rfl ?_
  refine v_store (H' := [_, _, ⟨[_, _, _, _, _, _, _, _, _], 170, true⟩]) lay2 rfl rfl rfl rfl rfl rfl ?_
  refine v_nil ?_
  refine q_n ?_
  refine w_seq ?_
  refine w_reg rfl ?_
  refine v_load_pt (.agg [_, _, _, _, _, _, _, _, _]) lay170 rfl rfl rfl rfl ?_
  refine v_store (H' := [_, ⟨[_, _, _, _, _, _, _, _, _], 170, true⟩, _]) lay170 rfl rfl rfl rfl rfl rfl ?_
  refine v_nil ?_
  refine q_n ?_
  refine w_ret ?_
  refine r_r rfl ?_
  exact a_agg (.cons tr_v (.cons tr_v (.cons tr_v (.cons tr_v (.cons tr_v (.cons tr_v (.cons tr_v (.cons tr_v (.cons tr_v .nil)))))))))
theorem cToSlotS (xs : List Slo) (hx : xs.length ≤ 2 ^ 40) : PureC X 172 [.c (.sl false xs.length 9 (flat stc xs))] (.c (.sl true xs.length 9 (flat stc xs))) := by
  refine PureC.of_body (drawD_ok X) (fun _ _ => Go.Proofs.Tryz.call172 _ _) Go.Proofs.Tryz.func172 rfl (n := 23) rfl ?_
  refine w_seq ?_
  refine w_reg rfl ?_
  refine v_assign rfl ?_
  refine v_nil ?_
  refine q_n ?_
  refine w_seq ?_
  refine w_reg rfl ?_
  refine v_move rfl ?_
  refine v_len_sl lay144 rfl ?_
  refine v_make (enc := stc) (a0 := zS) (m := 0) (H' := [_]) rfl lay66 lay170 rfl rfl rfl rfl (xs.length) (rfl) (by unfold maxLen; simp only []; omega) rfl rfl ?_
  refine v_assign rfl ?_
  refine v_nil ?_
  refine q_n ?_
  refine w_seq ?_
  refine w_seq ?_
  refine w_reg rfl ?_
  refine v_assign (c := .v (.int .i64 0)) rfl ?_
  refine v_nil ?_
  refine q_n ?_
  refine w_block ?_
  refine w_loop (fun k sl H => ∃ i : Nat, k = xs.length - i ∧ i ≤ xs.length ∧ sl = sls [(0, .c (.sl false xs.length 9 (flat stc xs))), (3, .c (.mu 0 0 xs.length 9)), (4, cI i)] ∧ H = [⟨flat stc (xs.take i ++ List.replicate (xs.length - i) zS), 170, true⟩]) ?_ ?_
  · refine ⟨_, _, _, ?_, 0, rfl, Nat.zero_le _, rfl, rfl⟩
    exact turn [some 0] rfl rfl rfl ⟨⟨_, rfl, .stay (stays_flat stc_sc _)⟩, trivial⟩ ⟨tr_sl, tr_mu rfl, tr_v, trivial⟩
  rintro k sl H ⟨i, rfl, hi, rfl, rfl⟩
  refine w_seq ?_
  refine w_seq ?_
  refine w_reg rfl ?_
  refine v_move rfl ?_
  refine v_move rfl ?_
  refine v_len_sl lay144 rfl ?_
  refine v_lss lay3 rfl rfl (fun h1 => ?_) (fun h1 => ?_)
  rotate_left
  · refine v_nil ?_
    refine q_n ?_
    refine w_f rfl ?_
    refine w_exit ?_
    refine q_e ?_
    refine q_e ?_
    refine q_hit ?_
    refine q_n ?_
    refine w_seq ?_
    refine w_reg rfl ?_
    refine v_move rfl ?_
    refine v_assign rfl ?_
    refine v_nil ?_
    refine q_n ?_
    refine w_ret ?_
    refine r_r rfl ?_
    obtain rfl : i = xs.length := by omega
    exact a_flat (t := 170) stc_sc stc_len (by simp) rfl
  have hi1 : i < xs.length := by omega
  refine v_nil ?_
  refine q_n ?_
  refine w_t rfl ?_
  refine w_skip ?_
  refine q_n ?_
  refine w_seq ?_
  refine w_block ?_
  refine w_reg rfl ?_
  refine v_move rfl ?_
  refine v_move rfl ?_
  refine v_move rfl ?_
  refine v_move rfl ?_
  refine v_idx_e (k := 9) (i) stc_len lay144 lay252 rfl rfl rfl (rfl) rfl (rfl) ((by omega : i < xs.length)) ?_
  refine v_load_vw (.agg [.v _, .v _, .v _, .v _, .v _, .v _, .v _, .v _, .v _]) lay252 rfl rfl rfl ?_
  refine v_call (cToSlot _) rfl rfl rfl (.cons (vw_agg (.cons vw_v (.cons vw_v (.cons vw_v (.cons vw_v (.cons vw_v (.cons vw_v (.cons vw_v (.cons vw_v (.cons vw_v .nil)))))))))) .nil) ?_
  refine v_idx_mu_e (k := 9) (off := 0) (i) lay66 lay170 rfl rfl rfl (rfl) ((by omega : i < xs.length)) ?_
  refine v_store_flat (H' := [_]) i 0 (xs[i]) stc_len lay170 rfl rfl rfl (by omega) (by simp; omega) rfl rfl (rfl) rfl ?_
  refine v_nil ?_
  refine q_bn ?_
  refine q_n ?_
  refine w_reg rfl ?_
  refine v_move rfl ?_
  refine v_add lay3 rfl rfl (i64r (by omega)) ?_
  refine v_assign rfl ?_
  refine v_nil ?_
  refine q_n ?_
  refine ⟨_, _, _, ?_, ⟨i + 1, rfl, by omega, rfl, rfl⟩, by omega⟩
  exact turn [some 0] rfl rfl rfl ⟨⟨_, rfl, by rw [fill_step hi1]; exact .stay (stays_flat stc_sc _)⟩, trivial⟩ ⟨tr_sl, tr_mu rfl, tr_v, trivial⟩
theorem cToPlan (xs : List Slo) (b f : Int) (hx : xs.length ≤ 2 ^ 40) : PureC X 106 [.agg (pln false xs b f)] (.agg (pln true xs b f)) := by
  refine PureC.of_body (drawD_ok X) (fun _ _ => Go.Proofs.Tryz.call106 _ _) Go.Proofs.Tryz.func106 rfl (n := 15) rfl ?_
  refine w_seq ?_
  refine w_reg rfl ?_
  refine v_box (m := 0) (H' := [_]) lay146 rfl rfl rfl ?_
  refine v_alloc (m := 1) (H' := [_, ⟨[.v _, .v _, .v _], 68, true⟩]) lay68 rfl rfl ?_
  refine v_nil ?_
  refine q_n ?_
  refine w_seq ?_
  refine w_reg rfl ?_
  refine v_alloc (m := 2) (H' := [_, _, ⟨[.v _, .v _, .v _], 68, true⟩]) lay68 rfl rfl ?_
  refine v_nil ?_
  refine q_n ?_
  refine w_seq ?_
  refine w_reg rfl ?_
  refine v_fa_pt (off' := 0) lay146 rfl rfl rfl ?_
  refine v_load_pt (.c _) lay144 rfl rfl rfl rfl ?_
  refine v_call (cToSlotS _ (by omega)) rfl rfl rfl (.cons vw_sl .nil) ?_
  refine v_fa_pt (off' := 0) lay68 rfl rfl rfl ?_
  refine v_store (H' := [_, _, ⟨[_, _, _], 68, true⟩]) lay66 rfl rfl rfl rfl rfl rfl ?_
  refine v_nil ?_
  refine q_n ?_
  refine w_seq ?_
  refine w_reg rfl ?_
  refine v_fa_pt (off' := 1) lay146 rfl rfl rfl ?_
  refine v_load_pt (.c _) lay2 rfl rfl rfl rfl ?_
  refine v_fa_pt (off' := 1) lay68 rfl rfl rfl ?_
  refine v_store (H' := [_, _, ⟨[_, _, _], 68, true⟩]) lay2 rfl rfl rfl rfl rfl rfl ?_
  refine v_nil ?_
  refine q_n ?_
  refine w_seq ?_
  refine w_reg rfl ?_
  refine v_fa_pt (off' := 2) lay146 rfl rfl rfl ?_
  refine v_load_pt (.c _) lay2 rfl rfl rfl rfl ?_
  refine v_fa_pt (off' := 2) lay68 rfl rfl rfl ?_
  refine v_store (H' := [_, _, ⟨[_, _, _], 68, true⟩]) lay2 rfl rfl rfl rfl rfl rfl ?_
  refine v_nil ?_
  refine q_n ?_
  refine w_seq ?_
  refine w_reg rfl ?_
  refine v_load_pt (.agg [_, _, _]) lay68 rfl rfl rfl rfl ?_
  refine v_store (H' := [_, ⟨[_, _, _], 68, true⟩, _]) lay68 rfl rfl rfl rfl rfl rfl ?_
  refine v_nil ?_
  refine q_n ?_
  refine w_ret ?_
  refine r_r rfl ?_
  exact a_agg (.cons tr_sl (.cons tr_v (.cons tr_v .nil)))
theorem cSzPlan (xs : List Slo) (b f : Int) (l : Int) (hl : 0 ≤ l ∧ l ≤ 2 ^ 20) (hx : xs.length ≤ maxLen) : PureC X 99 [.agg (pln false xs b f), cI l] (cI (szr xs.length l)) := by
  refine PureC.of_body (drawD_ok X) (fun _ _ => Go.Proofs.Tryz.call99 _ _) Go.Proofs.Tryz.func99 rfl (n := 12) rfl ?_
  refine w_seq ?_
  refine w_reg rfl ?_
  refine v_box (m := 0) (H' := [_]) lay146 rfl rfl rfl ?_
  refine v_assign (c := .v (.int .i64 0)) rfl ?_
  refine v_nil ?_
  refine q_n ?_
  refine w_seq ?_
  refine w_reg rfl ?_
  refine v_fa_pt (off' := 0) lay146 rfl rfl rfl ?_
  refine v_load_pt (.c _) lay144 rfl rfl rfl rfl ?_
  refine v_move rfl ?_
  refine v_call (cSzSlotS _ _ (by omega) (by assumption)) rfl rfl rfl (.cons vw_sl (.cons vw_v .nil)) ?_
  refine v_assign rfl ?_
  refine v_nil ?_
  refine q_n ?_
  refine w_seq ?_
  refine w_seq ?_
  refine w_reg rfl ?_
  refine v_move rfl ?_
  refine v_lss lay3 rfl rfl (fun h1 => ?_) (fun h1 => ?_)
  rotate_left
  · refine v_nil ?_
    refine q_n ?_
    refine w_f rfl ?_
    refine w_skip ?_
    refine q_n ?_
    refine w_seq ?_
    refine w_reg rfl ?_
    refine v_move rfl ?_
    refine v_assign rfl ?_
    refine v_nil ?_
    refine q_n ?_
    refine w_ret ?_
    refine r_r rfl ?_
    exact a_i rfl
  refine v_nil ?_
  refine q_n ?_
  refine w_t rfl ?_
  refine w_seq ?_
  refine w_reg rfl ?_
  refine v_assign (c := .v (.int .i64 (-1))) rfl ?_
  refine v_nil ?_
  refine q_n ?_
  refine w_ret (q_r ?_)
  refine r_r rfl ?_
  exact a_i (by unfold szr at *; split at h1 <;> omega)
theorem cEqPhase (g : Ph) : PureC X 233 [.agg (phc g), .agg (phc g)] (cB (decide True)) := by
  refine PureC.of_body (drawD_ok X) (fun _ _ => Go.Proofs.Tryz.call233 _ _) Go.Proofs.Tryz.func233 rfl (n := 17) rfl ?_
  refine w_seq ?_
  refine w_reg rfl ?_
  refine v_box (m := 0) (H' := [_]) lay63 rfl rfl rfl ?_
  refine v_box (m := 1) (H' := [_, _]) lay63 rfl rfl rfl ?_
  refine v_assign (c := .v (.bool false)) rfl ?_
  refine v_nil ?_
  refine q_n ?_
  refine w_seq ?_
  refine w_seq ?_
  refine w_reg rfl ?_
  refine v_assign (c := .v (.int .i64 0)) rfl ?_
  refine v_nil ?_
  refine q_n ?_
  refine w_block ?_
  refine w_loop (fun k sl H => ∃ i : Nat, k = 8 - i ∧ i ≤ 8 ∧ sl = sls [(2, .c (.pt 0 0)), (3, .c (.pt 1 0)), (5, cI i)] ∧ H = [⟨flat bo (pl g), 63, true⟩, ⟨flat bo (pl g), 63, true⟩]) ?_ ?_
  · refine ⟨_, _, _, ?_, 0, rfl, Nat.zero_le _, rfl, rfl⟩
    exact turn [some 0, some 1] rfl rfl rfl ⟨⟨_, rfl, trc_flat bo_sc rfl⟩, ⟨_, rfl, trc_flat bo_sc rfl⟩, trivial⟩ ⟨tr_pt rfl, tr_pt rfl, tr_v, trivial⟩
  rintro k sl H ⟨i, rfl, hi, rfl, rfl⟩
  refine w_seq ?_
  refine w_seq ?_
  refine w_reg rfl ?_
  refine v_move rfl ?_
  refine v_lss lay3 rfl rfl (fun h1 => ?_) (fun h1 => ?_)
  rotate_left
  · refine v_nil ?_
    refine q_n ?_
    refine w_f rfl ?_
    refine w_exit ?_
    refine q_e ?_
    refine q_e ?_
    refine q_hit ?_
    refine q_n ?_
    refine w_seq ?_
    refine w_reg rfl ?_
    refine v_assign (c := .v (.bool true)) rfl ?_
    refine v_nil ?_
    refine q_n ?_
    refine w_ret ?_
    refine r_r rfl ?_
    exact a_b ⟨fun _ => trivial, fun _ => rfl⟩
  have hi1 : i < 8 := by omega
  refine v_nil ?_
  refine q_n ?_
  refine w_t rfl ?_
  refine w_skip ?_
  refine q_n ?_
  refine w_seq ?_
  refine w_block ?_
  refine w_seq ?_
  refine w_draw [0, 1, 3, 0, 8, 24, 63] [⟨0, 0, []⟩, ⟨1, 0, []⟩, ⟨2, 0, []⟩, ⟨3, 0, []⟩, ⟨4, 0, []⟩, ⟨5, 0, []⟩, ⟨6, 0, []⟩] rfl rfl ?_
  refine d_q rfl rfl rfl rfl rfl ?_
  refine v_move rfl ?_
  refine v_nil ?_
  refine d_q rfl rfl rfl rfl rfl ?_
  refine v_idx_arr_e (k := 1) (i) lay63 lay4 rfl rfl rfl (rfl) (hi1) ?_
  refine v_nil ?_
  refine d_q rfl rfl rfl rfl rfl ?_
  refine v_load_flat_e (enc := bo) (ys := pl g) i 0 (.c (.v (.bool (g ⟨i, hi1⟩)))) bo_len lay4 rfl rfl (by omega) hi1 (by decide) (pl_ld g hi1 _) ?_
  refine v_nil ?_
  refine d_q rfl rfl rfl rfl rfl ?_
  refine v_move rfl ?_
  refine v_nil ?_
  refine d_q rfl rfl rfl rfl rfl ?_
  refine v_idx_arr_e (k := 1) (i) lay63 lay4 rfl rfl rfl (rfl) (hi1) ?_
  refine v_nil ?_
  refine d_q rfl rfl rfl rfl rfl ?_
  refine v_load_flat_e (enc := bo) (ys := pl g) i 0 (.c (.v (.bool (g ⟨i, hi1⟩)))) bo_len lay4 rfl rfl (by omega) hi1 (by decide) (pl_ld g hi1 _) ?_
  refine v_nil ?_
  refine d_q rfl rfl rfl rfl rfl ?_
  refine v_binb lay4 rfl rfl rfl (fun h2 => ?_) (fun h2 => ?_)
  · exact absurd h2 (by simp)
  refine v_nil ?_
  refine d_nil ?_
  refine q_n ?_
  refine w_f rfl ?_
  refine w_skip ?_
  refine q_bn ?_
  refine q_n ?_
  refine w_reg rfl ?_
  refine v_move rfl ?_
  refine v_add lay3 rfl rfl (i64r (by omega)) ?_
  refine v_assign rfl ?_
  refine v_nil ?_
  refine q_n ?_
  refine ⟨_, _, _, ?_, ⟨i + 1, rfl, by omega, rfl, rfl⟩, by omega⟩
  exact turn [some 0, some 1] rfl rfl rfl ⟨⟨_, rfl, trc_flat bo_sc rfl⟩, ⟨_, rfl, trc_flat bo_sc rfl⟩, trivial⟩ ⟨tr_pt rfl, tr_pt rfl, tr_v, trivial⟩
theorem cEqSlot (a : Slo) : PureC X 216 [.agg (stc a), .agg (stc a)] (cB (decide True)) := by
  refine PureC.of_body (drawD_ok X) (fun _ _ => Go.Proofs.Tryz.call216 _ _) Go.Proofs.Tryz.func216 rfl (n := 16) rfl ?_
  refine w_seq ?_
  refine w_reg rfl ?_
  refine v_box (m := 0) (H' := [_]) lay170 rfl rfl rfl ?_
  refine v_box (m := 1) (H' := [_, _]) lay170 rfl rfl rfl ?_
  refine v_assign (c := .v (.bool false)) rfl ?_
  refine v_nil ?_
  refine q_n ?_
  refine w_seq ?_
  refine w_seq ?_
  refine w_reg rfl ?_
  refine v_fa_pt (off' := 0) lay170 rfl rfl rfl ?_
  refine v_load_pt (.agg [_, _, _, _, _, _, _, _]) lay63 rfl rfl rfl rfl ?_
  refine v_fa_pt (off' := 0) lay170 rfl rfl rfl ?_
  refine v_load_pt (.agg [_, _, _, _, _, _, _, _]) lay63 rfl rfl rfl rfl ?_
  refine v_callb (cEqPhase _) rfl rfl (.cons (vw_agg (.cons vw_v (.cons vw_v (.cons vw_v (.cons vw_v (.cons vw_v (.cons vw_v (.cons vw_v (.cons vw_v .nil))))))))) (.cons (vw_agg (.cons vw_v (.cons vw_v (.cons vw_v (.cons vw_v (.cons vw_v (.cons vw_v (.cons vw_v (.cons vw_v .nil))))))))) .nil)) (fun h1 => ?_) (fun h1 => ?_)
  rotate_left
  · exact absurd trivial h1
  refine v_not false rfl rfl ?_
  refine v_nil ?_
  refine q_n ?_
  refine w_f rfl ?_
  refine w_skip ?_
  refine q_n ?_
  refine w_seq ?_
  refine w_seq ?_
  refine w_reg rfl ?_
  refine v_fa_pt (off' := 8) lay170 rfl rfl rfl ?_
  refine v_load_pt (.c _) lay2 rfl rfl rfl rfl ?_
  refine v_fa_pt (off' := 8) lay170 rfl rfl rfl ?_
  refine v_load_pt (.c _) lay2 rfl rfl rfl rfl ?_
  refine v_neq lay2 rfl rfl (fun h2 => ?_) (fun h2 => ?_)
  · exact absurd rfl h2
  refine v_nil ?_
  refine q_n ?_
  refine w_f rfl ?_
  refine w_skip ?_
  refine q_n ?_
  refine w_seq ?_
  refine w_reg rfl ?_
  refine v_assign (c := .v (.bool true)) rfl ?_
  refine v_nil ?_
  refine q_n ?_
  refine w_ret ?_
  refine r_r rfl ?_
  exact a_b ⟨fun _ => trivial, fun _ => rfl⟩
theorem cEqSlotS (xs : List Slo) (hx : xs.length ≤ 2 ^ 40) : PureC X 187 [.c (.sl false xs.length 9 (flat stc xs)), .c (.sl false xs.length 9 (flat stc xs))] (cB (decide True)) := by
  refine PureC.of_body (drawD_ok X) (fun _ _ => Go.Proofs.Tryz.call187 _ _) Go.Proofs.Tryz.func187 rfl (n := 27) rfl ?_
  refine w_seq ?_
  refine w_reg rfl ?_
  refine v_assign (c := .v (.bool false)) rfl ?_
  refine v_nil ?_
  refine q_n ?_
  refine w_seq ?_
  refine w_seq ?_
  refine w_reg rfl ?_
  refine v_move rfl ?_
  refine v_len_sl lay66 rfl ?_
  refine v_move rfl ?_
  refine v_len_sl lay66 rfl ?_
  refine v_neq lay3 rfl rfl (fun h1 => ?_) (fun h1 => ?_)
  · exact absurd rfl h1
  refine v_nil ?_
  refine q_n ?_
  refine w_f rfl ?_
  refine w_skip ?_
  refine q_n ?_
  refine w_seq ?_
  refine w_seq ?_
  refine w_reg rfl ?_
  refine v_assign (c := .v (.int .i64 0)) rfl ?_
  refine v_nil ?_
  refine q_n ?_
  refine w_block ?_
  refine w_loop (fun k sl H => ∃ i : Nat, k = xs.length - i ∧ i ≤ xs.length ∧ sl = sls [(0, .c (.sl false xs.length 9 (flat stc xs))), (1, .c (.sl false xs.length 9 (flat stc xs))), (5, cI i)] ∧ H = []) ?_ ?_
  · refine ⟨_, _, _, ?_, 0, rfl, Nat.zero_le _, rfl, rfl⟩
    exact turn0 ⟨tr_sl, tr_sl, tr_v, trivial⟩
  rintro k sl H ⟨i, rfl, hi, rfl, rfl⟩
  refine w_seq ?_
  refine w_seq ?_
  refine w_reg rfl ?_
  refine v_move rfl ?_
  refine v_move rfl ?_
  refine v_len_sl lay66 rfl ?_
  refine v_lss lay3 rfl rfl (fun h2 => ?_) (fun h2 => ?_)
  rotate_left
  · refine v_nil ?_
    refine q_n ?_
    refine w_f rfl ?_
    refine w_exit ?_
    refine q_e ?_
    refine q_e ?_
    refine q_hit ?_
    refine q_n ?_
    refine w_seq ?_
    refine w_reg rfl ?_
    refine v_assign (c := .v (.bool true)) rfl ?_
    refine v_nil ?_
    refine q_n ?_
    refine w_ret ?_
    refine r_r rfl ?_
    exact a_b ⟨fun _ => trivial, fun _ => rfl⟩
  have i1 : i < xs.length := by omega
  refine v_nil ?_
  refine q_n ?_
  refine w_t rfl ?_
  refine w_skip ?_
  refine q_n ?_
  refine w_seq ?_
  refine w_block ?_
  refine w_seq ?_
  refine w_draw [0, 0, 3, 7, 0, 0, 48, 112, 255, 511] [⟨0, 0, []⟩, ⟨1, 0, []⟩, ⟨2, 0, []⟩, ⟨3, 0, []⟩, ⟨4, 0, []⟩, ⟨5, 0, []⟩, ⟨6, 0, []⟩, ⟨7, 0, []⟩, ⟨8, 0, []⟩, ⟨9, 0, []⟩] rfl rfl ?_
  refine d_q rfl rfl rfl rfl rfl ?_
  refine v_move rfl ?_
  refine v_nil ?_
  refine d_q rfl rfl rfl rfl rfl ?_
  refine v_move rfl ?_
  refine v_nil ?_
  refine d_q rfl rfl rfl rfl rfl ?_
  refine v_idx_e (k := 9) (i) stc_len lay66 lay170 rfl rfl rfl (rfl) rfl (rfl) (i1) ?_
  refine v_nil ?_
  refine d_q rfl rfl rfl rfl rfl ?_
  refine v_load_vw (.agg [.v _, .v _, .v _, .v _, .v _, .v _, .v _, .v _, .v _]) lay170 rfl rfl rfl ?_
  refine v_nil ?_
  refine d_q rfl rfl rfl rfl rfl ?_
  refine v_move rfl ?_
  refine v_nil ?_
  refine d_q rfl rfl rfl rfl rfl ?_
  refine v_move rfl ?_
  refine v_nil ?_
  refine d_q rfl rfl rfl rfl rfl ?_
  refine v_idx_e (k := 9) (i) stc_len lay66 lay170 rfl rfl rfl (rfl) rfl (rfl) (i1) ?_
  refine v_nil ?_
  refine d_q rfl rfl rfl rfl rfl ?_
  refine v_load_vw (.agg [.v _, .v _, .v _, .v _, .v _, .v _, .v _, .v _, .v _]) lay170 rfl rfl rfl ?_
  refine v_nil ?_
  refine d_callb (cEqSlot _) rfl rfl rfl rfl (.cons (vw_agg (.cons vw_v (.cons vw_v (.cons vw_v (.cons vw_v (.cons vw_v (.cons vw_v (.cons vw_v (.cons vw_v (.cons vw_v .nil)))))))))) (.cons (vw_agg (.cons vw_v (.cons vw_v (.cons vw_v (.cons vw_v (.cons vw_v (.cons vw_v (.cons vw_v (.cons vw_v (.cons vw_v .nil)))))))))) .nil)) (fun h5 => ?_) (fun h5 => ?_)
  rotate_left
  · exact absurd trivial h5
  refine d_q rfl rfl rfl rfl rfl ?_
  refine v_not false rfl rfl ?_
  refine v_nil ?_
  refine d_nil ?_
  refine q_n ?_
  refine w_f rfl ?_
  refine w_skip ?_
  refine q_bn ?_
  refine q_n ?_
  refine w_reg rfl ?_
  refine v_move rfl ?_
  refine v_add lay3 rfl rfl (i64r (by omega)) ?_
  refine v_assign rfl ?_
  refine v_nil ?_
  refine q_n ?_
  refine ⟨_, _, _, ?_, ⟨i + 1, rfl, by omega, rfl, rfl⟩, by omega⟩
  exact turn0 ⟨tr_sl, tr_sl, tr_v, trivial⟩
theorem cEqPlan (p : Pln) (hx : p.1.length ≤ 2 ^ 40) : PureC X 126 [.agg (plf p), .agg (plf p)] (cB (decide True)) := by
  refine PureC.of_body (drawD_ok X) (fun _ _ => Go.Proofs.Tryz.call126 _ _) Go.Proofs.Tryz.func126 rfl (n := 21) rfl ?_
  refine w_seq ?_
  refine w_reg rfl ?_
  refine v_box (m := 0) (H' := [_]) lay68 rfl rfl rfl ?_
  refine v_box (m := 1) (H' := [_, _]) lay68 rfl rfl rfl ?_
  refine v_assign (c := .v (.bool false)) rfl ?_
  refine v_nil ?_
  refine q_n ?_
  refine w_seq ?_
  refine w_seq ?_
  refine w_reg rfl ?_
  refine v_fa_pt (off' := 0) lay68 rfl rfl rfl ?_
  refine v_load_pt (.c _) lay66 rfl rfl rfl rfl ?_
  refine v_fa_pt (off' := 0) lay68 rfl rfl rfl ?_
  refine v_load_pt (.c _) lay66 rfl rfl rfl rfl ?_
  refine v_callb (cEqSlotS _ (by omega)) rfl rfl (.cons vw_sl (.cons vw_sl .nil)) (fun h1 => ?_) (fun h1 => ?_)
  rotate_left
  · exact absurd trivial h1
  refine v_not false rfl rfl ?_
  refine v_nil ?_
  refine q_n ?_
  refine w_f rfl ?_
  refine w_skip ?_
  refine q_n ?_
  refine w_seq ?_
  refine w_seq ?_
  refine w_reg rfl ?_
  refine v_fa_pt (off' := 1) lay68 rfl rfl rfl ?_
  refine v_load_pt (.c _) lay2 rfl rfl rfl rfl ?_
  refine v_fa_pt (off' := 1) lay68 rfl rfl rfl ?_
  refine v_load_pt (.c _) lay2 rfl rfl rfl rfl ?_
  refine v_neq lay2 rfl rfl (fun h2 => ?_) (fun h2 => ?_)
  · exact absurd rfl h2
  refine v_nil ?_
  refine q_n ?_
  refine w_f rfl ?_
  refine w_skip ?_
  refine q_n ?_
  refine w_seq ?_
  refine w_seq ?_
  refine w_reg rfl ?_
  refine v_fa_pt (off' := 2) lay68 rfl rfl rfl ?_
  refine v_load_pt (.c _) lay2 rfl rfl rfl rfl ?_
  refine v_fa_pt (off' := 2) lay68 rfl rfl rfl ?_
  refine v_load_pt (.c _) lay2 rfl rfl rfl rfl ?_
  refine v_neq lay2 rfl rfl (fun h3 => ?_) (fun h3 => ?_)
  · exact absurd rfl h3
  refine v_nil ?_
  refine q_n ?_
  refine w_f rfl ?_
  refine w_skip ?_
  refine q_n ?_
  refine w_seq ?_
  refine w_reg rfl ?_
  refine v_assign (c := .v (.bool true)) rfl ?_
  refine v_nil ?_
  refine q_n ?_
  refine w_ret ?_
  refine r_r rfl ?_
  exact a_b ⟨fun _ => trivial, fun _ => rfl⟩
theorem cEqPlanS (xs : List Pln) (hx : xs.length ≤ 2 ^ 40) (hw : ∀ x ∈ xs, x.1.length ≤ 2 ^ 40) : PureC X 61 [.c (.sl false xs.length 3 (flat plc xs)), .c (.sl false xs.length 3 (flat plc xs))] (cB (decide True)) := by
  refine PureC.of_body (drawD_ok X) (fun _ _ => Go.Proofs.Tryz.call61 _ _) Go.Proofs.Tryz.func61 rfl (n := 27) rfl ?_
  refine w_seq ?_
  refine w_reg rfl ?_
  refine v_assign (c := .v (.bool false)) rfl ?_
  refine v_nil ?_
  refine q_n ?_
  refine w_seq ?_
  refine w_seq ?_
  refine w_reg rfl ?_
  refine v_move rfl ?_
  refine v_len_sl lay33 rfl ?_
  refine v_move rfl ?_
  refine v_len_sl lay33 rfl ?_
  refine v_neq lay3 rfl rfl (fun h1 => ?_) (fun h1 => ?_)
  · exact absurd rfl h1
  refine v_nil ?_
  refine q_n ?_
  refine w_f rfl ?_
  refine w_skip ?_
  refine q_n ?_
  refine w_seq ?_
  refine w_seq ?_
  refine w_reg rfl ?_
  refine v_assign (c := .v (.int .i64 0)) rfl ?_
  refine v_nil ?_
  refine q_n ?_
  refine w_block ?_
  refine w_loop (fun k sl H => ∃ i : Nat, k = xs.length - i ∧ i ≤ xs.length ∧ sl = sls [(0, .c (.sl false xs.length 3 (flat plc xs))), (1, .c (.sl false xs.length 3 (flat plc xs))), (5, cI i)] ∧ H = []) ?_ ?_
  · refine ⟨_, _, _, ?_, 0, rfl, Nat.zero_le _, rfl, rfl⟩
    exact turn0 ⟨tr_sl, tr_sl, tr_v, trivial⟩
  rintro k sl H ⟨i, rfl, hi, rfl, rfl⟩
  refine w_seq ?_
  refine w_seq ?_
  refine w_reg rfl ?_
  refine v_move rfl ?_
  refine v_move rfl ?_
  refine v_len_sl lay33 rfl ?_
  refine v_lss lay3 rfl rfl (fun h2 => ?_) (fun h2 => ?_)
  rotate_left
  · refine v_nil ?_
    refine q_n ?_
    refine w_f rfl ?_
    refine w_exit ?_
    refine q_e ?_
    refine q_e ?_
    refine q_hit ?_
    refine q_n ?_
    refine w_seq ?_
    refine w_reg rfl ?_
    refine v_assign (c := .v (.bool true)) rfl ?_
    refine v_nil ?_
    refine q_n ?_
    refine w_ret ?_
    refine r_r rfl ?_
    exact a_b ⟨fun _ => trivial, fun _ => rfl⟩
  have i1 : i < xs.length := by omega
  refine v_nil ?_
  refine q_n ?_
  refine w_t rfl ?_
  refine w_skip ?_
  refine q_n ?_
  refine w_seq ?_
  refine w_block ?_
  refine w_seq ?_
  refine w_draw [0, 0, 3, 7, 0, 0, 48, 112, 255, 511] [⟨0, 0, []⟩, ⟨1, 0, []⟩, ⟨2, 0, []⟩, ⟨3, 0, []⟩, ⟨4, 0, []⟩, ⟨5, 0, []⟩, ⟨6, 0, []⟩, ⟨7, 0, []⟩, ⟨8, 0, []⟩, ⟨9, 0, []⟩] rfl rfl ?_
  refine d_q rfl rfl rfl rfl rfl ?_
  refine v_move rfl ?_
  refine v_nil ?_
  refine d_q rfl rfl rfl rfl rfl ?_
  refine v_move rfl ?_
  refine v_nil ?_
  refine d_q rfl rfl rfl rfl rfl ?_
  refine v_idx_e (k := 3) (i) plc_len lay33 lay68 rfl rfl rfl (rfl) rfl (rfl) (i1) ?_
  refine v_nil ?_
  refine d_q rfl rfl rfl rfl rfl ?_
  refine v_load_vw (.agg [_, .v _, .v _]) lay68 rfl rfl rfl ?_
  refine v_nil ?_
  refine d_q rfl rfl rfl rfl rfl ?_
  refine v_move rfl ?_
  refine v_nil ?_
  refine d_q rfl rfl rfl rfl rfl ?_
  refine v_move rfl ?_
  refine v_nil ?_
  refine d_q rfl rfl rfl rfl rfl ?_
  refine v_idx_e (k := 3) (i) plc_len lay33 lay68 rfl rfl rfl (rfl) rfl (rfl) (i1) ?_
  refine v_nil ?_
  refine d_q rfl rfl rfl rfl rfl ?_
  refine v_load_vw (.agg [_, .v _, .v _]) lay68 rfl rfl rfl ?_
  refine v_nil ?_
  refine d_callb (cEqPlan _ (hw _ (List.getElem_mem i1))) rfl rfl rfl rfl (.cons (vw_agg (.cons vw_sl (.cons vw_v (.cons vw_v .nil)))) (.cons (vw_agg (.cons vw_sl (.cons vw_v (.cons vw_v .nil)))) .nil)) (fun h5 => ?_) (fun h5 => ?_)
  rotate_left
  · exact absurd trivial h5
  refine d_q rfl rfl rfl rfl rfl ?_
  refine v_not false rfl rfl ?_
  refine v_nil ?_
  refine d_nil ?_
  refine q_n ?_
  refine w_f rfl ?_
  refine w_skip ?_
  refine q_bn ?_
  refine q_n ?_
  refine w_reg rfl ?_
  refine v_move rfl ?_
  refine v_add lay3 rfl rfl (i64r (by omega)) ?_
  refine v_assign rfl ?_
  refine v_nil ?_
  refine q_n ?_
  refine ⟨_, _, _, ?_, ⟨i + 1, rfl, by omega, rfl, rfl⟩, by omega⟩
  exact turn0 ⟨tr_sl, tr_sl, tr_v, trivial⟩
theorem cToPlanS (ps : List Pln) (hx : ps.length ≤ 2 ^ 30) (hP : ∀ p ∈ ps, p.1.length ≤ 2 ^ 40) : PureC X 47 [.c (.sl false ps.length 3 (flat plc ps))] (.c (.sl true ps.length 3 (flat plc ps))) := by
  refine PureC.of_body (drawD_ok X) (fun _ _ => Go.Proofs.Tryz.call47 _ _) Go.Proofs.Tryz.func47 rfl (n := 23) rfl ?_
  refine w_seq ?_
  refine w_reg rfl ?_
  refine v_assign rfl ?_
  refine v_nil ?_
  refine q_n ?_
  refine w_seq ?_
  refine w_reg rfl ?_
  refine v_move rfl ?_
  refine v_len_sl lay25 rfl ?_
  refine v_make (enc := ozc) (a0 := none) (m := 0) (H' := [_]) rfl lay33 lay68 rfl rfl rfl rfl (ps.length) (rfl) (by unfold maxLen; simp only []; omega) rfl rfl ?_
  refine v_assign rfl ?_
  refine v_nil ?_
  refine q_n ?_
  refine w_seq ?_
  refine w_seq ?_
  refine w_reg rfl ?_
  refine v_assign (c := .v (.int .i64 0)) rfl ?_
  refine v_nil ?_
  refine q_n ?_
  refine w_block ?_
  refine w_loop (fun k sl H => ∃ i : Nat, k = ps.length - i ∧ i ≤ ps.length ∧ sl = sls [(0, .c (.sl false ps.length 3 (flat plc ps))), (3, .c (.mu 0 0 ps.length 3)), (4, cI i)] ∧ H = [⟨flat ozc ((ps.map some).take i ++ List.replicate ((ps.map some).length - i) none), 68, true⟩]) ?_ ?_
  · refine ⟨_, _, _, ?_, 0, rfl, Nat.zero_le _, rfl, rfl⟩
    exact turn [some 0] rfl rfl rfl ⟨⟨_, rfl, trc_flatz ozc_sc (by simp)⟩, trivial⟩ ⟨tr_sl, tr_mu rfl, tr_v, trivial⟩
  rintro k sl H ⟨i, rfl, hi, rfl, rfl⟩
  refine w_seq ?_
  refine w_seq ?_
  refine w_reg rfl ?_
  refine v_move rfl ?_
  refine v_move rfl ?_
  refine v_len_sl lay25 rfl ?_
  refine v_lss lay3 rfl rfl (fun h1 => ?_) (fun h1 => ?_)
  rotate_left
  · refine v_nil ?_
    refine q_n ?_
    refine w_f rfl ?_
    refine w_exit ?_
    refine q_e ?_
    refine q_e ?_
    refine q_hit ?_
    refine q_n ?_
    refine w_seq ?_
    refine w_reg rfl ?_
    refine v_move rfl ?_
    refine v_assign rfl ?_
    refine v_nil ?_
    refine q_n ?_
    refine w_ret ?_
    refine r_r rfl ?_
    obtain rfl : i = ps.length := by omega
    exact a_flatz plc_sc plc_len rfl (by rw [← oz_flat, List.take_of_length_le (by simp)]; simp) rfl rfl
  have hi1 : i < ps.length := by omega
  refine v_nil ?_
  refine q_n ?_
  refine w_t rfl ?_
  refine w_skip ?_
  refine q_n ?_
  refine w_seq ?_
  refine w_block ?_
  refine w_reg rfl ?_
  refine v_move rfl ?_
  refine v_move rfl ?_
  refine v_move rfl ?_
  refine v_move rfl ?_
  refine v_idx_e (k := 3) (i) plc_len lay25 lay146 rfl rfl rfl (rfl) rfl (rfl) (hi1) ?_
  refine v_load_vw (.agg [_, .v _, .v _]) lay146 rfl rfl rfl ?_
  refine v_call (cToPlan _ _ _ (hP _ (List.getElem_mem hi1))) rfl rfl rfl (.cons (vw_agg (.cons vw_sl (.cons vw_v (.cons vw_v .nil)))) .nil) ?_
  refine v_idx_mu_e (k := 3) (off := 0) (i) lay33 lay68 rfl rfl rfl (rfl) (hi1) ?_
  refine v_store_flat (H' := [_]) i 0 ((ps.map some)[i]'(by simpa using hi1)) ozc_len lay68 rfl rfl rfl (by omega) (by simp; omega) rfl rfl (by rw [List.getElem_map]; exact (oz_set _).symm) rfl ?_
  refine v_nil ?_
  refine q_bn ?_
  refine q_n ?_
  refine w_reg rfl ?_
  refine v_move rfl ?_
  refine v_add lay3 rfl rfl (i64r (by omega)) ?_
  refine v_assign rfl ?_
  refine v_nil ?_
  refine q_n ?_
  refine ⟨_, _, _, ?_, ⟨i + 1, rfl, by omega, rfl, rfl⟩, by omega⟩
  exact turn [some 0] rfl rfl rfl ⟨⟨_, rfl, by rw [fill_step (xs := ps.map some) (by simpa using hi1)]; exact .stay (fun c hc => stays_fz (fz_flat ozc_sc _ c hc))⟩, trivial⟩ ⟨tr_sl, tr_mu rfl, tr_v, trivial⟩
theorem cSzPlanS (ps : List Pln) (l : Int) (hl : 0 ≤ l ∧ l ≤ 2 ^ 20) (hx : ps.length ≤ maxLen) (hM : ∀ p ∈ ps, p.1.length ≤ maxLen) : PureC X 42 [.c (.sl false ps.length 3 (flat plc ps)), cI l] (cI (szL szP ps l)) := by
  refine PureC.of_body (drawD_ok X) (fun _ _ => Go.Proofs.Tryz.call42 _ _) Go.Proofs.Tryz.func42 rfl (n := 27) rfl ?_
  refine w_seq ?_
  refine w_reg rfl ?_
  refine v_assign (c := .v (.int .i64 0)) rfl ?_
  refine v_nil ?_
  refine q_n ?_
  refine w_seq ?_
  refine w_reg rfl ?_
  refine v_move rfl ?_
  refine v_move rfl ?_
  refine v_len_sl lay25 rfl ?_
  refine v_sub lay3 rfl rfl (i64r (by unfold maxLen at hx; omega)) ?_
  refine v_assign rfl ?_
  refine v_nil ?_
  refine q_n ?_
  refine w_seq ?_
  refine w_seq ?_
  refine w_reg rfl ?_
  refine v_move rfl ?_
  refine v_lss lay3 rfl rfl (fun h1 => ?_) (fun h1 => ?_)
  · refine v_nil ?_
    refine q_n ?_
    refine w_t rfl ?_
    refine w_seq ?_
    refine w_reg rfl ?_
    refine v_assign (c := .v (.int .i64 (-1))) rfl ?_
    refine v_nil ?_
    refine q_n ?_
    refine w_ret (q_r ?_)
    refine r_r rfl ?_
    exact a_i (by unfold szL; rw [if_pos h1])
  refine v_nil ?_
  refine q_n ?_
  refine w_f rfl ?_
  refine w_skip ?_
  refine q_n ?_
  refine w_seq ?_
  refine w_seq ?_
  refine w_reg rfl ?_
  refine v_assign (c := .v (.int .i64 0)) rfl ?_
  refine v_nil ?_
  refine q_n ?_
  refine w_block ?_
  refine w_loop (fun k sl H => ∃ (i : Nat) (l1 : Int), k = ps.length - i ∧ i ≤ ps.length ∧ szG szP (ps.drop i) l1 = szG szP ps (l - ps.length) ∧ (0 ≤ l1 ∧ l1 ≤ 2 ^ 20) ∧ sl = sls [(0, .c (.sl false ps.length 3 (flat plc ps))), (1, cI l1), (5, cI i)] ∧ H = []) ?_ ?_
  · refine ⟨_, _, _, ?_, 0, l - ps.length, rfl, Nat.zero_le _, rfl, ⟨by omega, by omega⟩, rfl, rfl⟩
    exact turn0 ⟨tr_sl, tr_v, tr_v, trivial⟩
  rintro k sl H ⟨i, l1, rfl, hi, hp, hl1, rfl, rfl⟩
  refine w_seq ?_
  refine w_seq ?_
  refine w_reg rfl ?_
  refine v_move rfl ?_
  refine v_move rfl ?_
  refine v_len_sl lay25 rfl ?_
  refine v_lss lay3 rfl rfl (fun h2 => ?_) (fun h2 => ?_)
  rotate_left
  · refine v_nil ?_
    refine q_n ?_
    refine w_f rfl ?_
    refine w_exit ?_
    refine q_e ?_
    refine q_e ?_
    refine q_hit ?_
    refine q_n ?_
    refine w_seq ?_
    refine w_reg rfl ?_
    refine v_move rfl ?_
    refine v_assign rfl ?_
    refine v_nil ?_
    refine q_n ?_
    refine w_ret ?_
    refine r_r rfl ?_
    obtain rfl : i = ps.length := by omega
    exact a_i (by unfold szL; rw [if_neg h1, ← hp, List.drop_length]; rfl)
  have hi1 : i < ps.length := by omega
  refine v_nil ?_
  refine q_n ?_
  refine w_t rfl ?_
  refine w_skip ?_
  refine q_n ?_
  refine w_seq ?_
  refine w_block ?_
  refine w_seq ?_
  refine w_reg rfl ?_
  refine v_move rfl ?_
  refine v_move rfl ?_
  refine v_idx_e (k := 3) (i) plc_len lay25 lay146 rfl rfl rfl (rfl) rfl (rfl) (hi1) ?_
  refine v_load_vw (.agg [_, .v _, .v _]) lay146 rfl rfl rfl ?_
  refine v_move rfl ?_
  refine v_call (cSzPlan _ _ _ _ hl1 (hM _ (List.getElem_mem hi1))) rfl rfl rfl (.cons (vw_agg (.cons vw_sl (.cons vw_v (.cons vw_v .nil)))) (.cons vw_v .nil)) ?_
  refine v_assign rfl ?_
  refine v_nil ?_
  refine q_n ?_
  refine w_seq ?_
  refine w_reg rfl ?_
  refine v_move rfl ?_
  refine v_lss lay3 rfl rfl (fun h4 => ?_) (fun h4 => ?_)
  · have hneg : szP ps[i] l1 < 0 := h4
    refine v_nil ?_
    refine q_n ?_
    refine w_t rfl ?_
    refine w_seq ?_
    refine w_reg rfl ?_
    refine v_assign (c := .v (.int .i64 (-1))) rfl ?_
    refine v_nil ?_
    refine q_n ?_
    refine w_ret (q_br (q_r (q_r (q_br (q_r ?_)))))
    refine r_r rfl ?_
    exact a_i (by unfold szL; rw [if_neg h1, ← hp, szG_at hi1, if_pos hneg])
  have hneg : ¬ szP ps[i] l1 < 0 := h4
  refine v_nil ?_
  refine q_n ?_
  refine w_f rfl ?_
  refine w_skip ?_
  refine q_bn ?_
  refine q_n ?_
  refine w_reg rfl ?_
  refine v_move rfl ?_
  refine v_add lay3 rfl rfl (i64r (by unfold maxLen at hx; omega)) ?_
  refine v_assign rfl ?_
  refine v_nil ?_
  refine q_n ?_
  rw [szG_at hi1, if_neg hneg] at hp
  have hr := (szP_le _ _ hl1 hneg).1
  refine ⟨_, _, _, ?_, ⟨i + 1, _, rfl, by omega, hp, hr, rfl, rfl⟩, by omega⟩
  exact turn0 ⟨tr_sl, tr_v, tr_v, trivial⟩
theorem cToJunction (j : Jn) : PureC X 170 [.agg (jnc j)] (.agg (jnc j)) := by
  refine PureC.of_body (drawD_ok X) (fun _ _ => Go.Proofs.Tryz.call170 _ _) Go.Proofs.Tryz.func170 rfl (n := 19) rfl ?_
  refine w_seq ?_
  refine w_reg rfl ?_
  refine v_box (m := 0) (H' := [_]) lay140 rfl rfl rfl ?_
  refine v_alloc (m := 1) (H' := [_, ⟨[.v _, .v _, .f _ _, .f _ _, .f _ _, .f _ _, .f _ _, .f _ _, .f _ _, .f _ _, .f _ _, .f _ _, .f _ _, .f _ _, .f _ _, .f _ _, .f _ _, .f _ _, .f _ _, .f _ _, .f _ _, .f _ _], 53, true⟩]) lay53 rfl rfl ?_
  refine v_nil ?_
  refine q_n ?_
  refine w_seq ?_
  refine w_reg rfl ?_
  refine v_alloc (m := 2) (H' := [_, _, ⟨[.v _, .v _, .f _ _, .f _ _, .f _ _, .f _ _, .f _ _, .f _ _, .f _ _, .f _ _, .f _ _, .f _ _, .f _ _, .f _ _, .f _ _, .f _ _, .f _ _, .f _ _, .f _ _, .f _ _, .f _ _, .f _ _], 53, true⟩]) lay53 rfl rfl ?_
  refine v_nil ?_
  refine q_n ?_
  refine w_seq ?_
  refine w_reg rfl ?_
  refine v_fa_pt (off' := 0) lay140 rfl rfl rfl ?_
  refine v_load_pt (.c _) lay2 rfl rfl rfl rfl ?_
  refine v_fa_pt (off' := 0) lay53 rfl rfl rfl ?_
  refine v_store (H' := [_, _, ⟨[_, _, _, _, _, _, _, _, _, _, _, _, _, _, _, _, _, _, _, _, _, _], 53, true⟩]) lay2 rfl rfl rfl rfl rfl rfl ?_
  refine v_nil ?_
  refine q_n ?_
  refine w_seq ?_
  refine w_reg rfl ?_
  refine v_fa_pt (off' := 1) lay140 rfl rfl rfl ?_
  refine v_load_pt (.c _) lay2 rfl rfl rfl rfl ?_
  refine v_fa_pt (off' := 1) lay53 rfl rfl rfl ?_
  refine v_store (H' := [_, _, ⟨[_, _, _, _, _, _, _, _, _, _, _, _, _, _, _, _, _, _, _, _, _, _], 53, true⟩]) lay2 rfl rfl rfl rfl rfl rfl ?_
  refine v_nil ?_
  refine q_n ?_
  refine w_seq ?_
  refine w_reg rfl ?_
  refine v_fa_pt (off' := 2) lay140 rfl rfl rfl ?_
  refine v_load_pt (.agg [_, _, _, _, _, _, _, _, _, _, _, _, _, _, _, _]) lay49 rfl rfl rfl rfl ?_
  refine v_call (cToFlows _) rfl rfl rfl (.cons (vw_agg (.cons vw_f (.cons vw_f (.cons vw_f (.cons vw_f (.cons vw_f (.cons vw_f (.cons vw_f (.cons vw_f (.cons vw_f (.cons vw_f (.cons vw_f (.cons vw_f (.cons vw_f (.cons vw_f (.cons vw_f (.cons vw_f .nil))))))))))))))))) .nil) ?_
  refine v_fa_pt (off' := 2) lay53 rfl rfl rfl ?_
  refine v_store (H' := [_, _, ⟨[_, _, _, _, _, _, _, _, _, _, _, _, _, _, _, _, _, _, _, _, _, _], 53, true⟩]) lay50 rfl rfl rfl rfl rfl rfl ?_
  refine v_nil ?_
  refine q_n ?_
  refine w_seq ?_
  refine w_reg rfl ?_
  refine v_fa_pt (off' := 18) lay140 rfl rfl rfl ?_
  refine v_load_pt (.agg [_, _, _, _]) lay48 rfl rfl rfl rfl ?_
  refine v_call (cToFour _) rfl rfl rfl (.cons (vw_agg (.cons vw_f (.cons vw_f (.cons vw_f (.cons vw_f .nil))))) .nil) ?_
  refine v_fa_pt (off' := 18) lay53 rfl rfl rfl ?_
  refine v_store (H' := [_, _, ⟨[_, _, _, _, _, _, _, _, _, _, _, _, _, _, _, _, _, _, _, _, _, _], 53, true⟩]) lay51 rfl rfl rfl rfl rfl rfl ?_
  refine v_nil ?_
  refine q_n ?_
  refine w_seq ?_
  refine w_reg rfl ?_
  refine v_load_pt (.agg [_, _, _, _, _, _, _, _, _, _, _, _, _, _, _, _, _, _, _, _, _, _]) lay53 rfl rfl rfl rfl ?_
  refine v_store (H' := [_, ⟨[_, _, _, _, _, _, _, _, _, _, _, _, _, _, _, _, _, _, _, _, _, _], 53, true⟩, _]) lay53 rfl rfl rfl rfl rfl rfl ?_
  refine v_nil ?_
  refine q_n ?_
  refine w_ret ?_
  refine r_r rfl ?_
  exact a_agg (.cons tr_v (.cons tr_v (.cons tr_f (.cons tr_f (.cons tr_f (.cons tr_f (.cons tr_f (.cons tr_f (.cons tr_f (.cons tr_f (.cons tr_f (.cons tr_f (.cons tr_f (.cons tr_f (.cons tr_f (.cons tr_f (.cons tr_f (.cons tr_f (.cons tr_f (.cons tr_f (.cons tr_f (.cons tr_f .nil))))))))))))))))))))))
theorem cEqJunction (j : Jn) (hW : jW j) : PureC X 185 [.agg (jnc j), .agg (jnc j)] (cB (decide True)) := by
  refine PureC.of_body (drawD_ok X) (fun _ _ => Go.Proofs.Tryz.call185 _ _) Go.Proofs.Tryz.func185 rfl (n := 27) rfl ?_
  refine w_seq ?_
  refine w_reg rfl ?_
  refine v_box (m := 0) (H' := [_]) lay53 rfl rfl rfl ?_
  refine v_box (m := 1) (H' := [_, _]) lay53 rfl rfl rfl ?_
  refine v_assign (c := .v (.bool false)) rfl ?_
  refine v_nil ?_
  refine q_n ?_
  refine w_seq ?_
  refine w_seq ?_
  refine w_reg rfl ?_
  refine v_fa_pt (off' := 0) lay53 rfl rfl rfl ?_
  refine v_load_pt (.c _) lay2 rfl rfl rfl rfl ?_
  refine v_fa_pt (off' := 0) lay53 rfl rfl rfl ?_
  refine v_load_pt (.c _) lay2 rfl rfl rfl rfl ?_
  refine v_neq lay2 rfl rfl (fun h1 => ?_) (fun h1 => ?_)
  · exact absurd rfl h1
  refine v_nil ?_
  refine q_n ?_
  refine w_f rfl ?_
  refine w_skip ?_
  refine q_n ?_
  refine w_seq ?_
  refine w_seq ?_
  refine w_reg rfl ?_
  refine v_fa_pt (off' := 1) lay53 rfl rfl rfl ?_
  refine v_load_pt (.c _) lay2 rfl rfl rfl rfl ?_
  refine v_fa_pt (off' := 1) lay53 rfl rfl rfl ?_
  refine v_load_pt (.c _) lay2 rfl rfl rfl rfl ?_
  refine v_neq lay2 rfl rfl (fun h2 => ?_) (fun h2 => ?_)
  · exact absurd rfl h2
  refine v_nil ?_
  refine q_n ?_
  refine w_f rfl ?_
  refine w_skip ?_
  refine q_n ?_
  refine w_seq ?_
  refine w_seq ?_
  refine w_reg rfl ?_
  refine v_fa_pt (off' := 2) lay53 rfl rfl rfl ?_
  refine v_load_pt (.agg [_, _, _, _, _, _, _, _, _, _, _, _, _, _, _, _]) lay50 rfl rfl rfl rfl ?_
  refine v_fa_pt (off' := 2) lay53 rfl rfl rfl ?_
  refine v_load_pt (.agg [_, _, _, _, _, _, _, _, _, _, _, _, _, _, _, _]) lay50 rfl rfl rfl rfl ?_
  refine v_callb (cEqFlows _ hW.1) rfl rfl (.cons (vw_agg (.cons vw_f (.cons vw_f (.cons vw_f (.cons vw_f (.cons vw_f (.cons vw_f (.cons vw_f (.cons vw_f (.cons vw_f (.cons vw_f (.cons vw_f (.cons vw_f (.cons vw_f (.cons vw_f (.cons vw_f (.cons vw_f .nil))))))))))))))))) (.cons (vw_agg (.cons vw_f (.cons vw_f (.cons vw_f (.cons vw_f (.cons vw_f (.cons vw_f (.cons vw_f (.cons vw_f (.cons vw_f (.cons vw_f (.cons vw_f (.cons vw_f (.cons vw_f (.cons vw_f (.cons vw_f (.cons vw_f .nil))))))))))))))))) .nil)) (fun h3 => ?_) (fun h3 => ?_)
  rotate_left
  · exact absurd trivial h3
  refine v_not false rfl rfl ?_
  refine v_nil ?_
  refine q_n ?_
  refine w_f rfl ?_
  refine w_skip ?_
  refine q_n ?_
  refine w_seq ?_
  refine w_seq ?_
  refine w_reg rfl ?_
  refine v_fa_pt (off' := 18) lay53 rfl rfl rfl ?_
  refine v_load_pt (.agg [_, _, _, _]) lay51 rfl rfl rfl rfl ?_
  refine v_fa_pt (off' := 18) lay53 rfl rfl rfl ?_
  refine v_load_pt (.agg [_, _, _, _]) lay51 rfl rfl rfl rfl ?_
  refine v_callb (cEqFour _ (fun i hi => (hW.2 i hi).1)) rfl rfl (.cons (vw_agg (.cons vw_f (.cons vw_f (.cons vw_f (.cons vw_f .nil))))) (.cons (vw_agg (.cons vw_f (.cons vw_f (.cons vw_f (.cons vw_f .nil))))) .nil)) (fun h4 => ?_) (fun h4 => ?_)
  rotate_left
  · exact absurd trivial h4
  refine v_not false rfl rfl ?_
  refine v_nil ?_
  refine q_n ?_
  refine w_f rfl ?_
  refine w_skip ?_
  refine q_n ?_
  refine w_seq ?_
  refine w_reg rfl ?_
  refine v_assign (c := .v (.bool true)) rfl ?_
  refine v_nil ?_
  refine q_n ?_
  refine w_ret ?_
  refine r_r rfl ?_
  exact a_b ⟨fun _ => trivial, fun _ => rfl⟩
theorem cToIntS (xs : List Int) (hx : xs.length ≤ 2 ^ 40) : PureC X 171 [.c (.sl false xs.length 1 (flat int xs))] (.c (.sl true xs.length 1 (flat int xs))) := by
  refine PureC.of_body (drawD_ok X) (fun _ _ => Go.Proofs.Tryz.call171 _ _) Go.Proofs.Tryz.func171 rfl (n := 22) rfl ?_
  refine w_seq ?_
  refine w_reg rfl ?_
  refine v_assign rfl ?_
  refine v_nil ?_
  refine q_n ?_
  refine w_seq ?_
  refine w_reg rfl ?_
  refine v_move rfl ?_
  refine v_len_sl lay54 rfl ?_
  refine v_make (enc := int) (a0 := (0 : Int)) (m := 0) (H' := [_]) rfl lay54 lay2 rfl rfl rfl rfl (xs.length) (rfl) (by unfold maxLen; simp only []; omega) rfl rfl ?_
  refine v_assign rfl ?_
  refine v_nil ?_
  refine q_n ?_
  refine w_seq ?_
  refine w_seq ?_
  refine w_reg rfl ?_
  refine v_assign (c := .v (.int .i64 0)) rfl ?_
  refine v_nil ?_
  refine q_n ?_
  refine w_block ?_
  refine w_loop (fun k sl H => ∃ i : Nat, k = xs.length - i ∧ i ≤ xs.length ∧ sl = sls [(0, .c (.sl false xs.length 1 (flat int xs))), (3, .c (.mu 0 0 xs.length 1)), (4, cI i)] ∧ H = [⟨flat int (xs.take i ++ List.replicate (xs.length - i) (0 : Int)), 2, true⟩]) ?_ ?_
  · refine ⟨_, _, _, ?_, 0, rfl, Nat.zero_le _, rfl, rfl⟩
    exact turn [some 0] rfl rfl rfl ⟨⟨_, rfl, .stay (stays_flat int_sc _)⟩, trivial⟩ ⟨tr_sl, tr_mu rfl, tr_v, trivial⟩
  rintro k sl H ⟨i, rfl, hi, rfl, rfl⟩
  refine w_seq ?_
  refine w_seq ?_
  refine w_reg rfl ?_
  refine v_move rfl ?_
  refine v_move rfl ?_
  refine v_len_sl lay54 rfl ?_
  refine v_lss lay3 rfl rfl (fun h1 => ?_) (fun h1 => ?_)
  rotate_left
  · refine v_nil ?_
    refine q_n ?_
    refine w_f rfl ?_
    refine w_exit ?_
    refine q_e ?_
    refine q_e ?_
    refine q_hit ?_
    refine q_n ?_
    refine w_seq ?_
    refine w_reg rfl ?_
    refine v_move rfl ?_
    refine v_assign rfl ?_
    refine v_nil ?_
    refine q_n ?_
    refine w_ret ?_
    refine r_r rfl ?_
    obtain rfl : i = xs.length := by omega
    exact a_flat (t := 2) int_sc int_len (by simp) rfl
  have hi1 : i < xs.length := by omega
  refine v_nil ?_
  refine q_n ?_
  refine w_t rfl ?_
  refine w_skip ?_
  refine q_n ?_
  refine w_seq ?_
  refine w_block ?_
  refine w_reg rfl ?_
  refine v_move rfl ?_
  refine v_move rfl ?_
  refine v_move rfl ?_
  refine v_move rfl ?_
  refine v_idx_e (k := 1) (i) int_len lay54 lay2 rfl rfl rfl (rfl) rfl (rfl) ((by omega : i < xs.length)) ?_
  refine v_load_vw (.c (.v _)) lay2 rfl rfl rfl ?_
  refine v_idx_mu_e (k := 1) (off := 0) (i) lay54 lay2 rfl rfl rfl (rfl) ((by omega : i < xs.length)) ?_
  refine v_store_flat (H' := [_]) i 0 (xs[i]) int_len lay2 rfl rfl rfl (by omega) (by simp; omega) rfl rfl (rfl) rfl ?_
  refine v_nil ?_
  refine q_bn ?_
  refine q_n ?_
  refine w_reg rfl ?_
  refine v_move rfl ?_
  refine v_add lay3 rfl rfl (i64r (by omega)) ?_
  refine v_assign rfl ?_
  refine v_nil ?_
  refine q_n ?_
  refine ⟨_, _, _, ?_, ⟨i + 1, rfl, by omega, rfl, rfl⟩, by omega⟩
  exact turn [some 0] rfl rfl rfl ⟨⟨_, rfl, by rw [fill_step hi1]; exact .stay (stays_flat int_sc _)⟩, trivial⟩ ⟨tr_sl, tr_mu rfl, tr_v, trivial⟩
theorem cEqIntS (xs : List Int) (hx : xs.length ≤ 2 ^ 40) : PureC X 186 [.c (ints false xs), .c (ints false xs)] (cB (decide True)) := by
  refine PureC.of_body (drawD_ok X) (fun _ _ => Go.Proofs.Tryz.call186 _ _) Go.Proofs.Tryz.func186 rfl (n := 26) rfl ?_
  refine w_seq ?_
  refine w_reg rfl ?_
  refine v_assign (c := .v (.bool false)) rfl ?_
  refine v_nil ?_
  refine q_n ?_
  refine w_seq ?_
  refine w_seq ?_
  refine w_reg rfl ?_
  refine v_move rfl ?_
  refine v_len_sl lay54 rfl ?_
  refine v_move rfl ?_
  refine v_len_sl lay54 rfl ?_
  refine v_neq lay3 rfl rfl (fun h1 => ?_) (fun h1 => ?_)
  · exact absurd rfl h1
  refine v_nil ?_
  refine q_n ?_
  refine w_f rfl ?_
  refine w_skip ?_
  refine q_n ?_
  refine w_seq ?_
  refine w_seq ?_
  refine w_reg rfl ?_
  refine v_assign (c := .v (.int .i64 0)) rfl ?_
  refine v_nil ?_
  refine q_n ?_
  refine w_block ?_
  refine w_loop (fun k sl H => ∃ i : Nat, k = xs.length - i ∧ i ≤ xs.length ∧ sl = sls [(0, .c (ints false xs)), (1, .c (ints false xs)), (5, cI i)] ∧ H = []) ?_ ?_
  · refine ⟨_, _, _, ?_, 0, rfl, Nat.zero_le _, rfl, rfl⟩
    exact turn0 ⟨tr_sl, tr_sl, tr_v, trivial⟩
  rintro k sl H ⟨i, rfl, hi, rfl, rfl⟩
  refine w_seq ?_
  refine w_seq ?_
  refine w_reg rfl ?_
  refine v_move rfl ?_
  refine v_move rfl ?_
  refine v_len_sl lay54 rfl ?_
  refine v_lss lay3 rfl rfl (fun h2 => ?_) (fun h2 => ?_)
  rotate_left
  · refine v_nil ?_
    refine q_n ?_
    refine w_f rfl ?_
    refine w_exit ?_
    refine q_e ?_
    refine q_e ?_
    refine q_hit ?_
    refine q_n ?_
    refine w_seq ?_
    refine w_reg rfl ?_
    refine v_assign (c := .v (.bool true)) rfl ?_
    refine v_nil ?_
    refine q_n ?_
    refine w_ret ?_
    refine r_r rfl ?_
    exact a_b ⟨fun _ => trivial, fun _ => rfl⟩
  have i1 : i < xs.length := by omega
  refine v_nil ?_
  refine q_n ?_
  refine w_t rfl ?_
  refine w_skip ?_
  refine q_n ?_
  refine w_seq ?_
  refine w_block ?_
  refine w_seq ?_
  refine w_draw [0, 0, 3, 7, 0, 0, 48, 112, 255] [⟨0, 0, []⟩, ⟨1, 0, []⟩, ⟨2, 0, []⟩, ⟨3, 0, []⟩, ⟨4, 0, []⟩, ⟨5, 0, []⟩, ⟨6, 0, []⟩, ⟨7, 0, []⟩, ⟨8, 0, []⟩] rfl rfl ?_
  refine d_q rfl rfl rfl rfl rfl ?_
  refine v_move rfl ?_
  refine v_nil ?_
  refine d_q rfl rfl rfl rfl rfl ?_
  refine v_move rfl ?_
  refine v_nil ?_
  refine d_q rfl rfl rfl rfl rfl ?_
  refine v_idx_e (k := 1) (i) int_len lay54 lay2 rfl rfl rfl (rfl) rfl (rfl) (i1) ?_
  refine v_nil ?_
  refine d_q rfl rfl rfl rfl rfl ?_
  refine v_load_vw (.c (.v _)) lay2 rfl rfl rfl ?_
  refine v_nil ?_
  refine d_q rfl rfl rfl rfl rfl ?_
  refine v_move rfl ?_
  refine v_nil ?_
  refine d_q rfl rfl rfl rfl rfl ?_
  refine v_move rfl ?_
  refine v_nil ?_
  refine d_q rfl rfl rfl rfl rfl ?_
  refine v_idx_e (k := 1) (i) int_len lay54 lay2 rfl rfl rfl (rfl) rfl (rfl) (i1) ?_
  refine v_nil ?_
  refine d_q rfl rfl rfl rfl rfl ?_
  refine v_load_vw (.c (.v _)) lay2 rfl rfl rfl ?_
  refine v_nil ?_
  refine d_q rfl rfl rfl rfl rfl ?_
  refine v_neq lay2 rfl rfl (fun h5 => ?_) (fun h5 => ?_)
  · exact absurd rfl h5
  refine v_nil ?_
  refine d_nil ?_
  refine q_n ?_
  refine w_f rfl ?_
  refine w_skip ?_
  refine q_bn ?_
  refine q_n ?_
  refine w_reg rfl ?_
  refine v_move rfl ?_
  refine v_add lay3 rfl rfl (i64r (by omega)) ?_
  refine v_assign rfl ?_
  refine v_nil ?_
  refine q_n ?_
  refine ⟨_, _, _, ?_, ⟨i + 1, rfl, by omega, rfl, rfl⟩, by omega⟩
  exact turn0 ⟨tr_sl, tr_sl, tr_v, trivial⟩
theorem cToJoint (j : Jo) (h1 : j.2.1.length ≤ 2 ^ 40) (h2 : j.2.2.1.length ≤ 2 ^ 40) : PureC X 105 [.agg (jof false j)] (.agg (jof true j)) := by
  refine PureC.of_body (drawD_ok X) (fun _ _ => Go.Proofs.Tryz.call105 _ _) Go.Proofs.Tryz.func105 rfl (n := 20) rfl ?_
  refine w_seq ?_
  refine w_reg rfl ?_
  refine v_box (m := 0) (H' := [_]) lay142 rfl rfl rfl ?_
  refine v_alloc (m := 1) (H' := [_, ⟨[.v _, .v _, .f _ _, .f _ _, .f _ _, .f _ _, .f _ _, .f _ _, .f _ _, .f _ _, .f _ _, .f _ _, .f _ _, .f _ _, .f _ _, .f _ _, .f _ _, .f _ _, .f _ _, .f _ _, .f _ _, .f _ _, .v _, .v _, .v _], 56, true⟩]) lay56 rfl rfl ?_
  refine v_nil ?_
  refine q_n ?_
  refine w_seq ?_
  refine w_reg rfl ?_
  refine v_alloc (m := 2) (H' := [_, _, ⟨[.v _, .v _, .f _ _, .f _ _, .f _ _, .f _ _, .f _ _, .f _ _, .f _ _, .f _ _, .f _ _, .f _ _, .f _ _, .f _ _, .f _ _, .f _ _, .f _ _, .f _ _, .f _ _, .f _ _, .f _ _, .f _ _, .v _, .v _, .v _], 56, true⟩]) lay56 rfl rfl ?_
  refine v_nil ?_
  refine q_n ?_
  refine w_seq ?_
  refine w_reg rfl ?_
  refine v_fa_pt (off' := 0) lay142 rfl rfl rfl ?_
  refine v_load_pt (.agg [_, _, _, _, _, _, _, _, _, _, _, _, _, _, _, _, _, _, _, _, _, _]) lay140 rfl rfl rfl rfl ?_
  refine v_call (cToJunction _) rfl rfl rfl (.cons (vw_agg (.cons vw_v (.cons vw_v (.cons vw_f (.cons vw_f (.cons vw_f (.cons vw_f (.cons vw_f (.cons vw_f (.cons vw_f (.cons vw_f (.cons vw_f (.cons vw_f (.cons vw_f (.cons vw_f (.cons vw_f (.cons vw_f (.cons vw_f (.cons vw_f (.cons vw_f (.cons vw_f (.cons vw_f (.cons vw_f .nil))))))))))))))))))))))) .nil) ?_
  refine v_fa_pt (off' := 0) lay56 rfl rfl rfl ?_
  refine v_store (H' := [_, _, ⟨[_, _, _, _, _, _, _, _, _, _, _, _, _, _, _, _, _, _, _, _, _, _, _, _, _], 56, true⟩]) lay53 rfl rfl rfl rfl rfl rfl ?_
  refine v_nil ?_
  refine q_n ?_
  refine w_seq ?_
  refine w_reg rfl ?_
  refine v_fa_pt (off' := 22) lay142 rfl rfl rfl ?_
  refine v_load_pt (.c _) lay54 rfl rfl rfl rfl ?_
  refine v_call (cToIntS _ (by omega)) rfl rfl rfl (.cons vw_sl .nil) ?_
  refine v_fa_pt (off' := 22) lay56 rfl rfl rfl ?_
  refine v_store (H' := [_, _, ⟨[_, _, _, _, _, _, _, _, _, _, _, _, _, _, _, _, _, _, _, _, _, _, _, _, _], 56, true⟩]) lay54 rfl rfl rfl rfl rfl rfl ?_
  refine v_nil ?_
  refine q_n ?_
  refine w_seq ?_
  refine w_reg rfl ?_
  refine v_fa_pt (off' := 23) lay142 rfl rfl rfl ?_
  refine v_load_pt (.c _) lay54 rfl rfl rfl rfl ?_
  refine v_call (cToIntS _ (by omega)) rfl rfl rfl (.cons vw_sl .nil) ?_
  refine v_fa_pt (off' := 23) lay56 rfl rfl rfl ?_
  refine v_store (H' := [_, _, ⟨[_, _, _, _, _, _, _, _, _, _, _, _, _, _, _, _, _, _, _, _, _, _, _, _, _], 56, true⟩]) lay54 rfl rfl rfl rfl rfl rfl ?_
  refine v_nil ?_
  refine q_n ?_
  refine w_seq ?_
  refine w_reg rfl ?_
  refine v_fa_pt (off' := 24) lay142 rfl rfl rfl ?_
  refine v_load_pt (.c _) lay2 rfl rfl rfl rfl ?_
  refine v_fa_pt (off' := 24) lay56 rfl rfl rfl ?_
  refine v_store (H' := [_, _, ⟨[_, _, _, _, _, _, _, _, _, _, _, _, _, _, _, _, _, _, _, _, _, _, _, _, _], 56, true⟩]) lay2 rfl rfl rfl rfl rfl rfl ?_
  refine v_nil ?_
  refine q_n ?_
  refine w_seq ?_
  refine w_reg rfl ?_
  refine v_load_pt (.agg [_, _, _, _, _, _, _, _, _, _, _, _, _, _, _, _, _, _, _, _, _, _, _, _, _]) lay56 rfl rfl rfl rfl ?_
  refine v_store (H' := [_, ⟨[_, _, _, _, _, _, _, _, _, _, _, _, _, _, _, _, _, _, _, _, _, _, _, _, _], 56, true⟩, _]) lay56 rfl rfl rfl rfl rfl rfl ?_
  refine v_nil ?_
  refine q_n ?_
  refine w_ret ?_
  refine r_r rfl ?_
  exact a_agg (.cons tr_v (.cons tr_v (.cons tr_f (.cons tr_f (.cons tr_f (.cons tr_f (.cons tr_f (.cons tr_f (.cons tr_f (.cons tr_f (.cons tr_f (.cons tr_f (.cons tr_f (.cons tr_f (.cons tr_f (.cons tr_f (.cons tr_f (.cons tr_f (.cons tr_f (.cons tr_f (.cons tr_f (.cons tr_f (.cons tr_sl (.cons tr_sl (.cons tr_v .nil)))))))))))))))))))))))))
theorem cToJointS (ps : List Jo) (hx : ps.length ≤ 2 ^ 30) (hP : ∀ p ∈ ps, p.2.1.length ≤ 2 ^ 40 ∧ p.2.2.1.length ≤ 2 ^ 40) : PureC X 46 [.c (.sl false ps.length 25 (flat joc ps))] (.c (.sl true ps.length 25 (flat joc ps))) := by
  refine PureC.of_body (drawD_ok X) (fun _ _ => Go.Proofs.Tryz.call46 _ _) Go.Proofs.Tryz.func46 rfl (n := 23) rfl ?_
  refine w_seq ?_
  refine w_reg rfl ?_
  refine v_assign rfl ?_
  refine v_nil ?_
  refine q_n ?_
  refine w_seq ?_
  refine w_reg rfl ?_
  refine v_move rfl ?_
  refine v_len_sl lay24 rfl ?_
  refine v_make (enc := ozj) (a0 := none) (m := 0) (H' := [_]) rfl lay32 lay56 rfl rfl rfl rfl (ps.length) (rfl) (by unfold maxLen; simp only []; omega) rfl rfl ?_
  refine v_assign rfl ?_
  refine v_nil ?_
  refine q_n ?_
  refine w_seq ?_
  refine w_seq ?_
  refine w_reg rfl ?_
  refine v_assign (c := .v (.int .i64 0)) rfl ?_
  refine v_nil ?_
  refine q_n ?_
  refine w_block ?_
  refine w_loop (fun k sl H => ∃ i : Nat, k = ps.length - i ∧ i ≤ ps.length ∧ sl = sls [(0, .c (.sl false ps.length 25 (flat joc ps))), (3, .c (.mu 0 0 ps.length 25)), (4, cI i)] ∧ H = [⟨flat ozj ((ps.map some).take i ++ List.replicate ((ps.map some).length - i) none), 56, true⟩]) ?_ ?_
  · refine ⟨_, _, _, ?_, 0, rfl, Nat.zero_le _, rfl, rfl⟩
    exact turn [some 0] rfl rfl rfl ⟨⟨_, rfl, trc_flatz ozj_sc (by simp)⟩, trivial⟩ ⟨tr_sl, tr_mu rfl, tr_v, trivial⟩
  rintro k sl H ⟨i, rfl, hi, rfl, rfl⟩
  refine w_seq ?_
  refine w_seq ?_
  refine w_reg rfl ?_
  refine v_move rfl ?_
  refine v_move rfl ?_
  refine v_len_sl lay24 rfl ?_
  refine v_lss lay3 rfl rfl (fun h1 => ?_) (fun h1 => ?_)
  rotate_left
  · refine v_nil ?_
    refine q_n ?_
    refine w_f rfl ?_
    refine w_exit ?_
    refine q_e ?_
    refine q_e ?_
    refine q_hit ?_
    refine q_n ?_
    refine w_seq ?_
    refine w_reg rfl ?_
    refine v_move rfl ?_
    refine v_assign rfl ?_
    refine v_nil ?_
    refine q_n ?_
    refine w_ret ?_
    refine r_r rfl ?_
    obtain rfl : i = ps.length := by omega
    exact a_flatz joc_sc joc_len rfl (by rw [← ozj_flat, List.take_of_length_le (by simp)]; simp) rfl rfl
  have hi1 : i < ps.length := by omega
  refine v_nil ?_
  refine q_n ?_
  refine w_t rfl ?_
  refine w_skip ?_
  refine q_n ?_
  refine w_seq ?_
  refine w_block ?_
  refine w_reg rfl ?_
  refine v_move rfl ?_
  refine v_move rfl ?_
  refine v_move rfl ?_
  refine v_move rfl ?_
  refine v_idx_e (k := 25) (i) joc_len lay24 lay142 rfl rfl rfl (rfl) rfl (rfl) (hi1) ?_
  refine v_load_vw (.agg [.v _, .v _, .f _ _, .f _ _, .f _ _, .f _ _, .f _ _, .f _ _, .f _ _, .f _ _, .f _ _, .f _ _, .f _ _, .f _ _, .f _ _, .f _ _, .f _ _, .f _ _, .f _ _, .f _ _, .f _ _, .f _ _, _, _, .v _]) lay142 rfl rfl rfl ?_
  refine v_call (cToJoint _ (hP _ (List.getElem_mem hi1)).1 (hP _ (List.getElem_mem hi1)).2) rfl rfl rfl (.cons (vw_agg (.cons vw_v (.cons vw_v (.cons vw_f (.cons vw_f (.cons vw_f (.cons vw_f (.cons vw_f (.cons vw_f (.cons vw_f (.cons vw_f (.cons vw_f (.cons vw_f (.cons vw_f (.cons vw_f (.cons vw_f (.cons vw_f (.cons vw_f (.cons vw_f (.cons vw_f (.cons vw_f (.cons vw_f (.cons vw_f (.cons vw_sl (.cons vw_sl (.cons vw_v .nil)))))))))))))))))))))))))) .nil) ?_
  refine v_idx_mu_e (k := 25) (off := 0) (i) lay32 lay56 rfl rfl rfl (rfl) (hi1) ?_
  refine v_store_flat (H' := [_]) i 0 ((ps.map some)[i]'(by simpa using hi1)) ozj_len lay56 rfl rfl rfl (by omega) (by simp; omega) rfl rfl (by rw [List.getElem_map]; exact (ozj_set _ _).symm) rfl ?_
  refine v_nil ?_
  refine q_bn ?_
  refine q_n ?_
  refine w_reg rfl ?_
  refine v_move rfl ?_
  refine v_add lay3 rfl rfl (i64r (by omega)) ?_
  refine v_assign rfl ?_
  refine v_nil ?_
  refine q_n ?_
  refine ⟨_, _, _, ?_, ⟨i + 1, rfl, by omega, rfl, rfl⟩, by omega⟩
  exact turn [some 0] rfl rfl rfl ⟨⟨_, rfl, by rw [fill_step (xs := ps.map some) (by simpa using hi1)]; exact .stay (fun c hc => stays_fz (fz_flat ozj_sc _ c hc))⟩, trivial⟩ ⟨tr_sl, tr_mu rfl, tr_v, trivial⟩
theorem cSzJoint (j : Jo) (l : Int) (hl : 0 ≤ l ∧ l ≤ 2 ^ 20) (hx : j.2.1.length ≤ maxLen) (hy : j.2.2.1.length ≤ maxLen) : PureC X 98 [.agg (jof false j), cI l] (cI (szJ j l)) := by
  refine PureC.of_body (drawD_ok X) (fun _ _ => Go.Proofs.Tryz.call98 _ _) Go.Proofs.Tryz.func98 rfl (n := 18) rfl ?_
  refine w_seq ?_
  refine w_reg rfl ?_
  refine v_box (m := 0) (H' := [_]) lay142 rfl rfl rfl ?_
  refine v_assign (c := .v (.int .i64 0)) rfl ?_
  refine v_nil ?_
  refine q_n ?_
  refine w_seq ?_
  refine w_reg rfl ?_
  refine v_fa_pt (off' := 22) lay142 rfl rfl rfl ?_
  refine v_load_pt (.c _) lay54 rfl rfl rfl rfl ?_
  refine v_move rfl ?_
  refine v_call (cSzIntS _ _ (by first | exact hl | exact ⟨(szr_rng hl (by assumption)).1, (szr_rng hl (by assumption)).2.1⟩) (by assumption)) rfl rfl rfl (.cons vw_sl (.cons vw_v .nil)) ?_
  refine v_assign rfl ?_
  refine v_nil ?_
  refine q_n ?_
  refine w_seq ?_
  refine w_seq ?_
  refine w_reg rfl ?_
  refine v_move rfl ?_
  refine v_lss lay3 rfl rfl (fun h1 => ?_) (fun h1 => ?_)
  · refine v_nil ?_
    refine q_n ?_
    refine w_t rfl ?_
    refine w_seq ?_
    refine w_reg rfl ?_
    refine v_assign (c := .v (.int .i64 (-1))) rfl ?_
    refine v_nil ?_
    refine q_n ?_
    refine w_ret (q_r ?_)
    refine r_r rfl ?_
    exact a_i (by unfold szJ; rw [szr_neg h1])
  refine v_nil ?_
  refine q_n ?_
  refine w_f rfl ?_
  refine w_skip ?_
  refine q_n ?_
  refine w_seq ?_
  refine w_reg rfl ?_
  refine v_fa_pt (off' := 23) lay142 rfl rfl rfl ?_
  refine v_load_pt (.c _) lay54 rfl rfl rfl rfl ?_
  refine v_move rfl ?_
  refine v_call (cSzIntS _ _ (by first | exact hl | exact ⟨(szr_rng hl (by assumption)).1, (szr_rng hl (by assumption)).2.1⟩) (by assumption)) rfl rfl rfl (.cons vw_sl (.cons vw_v .nil)) ?_
  refine v_assign rfl ?_
  refine v_nil ?_
  refine q_n ?_
  refine w_seq ?_
  refine w_seq ?_
  refine w_reg rfl ?_
  refine v_move rfl ?_
  refine v_lss lay3 rfl rfl (fun h2 => ?_) (fun h2 => ?_)
  rotate_left
  · refine v_nil ?_
    refine q_n ?_
    refine w_f rfl ?_
    refine w_skip ?_
    refine q_n ?_
    refine w_seq ?_
    refine w_reg rfl ?_
    refine v_move rfl ?_
    refine v_assign rfl ?_
    refine v_nil ?_
    refine q_n ?_
    refine w_ret ?_
    refine r_r rfl ?_
    exact a_i rfl
  refine v_nil ?_
  refine q_n ?_
  refine w_t rfl ?_
  refine w_seq ?_
  refine w_reg rfl ?_
  refine v_assign (c := .v (.int .i64 (-1))) rfl ?_
  refine v_nil ?_
  refine q_n ?_
  refine w_ret (q_r ?_)
  refine r_r rfl ?_
  exact a_i (by unfold szJ at *; unfold szr at *; split at h2 <;> omega)
theorem cSzJointS (ps : List Jo) (l : Int) (hl : 0 ≤ l ∧ l ≤ 2 ^ 20) (hx : ps.length ≤ maxLen) (hM : ∀ p ∈ ps, p.2.1.length ≤ maxLen ∧ p.2.2.1.length ≤ maxLen) : PureC X 41 [.c (.sl false ps.length 25 (flat joc ps)), cI l] (cI (szL szJ ps l)) := by
  refine PureC.of_body (drawD_ok X) (fun _ _ => Go.Proofs.Tryz.call41 _ _) Go.Proofs.Tryz.func41 rfl (n := 27) rfl ?_
  refine w_seq ?_
  refine w_reg rfl ?_
  refine v_assign (c := .v (.int .i64 0)) rfl ?_
  refine v_nil ?_
  refine q_n ?_
  refine w_seq ?_
  refine w_reg rfl ?_
  refine v_move rfl ?_
  refine v_move rfl ?_
  refine v_len_sl lay24 rfl ?_
  refine v_sub lay3 rfl rfl (i64r (by unfold maxLen at hx; omega)) ?_
  refine v_assign rfl ?_
  refine v_nil ?_
  refine q_n ?_
  refine w_seq ?_
  refine w_seq ?_
  refine w_reg rfl ?_
  refine v_move rfl ?_
  refine v_lss lay3 rfl rfl (fun h1 => ?_) (fun h1 => ?_)
  · refine v_nil ?_
    refine q_n ?_
    refine w_t rfl ?_
    refine w_seq ?_
    refine w_reg rfl ?_
    refine v_assign (c := .v (.int .i64 (-1))) rfl ?_
    refine v_nil ?_
    refine q_n ?_
    refine w_ret (q_r ?_)
    refine r_r rfl ?_
    exact a_i (by unfold szL; rw [if_pos h1])
  refine v_nil ?_
  refine q_n ?_
  refine w_f rfl ?_
  refine w_skip ?_
  refine q_n ?_
  refine w_seq ?_
  refine w_seq ?_
  refine w_reg rfl ?_
  refine v_assign (c := .v (.int .i64 0)) rfl ?_
  refine v_nil ?_
  refine q_n ?_
  refine w_block ?_
  refine w_loop (fun k sl H => ∃ (i : Nat) (l1 : Int), k = ps.length - i ∧ i ≤ ps.length ∧ szG szJ (ps.drop i) l1 = szG szJ ps (l - ps.length) ∧ (0 ≤ l1 ∧ l1 ≤ 2 ^ 20) ∧ sl = sls [(0, .c (.sl false ps.length 25 (flat joc ps))), (1, cI l1), (5, cI i)] ∧ H = []) ?_ ?_
  · refine ⟨_, _, _, ?_, 0, l - ps.length, rfl, Nat.zero_le _, rfl, ⟨by omega, by omega⟩, rfl, rfl⟩
    exact turn0 ⟨tr_sl, tr_v, tr_v, trivial⟩
  rintro k sl H ⟨i, l1, rfl, hi, hp, hl1, rfl, rfl⟩
  refine w_seq ?_
  refine w_seq ?_
  refine w_reg rfl ?_
  refine v_move rfl ?_
  refine v_move rfl ?_
  refine v_len_sl lay24 rfl ?_
  refine v_lss lay3 rfl rfl (fun h2 => ?_) (fun h2 => ?_)
  rotate_left
  · refine v_nil ?_
    refine q_n ?_
    refine w_f rfl ?_
    refine w_exit ?_
    refine q_e ?_
    refine q_e ?_
    refine q_hit ?_
    refine q_n ?_
    refine w_seq ?_
    refine w_reg rfl ?_
    refine v_move rfl ?_
    refine v_assign rfl ?_
    refine v_nil ?_
    refine q_n ?_
    refine w_ret ?_
    refine r_r rfl ?_
    obtain rfl : i = ps.length := by omega
    exact a_i (by unfold szL; rw [if_neg h1, ← hp, List.drop_length]; rfl)
  have hi1 : i < ps.length := by omega
  refine v_nil ?_
  refine q_n ?_
  refine w_t rfl ?_
  refine w_skip ?_
  refine q_n ?_
  refine w_seq ?_
  refine w_block ?_
  refine w_seq ?_
  refine w_reg rfl ?_
  refine v_move rfl ?_
  refine v_move rfl ?_
  refine v_idx_e (k := 25) (i) joc_len lay24 lay142 rfl rfl rfl (rfl) rfl (rfl) (hi1) ?_
  refine v_load_vw (.agg [.v _, .v _, .f _ _, .f _ _, .f _ _, .f _ _, .f _ _, .f _ _, .f _ _, .f _ _, .f _ _, .f _ _, .f _ _, .f _ _, .f _ _, .f _ _, .f _ _, .f _ _, .f _ _, .f _ _, .f _ _, .f _ _, _, _, .v _]) lay142 rfl rfl rfl ?_
  refine v_move rfl ?_
  refine v_call (cSzJoint _ _ hl1 (hM _ (List.getElem_mem hi1)).1 (hM _ (List.getElem_mem hi1)).2) rfl rfl rfl (.cons (vw_agg (.cons vw_v (.cons vw_v (.cons vw_f (.cons vw_f (.cons vw_f (.cons vw_f (.cons vw_f (.cons vw_f (.cons vw_f (.cons vw_f (.cons vw_f (.cons vw_f (.cons vw_f (.cons vw_f (.cons vw_f (.cons vw_f (.cons vw_f (.cons vw_f (.cons vw_f (.cons vw_f (.cons vw_f (.cons vw_f (.cons vw_sl (.cons vw_sl (.cons vw_v .nil)))))))))))))))))))))))))) (.cons vw_v .nil)) ?_
  refine v_assign rfl ?_
  refine v_nil ?_
  refine q_n ?_
  refine w_seq ?_
  refine w_reg rfl ?_
  refine v_move rfl ?_
  refine v_lss lay3 rfl rfl (fun h4 => ?_) (fun h4 => ?_)
  · have hneg : szJ ps[i] l1 < 0 := h4
    refine v_nil ?_
    refine q_n ?_
    refine w_t rfl ?_
    refine w_seq ?_
    refine w_reg rfl ?_
    refine v_assign (c := .v (.int .i64 (-1))) rfl ?_
    refine v_nil ?_
    refine q_n ?_
    refine w_ret (q_br (q_r (q_r (q_br (q_r ?_)))))
    refine r_r rfl ?_
    exact a_i (by unfold szL; rw [if_neg h1, ← hp, szG_at hi1, if_pos hneg])
  have hneg : ¬ szJ ps[i] l1 < 0 := h4
  refine v_nil ?_
  refine q_n ?_
  refine w_f rfl ?_
  refine w_skip ?_
  refine q_bn ?_
  refine q_n ?_
  refine w_reg rfl ?_
  refine v_move rfl ?_
  refine v_add lay3 rfl rfl (i64r (by unfold maxLen at hx; omega)) ?_
  refine v_assign rfl ?_
  refine v_nil ?_
  refine q_n ?_
  rw [szG_at hi1, if_neg hneg] at hp
  have hr := (szJ_le _ _ hl1 hneg).1
  refine ⟨_, _, _, ?_, ⟨i + 1, _, rfl, by omega, hp, hr, rfl, rfl⟩, by omega⟩
  exact turn0 ⟨tr_sl, tr_v, tr_v, trivial⟩
theorem cEqJoint (j : Jo) (hx : j.2.1.length ≤ 2 ^ 40) (hy : j.2.2.1.length ≤ 2 ^ 40) (hW : jW j.1) : PureC X 125 [.agg (jof false j), .agg (jof false j)] (cB (decide True)) := by
  refine PureC.of_body (drawD_ok X) (fun _ _ => Go.Proofs.Tryz.call125 _ _) Go.Proofs.Tryz.func125 rfl (n := 28) rfl ?_
  refine w_seq ?_
  refine w_reg rfl ?_
  refine v_box (m := 0) (H' := [_]) lay56 rfl rfl rfl ?_
  refine v_box (m := 1) (H' := [_, _]) lay56 rfl rfl rfl ?_
  refine v_assign (c := .v (.bool false)) rfl ?_
  refine v_nil ?_
  refine q_n ?_
  refine w_seq ?_
  refine w_seq ?_
  refine w_reg rfl ?_
  refine v_fa_pt (off' := 0) lay56 rfl rfl rfl ?_
  refine v_load_pt (.agg [_, _, _, _, _, _, _, _, _, _, _, _, _, _, _, _, _, _, _, _, _, _]) lay53 rfl rfl rfl rfl ?_
  refine v_fa_pt (off' := 0) lay56 rfl rfl rfl ?_
  refine v_load_pt (.agg [_, _, _, _, _, _, _, _, _, _, _, _, _, _, _, _, _, _, _, _, _, _]) lay53 rfl rfl rfl rfl ?_
  refine v_callb (cEqJunction _ hW) rfl rfl (.cons (vw_agg (.cons vw_v (.cons vw_v (.cons vw_f (.cons vw_f (.cons vw_f (.cons vw_f (.cons vw_f (.cons vw_f (.cons vw_f (.cons vw_f (.cons vw_f (.cons vw_f (.cons vw_f (.cons vw_f (.cons vw_f (.cons vw_f (.cons vw_f (.cons vw_f (.cons vw_f (.cons vw_f (.cons vw_f (.cons vw_f .nil))))))))))))))))))))))) (.cons (vw_agg (.cons vw_v (.cons vw_v (.cons vw_f (.cons vw_f (.cons vw_f (.cons vw_f (.cons vw_f (.cons vw_f (.cons vw_f (.cons vw_f (.cons vw_f (.cons vw_f (.cons vw_f (.cons vw_f (.cons vw_f (.cons vw_f (.cons vw_f (.cons vw_f (.cons vw_f (.cons vw_f (.cons vw_f (.cons vw_f .nil))))))))))))))))))))))) .nil)) (fun h1 => ?_) (fun h1 => ?_)
  rotate_left
  · exact absurd trivial h1
  refine v_not false rfl rfl ?_
  refine v_nil ?_
  refine q_n ?_
  refine w_f rfl ?_
  refine w_skip ?_
  refine q_n ?_
  refine w_seq ?_
  refine w_seq ?_
  refine w_reg rfl ?_
  refine v_fa_pt (off' := 22) lay56 rfl rfl rfl ?_
  refine v_load_pt (.c _) lay54 rfl rfl rfl rfl ?_
  refine v_fa_pt (off' := 22) lay56 rfl rfl rfl ?_
  refine v_load_pt (.c _) lay54 rfl rfl rfl rfl ?_
  refine v_callb (cEqIntS _ (by omega)) rfl rfl (.cons vw_sl (.cons vw_sl .nil)) (fun h2 => ?_) (fun h2 => ?_)
  rotate_left
  · exact absurd trivial h2
  refine v_not false rfl rfl ?_
  refine v_nil ?_
  refine q_n ?_
  refine w_f rfl ?_
  refine w_skip ?_
  refine q_n ?_
  refine w_seq ?_
  refine w_seq ?_
  refine w_reg rfl ?_
  refine v_fa_pt (off' := 23) lay56 rfl rfl rfl ?_
  refine v_load_pt (.c _) lay54 rfl rfl rfl rfl ?_
  refine v_fa_pt (off' := 23) lay56 rfl rfl rfl ?_
  refine v_load_pt (.c _) lay54 rfl rfl rfl rfl ?_
  refine v_callb (cEqIntS _ (by omega)) rfl rfl (.cons vw_sl (.cons vw_sl .nil)) (fun h3 => ?_) (fun h3 => ?_)
  rotate_left
  · exact absurd trivial h3
  refine v_not false rfl rfl ?_
  refine v_nil ?_
  refine q_n ?_
  refine w_f rfl ?_
  refine w_skip ?_
  refine q_n ?_
  refine w_seq ?_
  refine w_seq ?_
  refine w_reg rfl ?_
  refine v_fa_pt (off' := 24) lay56 rfl rfl rfl ?_
  refine v_load_pt (.c _) lay2 rfl rfl rfl rfl ?_
  refine v_fa_pt (off' := 24) lay56 rfl rfl rfl ?_
  refine v_load_pt (.c _) lay2 rfl rfl rfl rfl ?_
  refine v_neq lay2 rfl rfl (fun h4 => ?_) (fun h4 => ?_)
  · exact absurd rfl h4
  refine v_nil ?_
  refine q_n ?_
  refine w_f rfl ?_
  refine w_skip ?_
  refine q_n ?_
  refine w_seq ?_
  refine w_reg rfl ?_
  refine v_assign (c := .v (.bool true)) rfl ?_
  refine v_nil ?_
  refine q_n ?_
  refine w_ret ?_
  refine r_r rfl ?_
  exact a_b ⟨fun _ => trivial, fun _ => rfl⟩
theorem cEqJointS (xs : List Jo) (hx : xs.length ≤ 2 ^ 40) (hw : ∀ x ∈ xs, (x.2.1.length ≤ 2 ^ 40 ∧ x.2.2.1.length ≤ 2 ^ 40) ∧ jW x.1) : PureC X 60 [.c (.sl false xs.length 25 (flat joc xs)), .c (.sl false xs.length 25 (flat joc xs))] (cB (decide True)) := by
  refine PureC.of_body (drawD_ok X) (fun _ _ => Go.Proofs.Tryz.call60 _ _) Go.Proofs.Tryz.func60 rfl (n := 27) rfl ?_
  refine w_seq ?_
  refine w_reg rfl ?_
  refine v_assign (c := .v (.bool false)) rfl ?_
  refine v_nil ?_
  refine q_n ?_
  refine w_seq ?_
  refine w_seq ?_
  refine w_reg rfl ?_
  refine v_move rfl ?_
  refine v_len_sl lay32 rfl ?_
  refine v_move rfl ?_
  refine v_len_sl lay32 rfl ?_
  refine v_neq lay3 rfl rfl (fun h1 => ?_) (fun h1 => ?_)
  · exact absurd rfl h1
  refine v_nil ?_
  refine q_n ?_
  refine w_f rfl ?_
  refine w_skip ?_
  refine q_n ?_
  refine w_seq ?_
  refine w_seq ?_
  refine w_reg rfl ?_
  refine v_assign (c := .v (.int .i64 0)) rfl ?_
  refine v_nil ?_
  refine q_n ?_
  refine w_block ?_
  refine w_loop (fun k sl H => ∃ i : Nat, k = xs.length - i ∧ i ≤ xs.length ∧ sl = sls [(0, .c (.sl false xs.length 25 (flat joc xs))), (1, .c (.sl false xs.length 25 (flat joc xs))), (5, cI i)] ∧ H = []) ?_ ?_
  · refine ⟨_, _, _, ?_, 0, rfl, Nat.zero_le _, rfl, rfl⟩
    exact turn0 ⟨tr_sl, tr_sl, tr_v, trivial⟩
  rintro k sl H ⟨i, rfl, hi, rfl, rfl⟩
  refine w_seq ?_
  refine w_seq ?_
  refine w_reg rfl ?_
  refine v_move rfl ?_
  refine v_move rfl ?_
  refine v_len_sl lay32 rfl ?_
  refine v_lss lay3 rfl rfl (fun h2 => ?_) (fun h2 => ?_)
  rotate_left
  · refine v_nil ?_
    refine q_n ?_
    refine w_f rfl ?_
    refine w_exit ?_
    refine q_e ?_
    refine q_e ?_
    refine q_hit ?_
    refine q_n ?_
    refine w_seq ?_
    refine w_reg rfl ?_
    refine v_assign (c := .v (.bool true)) rfl ?_
    refine v_nil ?_
    refine q_n ?_
    refine w_ret ?_
    refine r_r rfl ?_
    exact a_b ⟨fun _ => trivial, fun _ => rfl⟩
  have i1 : i < xs.length := by omega
  refine v_nil ?_
  refine q_n ?_
  refine w_t rfl ?_
  refine w_skip ?_
  refine q_n ?_
  refine w_seq ?_
  refine w_block ?_
  refine w_seq ?_
  refine w_draw [0, 0, 3, 7, 0, 0, 48, 112, 255, 511] [⟨0, 0, []⟩, ⟨1, 0, []⟩, ⟨2, 0, []⟩, ⟨3, 0, []⟩, ⟨4, 0, []⟩, ⟨5, 0, []⟩, ⟨6, 0, []⟩, ⟨7, 0, []⟩, ⟨8, 0, []⟩, ⟨9, 0, []⟩] rfl rfl ?_
  refine d_q rfl rfl rfl rfl rfl ?_
  refine v_move rfl ?_
  refine v_nil ?_
  refine d_q rfl rfl rfl rfl rfl ?_
  refine v_move rfl ?_
  refine v_nil ?_
  refine d_q rfl rfl rfl rfl rfl ?_
  refine v_idx_e (k := 25) (i) joc_len lay32 lay56 rfl rfl rfl (rfl) rfl (rfl) (i1) ?_
  refine v_nil ?_
  refine d_q rfl rfl rfl rfl rfl ?_
  refine v_load_vw (.agg [.v _, .v _, .f _ _, .f _ _, .f _ _, .f _ _, .f _ _, .f _ _, .f _ _, .f _ _, .f _ _, .f _ _, .f _ _, .f _ _, .f _ _, .f _ _, .f _ _, .f _ _, .f _ _, .f _ _, .f _ _, .f _ _, _, _, .v _]) lay56 rfl rfl rfl ?_
  refine v_nil ?_
  refine d_q rfl rfl rfl rfl rfl ?_
  refine v_move rfl ?_
  refine v_nil ?_
  refine d_q rfl rfl rfl rfl rfl ?_
  refine v_move rfl ?_
  refine v_nil ?_
  refine d_q rfl rfl rfl rfl rfl ?_
  refine v_idx_e (k := 25) (i) joc_len lay32 lay56 rfl rfl rfl (rfl) rfl (rfl) (i1) ?_
  refine v_nil ?_
  refine d_q rfl rfl rfl rfl rfl ?_
  refine v_load_vw (.agg [.v _, .v _, .f _ _, .f _ _, .f _ _, .f _ _, .f _ _, .f _ _, .f _ _, .f _ _, .f _ _, .f _ _, .f _ _, .f _ _, .f _ _, .f _ _, .f _ _, .f _ _, .f _ _, .f _ _, .f _ _, .f _ _, _, _, .v _]) lay56 rfl rfl rfl ?_
  refine v_nil ?_
  refine d_callb (cEqJoint _ (hw _ (List.getElem_mem i1)).1.1 (hw _ (List.getElem_mem i1)).1.2 (hw _ (List.getElem_mem i1)).2) rfl rfl rfl rfl (.cons (vw_agg (.cons vw_v (.cons vw_v (.cons vw_f (.cons vw_f (.cons vw_f (.cons vw_f (.cons vw_f (.cons vw_f (.cons vw_f (.cons vw_f (.cons vw_f (.cons vw_f (.cons vw_f (.cons vw_f (.cons vw_f (.cons vw_f (.cons vw_f (.cons vw_f (.cons vw_f (.cons vw_f (.cons vw_f (.cons vw_f (.cons vw_sl (.cons vw_sl (.cons vw_v .nil)))))))))))))))))))))))))) (.cons (vw_agg (.cons vw_v (.cons vw_v (.cons vw_f (.cons vw_f (.cons vw_f (.cons vw_f (.cons vw_f (.cons vw_f (.cons vw_f (.cons vw_f (.cons vw_f (.cons vw_f (.cons vw_f (.cons vw_f (.cons vw_f (.cons vw_f (.cons vw_f (.cons vw_f (.cons vw_f (.cons vw_f (.cons vw_f (.cons vw_f (.cons vw_sl (.cons vw_sl (.cons vw_v .nil)))))))))))))))))))))))))) .nil)) (fun h5 => ?_) (fun h5 => ?_)
  rotate_left
  · exact absurd trivial h5
  refine d_q rfl rfl rfl rfl rfl ?_
  refine v_not false rfl rfl ?_
  refine v_nil ?_
  refine d_nil ?_
  refine q_n ?_
  refine w_f rfl ?_
  refine w_skip ?_
  refine q_bn ?_
  refine q_n ?_
  refine w_reg rfl ?_
  refine v_move rfl ?_
  refine v_add lay3 rfl rfl (i64r (by omega)) ?_
  refine v_assign rfl ?_
  refine v_nil ?_
  refine q_n ?_
  refine ⟨_, _, _, ?_, ⟨i + 1, rfl, by omega, rfl, rfl⟩, by omega⟩
  exact turn0 ⟨tr_sl, tr_sl, tr_v, trivial⟩
end Go.VL
namespace Go.VL
open Go.RowKit
set_option maxRecDepth 20000
set_option maxHeartbeats 8000000
abbrev Tw := List Rd × List (Option Nat) × List Jo × List Pln × Int × Option Nat × Option Nat
abbrev twf (o : Bool) (t : Tw) : List C := [rds o t.1, flo o t.2.1, jos o t.2.2.1, pls o t.2.2.2.1, .v (.int .i64 t.2.2.2.2.1), .f .f32 t.2.2.2.2.2.1, .f .f32 t.2.2.2.2.2.2]
/-- How long the lists of a town are at most. -/
def tB (n : Nat) (t : Tw) : Prop := t.1.length ≤ n ∧ t.2.1.length ≤ n ∧ t.2.2.1.length ≤ n ∧ (∀ j ∈ t.2.2.1, j.2.1.length ≤ n ∧ j.2.2.1.length ≤ n) ∧ t.2.2.2.1.length ≤ n ∧ ∀ p ∈ t.2.2.2.1, p.1.length ≤ n
/-- Slots whose ticks are words. -/
def pW (p : Pln) : Prop := ∀ s ∈ p.1, -9223372036854775808 ≤ s.2 ∧ s.2 ≤ 9223372036854775807
/-- A town's numbers are singles, and words. -/
def tF (t : Tw) : Prop := (∀ r ∈ t.1, rW r) ∧ (∀ x ∈ t.2.1, Sg x) ∧ (∀ j ∈ t.2.2.1, jW j.1) ∧ Sg t.2.2.2.2.2.1 ∧ Sg t.2.2.2.2.2.2 ∧ ∀ p ∈ t.2.2.2.1, pW p
theorem tB_mono {n m : Nat} (h : n ≤ m) {t : Tw} (ht : tB n t) : tB m t :=
  ⟨by have := ht.1; omega, by have := ht.2.1; omega, by have := ht.2.2.1; omega, fun j hj => by have := ht.2.2.2.1 j hj; omega, by have := ht.2.2.2.2.1; omega, fun p hp => by have := ht.2.2.2.2.2 p hp; omega⟩
def szT (t : Tw) (l : Int) : Int := szL szP t.2.2.2.1 (szL szJ t.2.2.1 (szr t.2.1.length (szr t.1.length l)))
theorem szT_le {t : Tw} {l : Int} (hl : 0 ≤ l ∧ l ≤ 2 ^ 20) (h : ¬ szT t l < 0) : tB (2 ^ 20) t ∧ 0 ≤ szT t l ∧ szT t l ≤ 2 ^ 20 := by
  unfold szT at h ⊢
  by_cases h1 : szr t.1.length l < 0
  · rw [szr_neg h1, szL_neg (f := szJ) (show (-1 : Int) < 0 by decide), szL_neg (by decide)] at h
    exact absurd (show (-1 : Int) < 0 by decide) h
  have a1 := szr_rng hl h1
  by_cases h2 : szr t.2.1.length (szr t.1.length l) < 0
  · rw [szL_neg (f := szJ) h2, szL_neg (by decide)] at h
    exact absurd (show (-1 : Int) < 0 by decide) h
  have a2 := szr_rng ⟨a1.1, a1.2.1⟩ h2
  by_cases h3 : szL szJ t.2.2.1 (szr t.2.1.length (szr t.1.length l)) < 0
  · rw [szL_neg (by omega)] at h
    exact absurd (show (-1 : Int) < 0 by decide) h
  obtain ⟨b1, b2, b3⟩ := szL_le szJ_le ⟨a2.1, a2.2.1⟩ h3
  obtain ⟨c1, c2, c3⟩ := szL_le szP_le b3 h
  exact ⟨⟨by omega, by omega, b1, b2, c1, c2⟩, c3⟩
theorem szT_1 {t : Tw} {l : Int} (h : szr t.1.length l < 0) : szT t l = -1 := by
  unfold szT
  rw [szr_neg h, szL_neg (f := szJ) (show (-1 : Int) < 0 by decide), szL_neg (by decide)]
theorem szT_2 {t : Tw} {l : Int} (h : szr t.2.1.length (szr t.1.length l) < 0) : szT t l = -1 := by
  unfold szT
  rw [szL_neg (f := szJ) h, szL_neg (by decide)]
theorem szT_3 {t : Tw} {l : Int} (h : szL szJ t.2.2.1 (szr t.2.1.length (szr t.1.length l)) < 0) : szT t l = -1 := by
  unfold szT
  rw [szL_neg h]
theorem szL_m1 {α : Type} {f : α → Int → Int} {ps : List α} {l : Int} (h : szL f ps l < 0) : szL f ps l = -1 := by
  unfold szL at h ⊢
  split at h
  · rename_i h1
    rw [if_pos h1]
  · rename_i h1
    rw [if_neg h1]
    generalize l - (ps.length : Int) = q at h h1
    induction ps generalizing q with
    | nil => exact absurd h h1
    | cons p r ih =>
      unfold szG at h ⊢
      split at h
      · rename_i h2
        rw [if_pos h2]
      · rename_i h2
        rw [if_neg h2]
        exact ih _ h h2
theorem szT_4 {t : Tw} {l : Int} (h : szT t l < 0) : szT t l = -1 := szL_m1 h
theorem cSzTown (t : Tw) (l : Int) (hl : 0 ≤ l ∧ l ≤ 2 ^ 20) (hM : tB maxLen t) : PureC X 11 [.agg (twf false t), cI l] (cI (szT t l)) := by
  refine PureC.of_body (drawD_ok X) (fun _ _ => Go.Proofs.Tryz.call11 _ _) Go.Proofs.Tryz.func11 rfl (n := 30) rfl ?_
  refine w_seq ?_
  refine w_reg rfl ?_
  refine v_box (m := 0) (H' := [_]) lay28 rfl rfl rfl ?_
  refine v_assign (c := .v (.int .i64 0)) rfl ?_
  refine v_nil ?_
  refine q_n ?_
  refine w_seq ?_
  refine w_reg rfl ?_
  refine v_fa_pt (off' := 0) lay28 rfl rfl rfl ?_
  refine v_load_pt (.c _) lay22 rfl rfl rfl rfl ?_
  refine v_move rfl ?_
  refine v_call (cSzRoadS _ _ hl hM.1) rfl rfl rfl (.cons vw_sl (.cons vw_v .nil)) ?_
  refine v_assign rfl ?_
  refine v_nil ?_
  refine q_n ?_
  refine w_seq ?_
  refine w_seq ?_
  refine w_reg rfl ?_
  refine v_move rfl ?_
  refine v_lss lay3 rfl rfl (fun h1 => ?_) (fun h1 => ?_)
  · refine v_nil ?_
    refine q_n ?_
    refine w_t rfl ?_
    refine w_seq ?_
    refine w_reg rfl ?_
    refine v_assign (c := .v (.int .i64 (-1))) rfl ?_
    refine v_nil ?_
    refine q_n ?_
    refine w_ret (q_r ?_)
    refine r_r rfl ?_
    exact a_i (szT_1 h1).symm
  have a1 := szr_rng hl h1
  refine v_nil ?_
  refine q_n ?_
  refine w_f rfl ?_
  refine w_skip ?_
  refine q_n ?_
  refine w_seq ?_
  refine w_reg rfl ?_
  refine v_fa_pt (off' := 1) lay28 rfl rfl rfl ?_
  refine v_load_pt (.c _) lay23 rfl rfl rfl rfl ?_
  refine v_move rfl ?_
  refine v_call (cSzFloatS _ _ ⟨a1.1, a1.2.1⟩ hM.2.1) rfl rfl rfl (.cons vw_sl (.cons vw_v .nil)) ?_
  refine v_assign rfl ?_
  refine v_nil ?_
  refine q_n ?_
  refine w_seq ?_
  refine w_seq ?_
  refine w_reg rfl ?_
  refine v_move rfl ?_
  refine v_lss lay3 rfl rfl (fun h2 => ?_) (fun h2 => ?_)
  · refine v_nil ?_
    refine q_n ?_
    refine w_t rfl ?_
    refine w_seq ?_
    refine w_reg rfl ?_
    refine v_assign (c := .v (.int .i64 (-1))) rfl ?_
    refine v_nil ?_
    refine q_n ?_
    refine w_ret (q_r ?_)
    refine r_r rfl ?_
    exact a_i (szT_2 h2).symm
  have a2 := szr_rng ⟨a1.1, a1.2.1⟩ h2
  refine v_nil ?_
  refine q_n ?_
  refine w_f rfl ?_
  refine w_skip ?_
  refine q_n ?_
  refine w_seq ?_
  refine w_reg rfl ?_
  refine v_fa_pt (off' := 2) lay28 rfl rfl rfl ?_
  refine v_load_pt (.c _) lay24 rfl rfl rfl rfl ?_
  refine v_move rfl ?_
  refine v_call (cSzJointS _ _ ⟨a2.1, a2.2.1⟩ hM.2.2.1 hM.2.2.2.1) rfl rfl rfl (.cons vw_sl (.cons vw_v .nil)) ?_
  refine v_assign rfl ?_
  refine v_nil ?_
  refine q_n ?_
  refine w_seq ?_
  refine w_seq ?_
  refine w_reg rfl ?_
  refine v_move rfl ?_
  refine v_lss lay3 rfl rfl (fun h3 => ?_) (fun h3 => ?_)
  · refine v_nil ?_
    refine q_n ?_
    refine w_t rfl ?_
    refine w_seq ?_
    refine w_reg rfl ?_
    refine v_assign (c := .v (.int .i64 (-1))) rfl ?_
    refine v_nil ?_
    refine q_n ?_
    refine w_ret (q_r ?_)
    refine r_r rfl ?_
    exact a_i (szT_3 h3).symm
  have a3 := (szL_le szJ_le ⟨a2.1, a2.2.1⟩ h3).2.2
  refine v_nil ?_
  refine q_n ?_
  refine w_f rfl ?_
  refine w_skip ?_
  refine q_n ?_
  refine w_seq ?_
  refine w_reg rfl ?_
  refine v_fa_pt (off' := 3) lay28 rfl rfl rfl ?_
  refine v_load_pt (.c _) lay25 rfl rfl rfl rfl ?_
  refine v_move rfl ?_
  refine v_call (cSzPlanS _ _ a3 hM.2.2.2.2.1 hM.2.2.2.2.2) rfl rfl rfl (.cons vw_sl (.cons vw_v .nil)) ?_
  refine v_assign rfl ?_
  refine v_nil ?_
  refine q_n ?_
  refine w_seq ?_
  refine w_seq ?_
  refine w_reg rfl ?_
  refine v_move rfl ?_
  refine v_lss lay3 rfl rfl (fun h4 => ?_) (fun h4 => ?_)
  · refine v_nil ?_
    refine q_n ?_
    refine w_t rfl ?_
    refine w_seq ?_
    refine w_reg rfl ?_
    refine v_assign (c := .v (.int .i64 (-1))) rfl ?_
    refine v_nil ?_
    refine q_n ?_
    refine w_ret (q_r ?_)
    refine r_r rfl ?_
    exact a_i (szT_4 h4).symm
  refine v_nil ?_
  refine q_n ?_
  refine w_f rfl ?_
  refine w_skip ?_
  refine q_n ?_
  refine w_seq ?_
  refine w_reg rfl ?_
  refine v_move rfl ?_
  refine v_assign rfl ?_
  refine v_nil ?_
  refine q_n ?_
  refine w_ret ?_
  refine r_r rfl ?_
  exact a_i rfl
theorem cToTown (t : Tw) (hB : tB (2 ^ 20) t) : PureC X 13 [.agg (twf false t)] (.agg (twf true t)) := by
  refine PureC.of_body (drawD_ok X) (fun _ _ => Go.Proofs.Tryz.call13 _ _) Go.Proofs.Tryz.func13 rfl (n := 30) rfl ?_
  refine w_seq ?_
  refine w_reg rfl ?_
  refine v_box (m := 0) (H' := [_]) lay28 rfl rfl rfl ?_
  refine v_alloc (m := 1) (H' := [_, ⟨[.v _, .v _, .v _, .v _, .v _, .f _ _, .f _ _], 35, true⟩]) lay35 rfl rfl ?_
  refine v_nil ?_
  refine q_n ?_
  refine w_seq ?_
  refine w_reg rfl ?_
  refine v_alloc (m := 2) (H' := [_, _, ⟨[.v _, .v _, .v _, .v _, .v _, .f _ _, .f _ _], 35, true⟩]) lay35 rfl rfl ?_
  refine v_nil ?_
  refine q_n ?_
  refine w_seq ?_
  refine w_reg rfl ?_
  refine v_fa_pt (off' := 0) lay28 rfl rfl rfl ?_
  refine v_load_pt (.c _) lay22 rfl rfl rfl rfl ?_
  refine v_call (cToRoadS _ (by have := hB.1; omega)) rfl rfl rfl (.cons vw_sl .nil) ?_
  refine v_fa_pt (off' := 0) lay35 rfl rfl rfl ?_
  refine v_store (H' := [_, _, ⟨[_, _, _, _, _, _, _], 35, true⟩]) lay31 rfl rfl rfl rfl rfl rfl ?_
  refine v_nil ?_
  refine q_n ?_
  refine w_seq ?_
  refine w_reg rfl ?_
  refine v_fa_pt (off' := 1) lay28 rfl rfl rfl ?_
  refine v_load_pt (.c _) lay23 rfl rfl rfl rfl ?_
  refine v_call (cToFloatS _ (by have := hB.2.1; omega)) rfl rfl rfl (.cons vw_sl .nil) ?_
  refine v_fa_pt (off' := 1) lay35 rfl rfl rfl ?_
  refine v_store (H' := [_, _, ⟨[_, _, _, _, _, _, _], 35, true⟩]) lay23 rfl rfl rfl rfl rfl rfl ?_
  refine v_nil ?_
  refine q_n ?_
  refine w_seq ?_
  refine w_reg rfl ?_
  refine v_fa_pt (off' := 2) lay28 rfl rfl rfl ?_
  refine v_load_pt (.c _) lay24 rfl rfl rfl rfl ?_
  refine v_call (cToJointS _ (by have := hB.2.2.1; omega) (fun j hj => by have := hB.2.2.2.1 j hj; omega)) rfl rfl rfl (.cons vw_sl .nil) ?_
  refine v_fa_pt (off' := 2) lay35 rfl rfl rfl ?_
  refine v_store (H' := [_, _, ⟨[_, _, _, _, _, _, _], 35, true⟩]) lay32 rfl rfl rfl rfl rfl rfl ?_
  refine v_nil ?_
  refine q_n ?_
  refine w_seq ?_
  refine w_reg rfl ?_
  refine v_fa_pt (off' := 3) lay28 rfl rfl rfl ?_
  refine v_load_pt (.c _) lay25 rfl rfl rfl rfl ?_
  refine v_call (cToPlanS _ (by have := hB.2.2.2.2.1; omega) (fun p hp => by have := hB.2.2.2.2.2 p hp; omega)) rfl rfl rfl (.cons vw_sl .nil) ?_
  refine v_fa_pt (off' := 3) lay35 rfl rfl rfl ?_
  refine v_store (H' := [_, _, ⟨[_, _, _, _, _, _, _], 35, true⟩]) lay33 rfl rfl rfl rfl rfl rfl ?_
  refine v_nil ?_
  refine q_n ?_
  refine w_seq ?_
  refine w_reg rfl ?_
  refine v_fa_pt (off' := 4) lay28 rfl rfl rfl ?_
  refine v_load_pt (.c _) lay2 rfl rfl rfl rfl ?_
  refine v_fa_pt (off' := 4) lay35 rfl rfl rfl ?_
  refine v_store (H' := [_, _, ⟨[_, _, _, _, _, _, _], 35, true⟩]) lay2 rfl rfl rfl rfl rfl rfl ?_
  refine v_nil ?_
  refine q_n ?_
  refine w_seq ?_
  refine w_reg rfl ?_
  refine v_fa_pt (off' := 5) lay28 rfl rfl rfl ?_
  refine v_load_pt (.c _) lay26 rfl rfl rfl rfl ?_
  refine v_fa_pt (off' := 5) lay35 rfl rfl rfl ?_
  refine v_store (H' := [_, _, ⟨[_, _, _, _, _, _, _], 35, true⟩]) lay26 rfl rfl rfl rfl rfl rfl ?_
  refine v_nil ?_
  refine q_n ?_
  refine w_seq ?_
  refine w_reg rfl ?_
  refine v_fa_pt (off' := 6) lay28 rfl rfl rfl ?_
  refine v_load_pt (.c _) lay26 rfl rfl rfl rfl ?_
  refine v_fa_pt (off' := 6) lay35 rfl rfl rfl ?_
  refine v_store (H' := [_, _, ⟨[_, _, _, _, _, _, _], 35, true⟩]) lay26 rfl rfl rfl rfl rfl rfl ?_
  refine v_nil ?_
  refine q_n ?_
  refine w_seq ?_
  refine w_reg rfl ?_
  refine v_load_pt (.agg [_, _, _, _, _, _, _]) lay35 rfl rfl rfl rfl ?_
  refine v_store (H' := [_, ⟨[_, _, _, _, _, _, _], 35, true⟩, _]) lay35 rfl rfl rfl rfl rfl rfl ?_
  refine v_nil ?_
  refine q_n ?_
  refine w_ret ?_
  refine r_r rfl ?_
  exact a_agg (.cons tr_sl (.cons tr_sl (.cons tr_sl (.cons tr_sl (.cons tr_v (.cons tr_f (.cons tr_f .nil)))))))
theorem cEqTown (t : Tw) (hB : tB (2 ^ 20) t) (hF : tF t) : PureC X 15 [.agg (twf false t), .agg (twf false t)] (cB (decide True)) := by
  refine PureC.of_body (drawD_ok X) (fun _ _ => Go.Proofs.Tryz.call15 _ _) Go.Proofs.Tryz.func15 rfl (n := 50) rfl ?_
  refine w_seq ?_
  refine w_reg rfl ?_
  refine v_box (m := 0) (H' := [_]) lay35 rfl rfl rfl ?_
  refine v_box (m := 1) (H' := [_, _]) lay35 rfl rfl rfl ?_
  refine v_assign (c := .v (.bool false)) rfl ?_
  refine v_nil ?_
  refine q_n ?_
  refine w_seq ?_
  refine w_seq ?_
  refine w_reg rfl ?_
  refine v_fa_pt (off' := 0) lay35 rfl rfl rfl ?_
  refine v_load_pt (.c _) lay31 rfl rfl rfl rfl ?_
  refine v_fa_pt (off' := 0) lay35 rfl rfl rfl ?_
  refine v_load_pt (.c _) lay31 rfl rfl rfl rfl ?_
  refine v_callb (cEqRoadS _ (by have := hB.1; omega) hF.1) rfl rfl (.cons vw_sl (.cons vw_sl .nil)) (fun h1 => ?_) (fun h1 => ?_)
  rotate_left
  · exact absurd trivial h1
  refine v_not false rfl rfl ?_
  refine v_nil ?_
  refine q_n ?_
  refine w_f rfl ?_
  refine w_skip ?_
  refine q_n ?_
  refine w_seq ?_
  refine w_seq ?_
  refine w_reg rfl ?_
  refine v_fa_pt (off' := 1) lay35 rfl rfl rfl ?_
  refine v_load_pt (.c _) lay23 rfl rfl rfl rfl ?_
  refine v_fa_pt (off' := 1) lay35 rfl rfl rfl ?_
  refine v_load_pt (.c _) lay23 rfl rfl rfl rfl ?_
  refine v_callb (cEqFloatS _ (by have := hB.2.1; omega) hF.2.1) rfl rfl (.cons vw_sl (.cons vw_sl .nil)) (fun h2 => ?_) (fun h2 => ?_)
  rotate_left
  · exact absurd trivial h2
  refine v_not false rfl rfl ?_
  refine v_nil ?_
  refine q_n ?_
  refine w_f rfl ?_
  refine w_skip ?_
  refine q_n ?_
  refine w_seq ?_
  refine w_seq ?_
  refine w_reg rfl ?_
  refine v_fa_pt (off' := 2) lay35 rfl rfl rfl ?_
  refine v_load_pt (.c _) lay32 rfl rfl rfl rfl ?_
  refine v_fa_pt (off' := 2) lay35 rfl rfl rfl ?_
  refine v_load_pt (.c _) lay32 rfl rfl rfl rfl ?_
  refine v_callb (cEqJointS _ (by have := hB.2.2.1; omega) (fun j hj => ⟨by have := hB.2.2.2.1 j hj; omega, hF.2.2.1 j hj⟩)) rfl rfl (.cons vw_sl (.cons vw_sl .nil)) (fun h3 => ?_) (fun h3 => ?_)
  rotate_left
  · exact absurd trivial h3
  refine v_not false rfl rfl ?_
  refine v_nil ?_
  refine q_n ?_
  refine w_f rfl ?_
  refine w_skip ?_
  refine q_n ?_
  refine w_seq ?_
  refine w_seq ?_
  refine w_reg rfl ?_
  refine v_fa_pt (off' := 3) lay35 rfl rfl rfl ?_
  refine v_load_pt (.c _) lay33 rfl rfl rfl rfl ?_
  refine v_fa_pt (off' := 3) lay35 rfl rfl rfl ?_
  refine v_load_pt (.c _) lay33 rfl rfl rfl rfl ?_
  refine v_callb (cEqPlanS _ (by have := hB.2.2.2.2.1; omega) (fun p hp => by have := hB.2.2.2.2.2 p hp; omega)) rfl rfl (.cons vw_sl (.cons vw_sl .nil)) (fun h4 => ?_) (fun h4 => ?_)
  rotate_left
  · exact absurd trivial h4
  refine v_not false rfl rfl ?_
  refine v_nil ?_
  refine q_n ?_
  refine w_f rfl ?_
  refine w_skip ?_
  refine q_n ?_
  refine w_seq ?_
  refine w_seq ?_
  refine w_reg rfl ?_
  refine v_fa_pt (off' := 4) lay35 rfl rfl rfl ?_
  refine v_load_pt (.c _) lay2 rfl rfl rfl rfl ?_
  refine v_fa_pt (off' := 4) lay35 rfl rfl rfl ?_
  refine v_load_pt (.c _) lay2 rfl rfl rfl rfl ?_
  refine v_neq lay2 rfl rfl (fun h5 => ?_) (fun h5 => ?_)
  · exact absurd rfl h5
  refine v_nil ?_
  refine q_n ?_
  refine w_f rfl ?_
  refine w_skip ?_
  refine q_n ?_
  refine w_seq ?_
  refine w_seq ?_
  refine w_reg rfl ?_
  refine v_fa_pt (off' := 5) lay35 rfl rfl rfl ?_
  refine v_load_pt (.c _) lay26 rfl rfl rfl rfl ?_
  refine v_conv_ff _ lay26 lay42 rfl (convF_single (by first | exact hF.2.2.2.1.1 | exact hF.2.2.2.2.1.1)) ?_
  refine v_fa_pt (off' := 5) lay35 rfl rfl rfl ?_
  refine v_load_pt (.c _) lay26 rfl rfl rfl rfl ?_
  refine v_conv_ff _ lay26 lay42 rfl (convF_single (by first | exact hF.2.2.2.1.1 | exact hF.2.2.2.2.1.1)) ?_
  refine v_callb (cSF _ (wide_ok (by first | exact hF.2.2.2.1.1 | exact hF.2.2.2.2.1.1))) rfl rfl (.cons vw_f (.cons vw_f .nil)) (fun h6 => ?_) (fun h6 => ?_)
  rotate_left
  · exact absurd trivial h6
  refine v_not false rfl rfl ?_
  refine v_nil ?_
  refine q_n ?_
  refine w_f rfl ?_
  refine w_skip ?_
  refine q_n ?_
  refine w_seq ?_
  refine w_seq ?_
  refine w_reg rfl ?_
  refine v_fa_pt (off' := 6) lay35 rfl rfl rfl ?_
  refine v_load_pt (.c _) lay26 rfl rfl rfl rfl ?_
  refine v_conv_ff _ lay26 lay42 rfl (convF_single (by first | exact hF.2.2.2.1.1 | exact hF.2.2.2.2.1.1)) ?_
  refine v_fa_pt (off' := 6) lay35 rfl rfl rfl ?_
  refine v_load_pt (.c _) lay26 rfl rfl rfl rfl ?_
  refine v_conv_ff _ lay26 lay42 rfl (convF_single (by first | exact hF.2.2.2.1.1 | exact hF.2.2.2.2.1.1)) ?_
  refine v_callb (cSF _ (wide_ok (by first | exact hF.2.2.2.1.1 | exact hF.2.2.2.2.1.1))) rfl rfl (.cons vw_f (.cons vw_f .nil)) (fun h7 => ?_) (fun h7 => ?_)
  rotate_left
  · exact absurd trivial h7
  refine v_not false rfl rfl ?_
  refine v_nil ?_
  refine q_n ?_
  refine w_f rfl ?_
  refine w_skip ?_
  refine q_n ?_
  refine w_seq ?_
  refine w_reg rfl ?_
  refine v_assign (c := .v (.bool true)) rfl ?_
  refine v_nil ?_
  refine q_n ?_
  refine w_ret ?_
  refine r_r rfl ?_
  exact a_b ⟨fun _ => trivial, fun _ => rfl⟩
end Go.VL
namespace Go.VL
open Go.RowKit
set_option maxRecDepth 20000
set_option maxHeartbeats 8000000
/-- An amount: a number that is greater than nought, or nought with no sign. -/
def amt (b : Nat) : Prop := fin (some b) = true ∧ ((ford .f32 (some b) (fOf .f32 0) == some .gt) = true ∨ b = 0)
instance (b : Nat) : Decidable (amt b) := by unfold amt; infer_instance
def amtB : Option Nat → Bool
  | none => false
  | some b => decide (amt b)
theorem amtB_some {b : Nat} : amtB (some b) = true ↔ amt b := by simp [amtB]
theorem amt_num {b : Nat} (hb : b < 2 ^ 32) {s : Bool} {m : Nat} {e : Int} (h : FloatKind.f32.format.read b = .number s m e) : amt b ↔ s = false := by
  unfold amt
  have hf := fin_num h
  rw [num_some h] at hf
  rw [order_zero h, zero_bits hb h, hf]
  cases s <;> by_cases hm : m = 0 <;> simp [hm]
theorem ge_of_amt {b : Nat} (hb : b < 2 ^ 32) (h : amt b) : (ford .f32 (some b) (fOf .f32 0) == some .gt || ford .f32 (some b) (fOf .f32 0) == some .eq) = true := by
  obtain ⟨s, m, e, hr⟩ := num_of_fin h.1
  have hs := (amt_num hb hr).1 h
  subst hs
  rw [order_zero hr]
  by_cases hm : m = 0 <;> simp [hm]
theorem sign_amt {b w : Nat} (hb : b < 2 ^ 32) (hw : convF .f32 .f64 (some b) = some (some w)) (h : fin (some b) = true) : IntKind.i64.wrap (w : Int) < 0 ↔ ¬ amt b := by
  obtain ⟨s, m, e, hr⟩ := num_of_fin h
  rw [convF_wide hr] at hw
  simp only [Option.some.injEq] at hw
  subst hw
  obtain ⟨hm, he⟩ := read_single hr
  rw [wide_sign hm he, amt_num hb hr]
  cases s <;> simp
abbrev fle (x : Option Nat) (c : Nat) : Prop := (ford .f32 x (fOf .f32 c) == some .lt || ford .f32 x (fOf .f32 c) == some .eq) = true
abbrev fge (x : Option Nat) (c : Nat) : Prop := (ford .f32 x (fOf .f32 c) == some .gt || ford .f32 x (fOf .f32 c) == some .eq) = true
/-- What is at least a quarter and not beyond all bounds is an amount. -/
theorem amt_of {x : Option Nat} (hx : Sg x) (h1 : fge x 1048576000) (h2 : fle x 1090519040) : amtB x = true := by
  cases x with
  | none => exact absurd h1 (by decide)
  | some b =>
    rw [amtB_some]
    have hc : FloatKind.f32.format.read 1048576000 = .number false 8388608 (-25) := by decide
    have hd : FloatKind.f32.format.read 1090519040 = .number false 8388608 (-20) := by decide
    have e1 : fOf .f32 1048576000 = some 1048576000 := by decide
    have e2 : fOf .f32 1090519040 = some 1090519040 := by decide
    rcases okF_read hx.1 with ⟨s, m, e, hr⟩ | ⟨s, hr⟩
    · rw [amt_num (hx.2 b rfl) hr]
      cases s with
      | false => rfl
      | true =>
        exfalso
        unfold fge at h1
        rw [e1] at h1
        simp only [ford, Option.bind_some, Ieee.Format.order, hr, hc, Ieee.Datum.order] at h1
        have hl : compare (Ieee.signed true m (e - min e (-25)).toNat) (Ieee.signed false 8388608 (-25 - min e (-25)).toNat) = Ordering.lt := by
          rw [sgn_t, sgn_f]
          show compareOfLessAndEq _ _ = _
          unfold compareOfLessAndEq
          have := Nat.mul_pos (show 0 < 8388608 by decide) (Nat.two_pow_pos (-25 - min e (-25)).toNat)
          rw [if_pos (by omega)]
        rw [hl] at h1
        exact absurd h1 (by decide)
    · exfalso
      unfold fge at h1
      unfold fle at h2
      rw [e1] at h1
      rw [e2] at h2
      simp only [ford, Option.bind_some, Ieee.Format.order, hr, hc, hd, Ieee.Datum.order] at h1 h2
      cases s
      · exact absurd h2 (by decide)
      · exact absurd h1 (by decide)
/-- A share. -/
def shr (x : Option Nat) : Prop := amtB x = true ∧ fle x 1065353216
instance (x : Option Nat) : Decidable (shr x) := by unfold shr; infer_instance
/-- A road that is valid. -/
def roadOk (r : Rd) : Prop := (∀ i : Fin 16, shr (r.1 i)) ∧ shr r.2.1 ∧ shr r.2.2.1 ∧ fge r.2.1 1015021568 ∧ fge r.2.2.1 1015021568 ∧ fge r.2.2.2 1048576000 ∧ fle r.2.2.2 1090519040
instance (r : Rd) : Decidable (roadOk r) := by unfold roadOk; infer_instance
theorem road_i {r : Rd} {i : Nat} {h : i < 16} (hn : ¬ shr (r.1 ⟨i, h⟩)) : ¬ roadOk r := fun ho => hn (ho.1 _)
theorem road_x (r : Rd) (i : Nat) (h : i < 16) : mkV false (sub (cac r.1) (i * 1) 1) = some (.c (.f .f32 (r.1 ⟨i, h⟩))) := by
  have e : sub (cac r.1) (i * 1) 1 = [.f .f32 (r.1 ⟨i, h⟩)] := by
    rw [Nat.mul_one]
    simpa using cac_sub r.1 [] h
  rw [e]
  rfl
def ticksOk (xs : List Slo) : Prop := ∀ s ∈ xs, 1 ≤ s.2 ∧ s.2 ≤ 240
def cyc : List Slo → Int → Int
  | [], _ => 0
  | s :: r, b => (s.2 + b) + cyc r b
theorem cyc_app (b : Int) : ∀ xs ys : List Slo, cyc (xs ++ ys) b = cyc xs b + cyc ys b
  | [], ys => by simp [cyc]
  | s :: r, ys => by simp only [List.cons_append, cyc, cyc_app b r ys]; omega
theorem cyc_step {xs : List Slo} {b : Int} {i : Nat} (h : i < xs.length) : cyc (xs.take i) b + (xs[i].2 + b) = cyc (xs.take (i + 1)) b := by
  rw [List.take_succ_eq_append_getElem h, cyc_app]
  simp [cyc]
theorem cyc_rng {b : Int} (hb : 0 ≤ b ∧ b ≤ 240) : ∀ {xs : List Slo}, ticksOk xs → (xs.length : Int) ≤ cyc xs b ∧ cyc xs b ≤ 480 * xs.length
  | [], _ => by simp [cyc]
  | s :: r, h => by
    have h1 := h s (by simp)
    have h2 := cyc_rng hb (xs := r) fun x hx => h x (by simp [hx])
    simp only [cyc, List.length_cons]
    push_cast
    omega
theorem tk_take {xs : List Slo} (h : ticksOk xs) (i : Nat) : ticksOk (xs.take i) := fun s hs => h s (List.mem_of_mem_take hs)
theorem tk_at {xs : List Slo} (h : ticksOk xs) {i : Nat} (hi : i < xs.length) : 1 ≤ xs[i].2 ∧ xs[i].2 ≤ 240 := h _ (List.getElem_mem hi)
def okP (xs : List Slo) (b f : Int) : Prop := ((1 ≤ (xs.length : Int) ∧ (xs.length : Int) ≤ 8) ∧ ticksOk xs ∧ (0 ≤ b ∧ b ≤ 240)) ∧ cyc xs b ≤ 240 ∧ (0 ≤ f ∧ f ≤ cyc xs b - 1)
instance (xs : List Slo) : Decidable (ticksOk xs) := by unfold ticksOk; infer_instance
instance (xs : List Slo) (b f : Int) : Decidable (okP xs b f) := by unfold okP; infer_instance
theorem tk_of {xs : List Slo} (h : ¬ ∃ s ∈ xs, ¬ (1 ≤ s.2 ∧ s.2 ≤ 240)) : ticksOk xs := fun s hm => Decidable.byContradiction fun h1 => h ⟨s, hm, h1⟩
theorem tk_not {xs : List Slo} (h : ∃ s ∈ xs, ¬ (1 ≤ s.2 ∧ s.2 ≤ 240)) : ¬ ticksOk xs := fun ht => by
  obtain ⟨s, hm, h1⟩ := h
  exact h1 (ht s hm)
theorem okP_cyc {xs : List Slo} {b f : Int} (h : okP xs b f) : 1 ≤ cyc xs b ∧ cyc xs b ≤ 240 := by
  have h1 := cyc_rng h.1.2.2 h.1.2.1
  have h2 := h.1.1.1
  exact ⟨by omega, h.2.1⟩
/-- The reference's own length of a round: it leaves early. -/
def cyS : List Slo → Int → Int → Int
  | [], _, a => a
  | s :: r, b, a => if (1 ≤ s.2 ∧ s.2 ≤ 240) ∧ (0 ≤ b ∧ b ≤ 240) then (if 240 < a + (s.2 + b) then a + (s.2 + b) else cyS r b (a + (s.2 + b))) else 241
theorem cyS_ok {b : Int} : ∀ {xs : List Slo} {a : Int}, ticksOk xs → 0 ≤ b ∧ b ≤ 240 → a + cyc xs b ≤ 240 → cyS xs b a = a + cyc xs b
  | [], a, _, _, _ => by simp [cyS, cyc]
  | s :: r, a, h, hb, hc => by
    have h1 := h s (by simp)
    have h3 : ticksOk r := fun x hx => h x (by simp [hx])
    have h2 := cyc_rng hb h3
    simp only [cyc] at hc ⊢
    unfold cyS
    rw [if_pos ⟨h1, hb⟩, if_neg (by omega), cyS_ok h3 hb (by omega)]
    omega
theorem cyS_le {b : Int} : ∀ {xs : List Slo} {a : Int}, 1 ≤ xs.length → cyS xs b a ≤ 240 → ticksOk xs ∧ (0 ≤ b ∧ b ≤ 240) ∧ a + cyc xs b ≤ 240
  | [s], a, _, h => by
    unfold cyS at h
    split at h
    · rename_i h1
      split at h
      · omega
      · refine ⟨fun x hx => by simp at hx; subst hx; exact h1.1, h1.2, ?_⟩
        simp only [cyc]
        omega
    · omega
  | s :: s' :: r, a, _, h => by
    unfold cyS at h
    split at h
    · rename_i h1
      split at h
      · omega
      · obtain ⟨k1, k2, k3⟩ := cyS_le (xs := s' :: r) (by simp) h
        refine ⟨fun x hx => ?_, h1.2, ?_⟩
        · rcases List.mem_cons.1 hx with rfl | hx
          · exact h1.1
          · exact k1 x hx
        · have e : cyc (s :: s' :: r) b = (s.2 + b) + cyc (s' :: r) b := rfl
          omega
    · omega
theorem cyS_nn {b : Int} : ∀ {xs : List Slo} {a : Int}, 0 ≤ a → 0 ≤ cyS xs b a
  | [], a, h => h
  | s :: r, a, h => by
    unfold cyS
    split
    · split
      · omega
      · exact cyS_nn (by omega)
    · decide
theorem cyS_at {xs : List Slo} {b a : Int} {i : Nat} (h : i < xs.length) : cyS (xs.drop i) b a = if (1 ≤ xs[i].2 ∧ xs[i].2 ≤ 240) ∧ (0 ≤ b ∧ b ≤ 240) then (if 240 < a + (xs[i].2 + b) then a + (xs[i].2 + b) else cyS (xs.drop (i + 1)) b (a + (xs[i].2 + b))) else 241 := by
  rw [List.drop_eq_getElem_cons h, cyS]
theorem okS {xs : List Slo} {b f : Int} (h1 : 1 ≤ (xs.length : Int) ∧ (xs.length : Int) ≤ 8) : (cyS xs b 0 ≤ 240 ∧ (0 ≤ f ∧ f ≤ cyS xs b 0 - 1)) ↔ okP xs b f := by
  constructor
  · rintro ⟨h2, h3⟩
    obtain ⟨k1, k2, k3⟩ := cyS_le (by omega) h2
    rw [cyS_ok k1 k2 k3] at h3
    exact ⟨⟨h1, k1, k2⟩, by omega, by omega⟩
  · rintro ⟨⟨-, k1, k2⟩, k3, k4⟩
    rw [cyS_ok k1 k2 (by omega)]
    exact ⟨by omega, by omega⟩
theorem cyS_cyc {xs : List Slo} {b f : Int} (h : okP xs b f) : cyS xs b 0 = cyc xs b := by
  rw [cyS_ok h.1.2.1 h.1.2.2 (by have := h.2.1; omega)]
  omega
theorem rd_ld7 (r : Rd) {i : Nat} (h : i < 16) : mkV false (reowns false (sub (rdc r) (0 + i * 1) 1)) = some (.c (.f .f32 (r.1 ⟨i, h⟩))) := by
  have e : sub (rdc r) (0 + i * 1) 1 = [.f .f32 (r.1 ⟨i, h⟩)] := by
    rw [show 0 + i * 1 = i by omega]
    exact cac_sub r.1 [.f .f32 r.2.1, .f .f32 r.2.2.1, .f .f32 r.2.2.2] h
  rw [e]
  rfl
theorem fz_sc {c : C} (h : sc c = true) : fz c = true := by cases c <;> first | rfl | cases h
theorem cInR (a lo hi : Int) : PureC X 48 [cI a, cI lo, cI hi] (cB (decide (lo ≤ a ∧ a ≤ hi))) := by
  refine PureC.of_body (drawD_ok X) (fun _ _ => Go.Proofs.Tryz.call48 _ _) Go.Proofs.Tryz.func48 rfl (n := 15) rfl ?_
  refine w_seq ?_
  refine w_reg rfl ?_
  refine v_assign (c := .v (.bool false)) rfl ?_
  refine v_nil ?_
  refine q_n ?_
  refine w_seq ?_
  refine w_reg rfl ?_
  refine v_move rfl ?_
  refine v_move rfl ?_
  refine v_leq lay2 rfl rfl (fun h1 => ?_) (fun h1 => ?_)
  rotate_left
  · refine v_move rfl ?_
    refine v_guard_off rfl rfl rfl ?_
    refine v_guard_off rfl rfl rfl ?_
    refine v_guard_off rfl rfl rfl ?_
    refine v_pick_f (v := .v (.bool false)) rfl rfl ?_
    refine v_assign rfl ?_
    refine v_nil ?_
    refine q_n ?_
    refine w_ret ?_
    refine r_r rfl ?_
    exact a_b (by simp <;> omega)
  refine v_move rfl ?_
  refine v_guard_on rfl rfl ?_
  refine v_move rfl ?_
  refine v_guard_on rfl rfl ?_
  refine v_move rfl ?_
  refine v_guard_on rfl rfl ?_
  refine v_leq lay2 rfl rfl (fun h2 => ?_) (fun h2 => ?_)
  · refine v_pick_t rfl rfl ?_
    refine v_assign rfl ?_
    refine v_nil ?_
    refine q_n ?_
    refine w_ret ?_
    refine r_r rfl ?_
    exact a_b (by simp <;> omega)
  refine v_pick_t rfl rfl ?_
  refine v_assign rfl ?_
  refine v_nil ?_
  refine q_n ?_
  refine w_ret ?_
  refine r_r rfl ?_
  exact a_b (by simp <;> omega)
theorem cIn (a lo hi : Int) : PureC X 93 [cI a, cI lo, cI hi] (cB (decide (lo ≤ a ∧ a ≤ hi))) := by
  refine PureC.of_body (drawD_ok X) (fun _ _ => Go.Proofs.Tryz.call93 _ _) Go.Proofs.Tryz.func93 rfl (n := 15) rfl ?_
  refine w_seq ?_
  refine w_reg rfl ?_
  refine v_assign (c := .v (.bool false)) rfl ?_
  refine v_nil ?_
  refine q_n ?_
  refine w_seq ?_
  refine w_reg rfl ?_
  refine v_move rfl ?_
  refine v_move rfl ?_
  refine v_geq lay2 rfl rfl (fun h1 => ?_) (fun h1 => ?_)
  rotate_left
  · refine v_move rfl ?_
    refine v_guard_off rfl rfl rfl ?_
    refine v_guard_off rfl rfl rfl ?_
    refine v_guard_off rfl rfl rfl ?_
    refine v_pick_f (v := .v (.bool false)) rfl rfl ?_
    refine v_assign rfl ?_
    refine v_nil ?_
    refine q_n ?_
    refine w_ret ?_
    refine r_r rfl ?_
    exact a_b (by simp <;> omega)
  refine v_move rfl ?_
  refine v_guard_on rfl rfl ?_
  refine v_move rfl ?_
  refine v_guard_on rfl rfl ?_
  refine v_move rfl ?_
  refine v_guard_on rfl rfl ?_
  refine v_leq lay2 rfl rfl (fun h2 => ?_) (fun h2 => ?_)
  · refine v_pick_t rfl rfl ?_
    refine v_assign rfl ?_
    refine v_nil ?_
    refine q_n ?_
    refine w_ret ?_
    refine r_r rfl ?_
    exact a_b (by simp <;> omega)
  refine v_pick_t rfl rfl ?_
  refine v_assign rfl ?_
  refine v_nil ?_
  refine q_n ?_
  refine w_ret ?_
  refine r_r rfl ?_
  exact a_b (by simp <;> omega)
theorem cCodeIft (x : Int) : PureC X 96 [cB true, cI x] (cI x) := by
  refine PureC.of_body (drawD_ok X) (fun _ _ => Go.Proofs.Tryz.call96 _ _) Go.Proofs.Tryz.func96 rfl (n := 7) rfl ?_
  refine w_seq ?_
  refine w_reg rfl ?_
  refine v_assign (c := .v (.int .i64 0)) rfl ?_
  refine v_nil ?_
  refine q_n ?_
  refine w_seq ?_
  refine w_seq ?_
  refine w_reg rfl ?_
  refine v_move rfl ?_
  refine v_nil ?_
  refine q_n ?_
  refine w_t rfl ?_
  refine w_seq ?_
  refine w_reg rfl ?_
  refine v_move rfl ?_
  refine v_assign rfl ?_
  refine v_nil ?_
  refine q_n ?_
  refine w_ret (q_r ?_)
  refine r_r rfl ?_
  exact tr_v
theorem cCodeIff (x : Int) : PureC X 96 [cB false, cI x] (cI 0) := by
  refine PureC.of_body (drawD_ok X) (fun _ _ => Go.Proofs.Tryz.call96 _ _) Go.Proofs.Tryz.func96 rfl (n := 7) rfl ?_
  refine w_seq ?_
  refine w_reg rfl ?_
  refine v_assign (c := .v (.int .i64 0)) rfl ?_
  refine v_nil ?_
  refine q_n ?_
  refine w_seq ?_
  refine w_seq ?_
  refine w_reg rfl ?_
  refine v_move rfl ?_
  refine v_nil ?_
  refine q_n ?_
  refine w_f rfl ?_
  refine w_skip ?_
  refine q_n ?_
  refine w_seq ?_
  refine w_reg rfl ?_
  refine v_assign (c := .v (.int .i64 0)) rfl ?_
  refine v_nil ?_
  refine q_n ?_
  refine w_ret ?_
  refine r_r rfl ?_
  exact tr_v
theorem cCodeIf (b : Bool) (x : Int) : PureC X 96 [cB b, cI x] (cI (if b then x else 0)) := by
  cases b
  · exact cCodeIff x
  · exact cCodeIft x
theorem cFirst (xs : List Int) (hx : xs.length ≤ 2 ^ 40) : PureC X 95 [.c (ints false xs)] (cI (firstNZ xs)) := by
  refine PureC.of_body (drawD_ok X) (fun _ _ => Go.Proofs.Tryz.call95 _ _) Go.Proofs.Tryz.func95 rfl (n := 15) rfl ?_
  refine w_seq ?_
  refine w_reg rfl ?_
  refine v_assign (c := .v (.int .i64 0)) rfl ?_
  refine v_nil ?_
  refine q_n ?_
  refine w_seq ?_
  refine w_seq ?_
  refine w_reg rfl ?_
  refine v_move rfl ?_
  refine v_len_sl lay54 rfl ?_
  refine v_move (c := .v (.int .i64 0)) rfl ?_
  refine v_nil ?_
  refine q_n ?_
  refine w_block ?_
  refine w_loop (fun k sl H => ∃ i : Nat, k = xs.length - i ∧ i ≤ xs.length ∧ (∀ x ∈ xs.take i, x = 0) ∧ sl = sls [(5, .c (ints false xs)), (6, cI xs.length), (7, cI i)] ∧ H = []) ?_ ?_
  · refine ⟨_, _, _, ?_, 0, rfl, Nat.zero_le _, by simp, rfl, rfl⟩
    exact turn0 ⟨tr_sl, tr_v, tr_v, trivial⟩
  rintro k sl H ⟨i, rfl, hi, hp, rfl, rfl⟩
  refine w_seq ?_
  refine w_reg rfl ?_
  refine v_lss lay3 rfl rfl (fun h1 => ?_) (fun h1 => ?_)
  rotate_left
  · refine v_nil ?_
    refine q_n ?_
    refine w_seq ?_
    refine w_f rfl ?_
    refine w_exit ?_
    refine q_e ?_
    refine q_e ?_
    refine q_hit ?_
    refine q_n ?_
    refine w_seq ?_
    refine w_reg rfl ?_
    refine v_assign (c := .v (.int .i64 0)) rfl ?_
    refine v_nil ?_
    refine q_n ?_
    refine w_ret ?_
    refine r_r rfl ?_
    obtain rfl : i = xs.length := by omega
    rw [List.take_length] at hp
    exact a_i (firstNZ_none hp).symm
  have hj : i < xs.length := by omega
  refine v_nil ?_
  refine q_n ?_
  refine w_seq ?_
  refine w_t rfl ?_
  refine w_skip ?_
  refine q_n ?_
  refine w_seq ?_
  refine w_block ?_
  refine w_seq ?_
  refine w_reg rfl ?_
  refine v_idx_e (k := 1) (i) int_len lay54 lay2 rfl rfl rfl (rfl) rfl (rfl) ((by omega : i < xs.length)) ?_
  refine v_load_vw (.c (.v _)) lay2 rfl rfl rfl ?_
  refine v_assign rfl ?_
  refine v_nil ?_
  refine q_n ?_
  refine w_seq ?_
  refine w_reg rfl ?_
  refine v_move rfl ?_
  refine v_neq lay2 rfl rfl (fun h3 => ?_) (fun h3 => ?_)
  · refine v_nil ?_
    refine q_n ?_
    refine w_t rfl ?_
    refine w_seq ?_
    refine w_reg rfl ?_
    refine v_move rfl ?_
    refine v_assign rfl ?_
    refine v_nil ?_
    refine q_n ?_
    refine w_ret (q_br (q_r (q_r (q_br (q_r ?_)))))
    refine r_r rfl ?_
    exact a_i (firstNZ_hit hj hp h3).symm
  refine v_nil ?_
  refine q_n ?_
  refine w_f rfl ?_
  refine w_skip ?_
  refine q_bn ?_
  refine q_n ?_
  refine w_reg rfl ?_
  refine v_add lay3 rfl rfl (i64r (by omega)) ?_
  refine v_move rfl ?_
  refine v_nil ?_
  refine q_n ?_
  refine ⟨_, _, _, ?_, ⟨i + 1, rfl, by omega, all_step hj hp h3, rfl, rfl⟩, by omega⟩
  exact turn0 ⟨tr_sl, tr_v, tr_v, trivial⟩
theorem cPlace (a n : Int) (hn : 0 ≤ n ∧ n ≤ 2 ^ 40) : PureC X 111 [cI a, cI n] (cB (decide (0 ≤ a ∧ a ≤ n - 1))) := by
  refine PureC.of_body (drawD_ok X) (fun _ _ => Go.Proofs.Tryz.call111 _ _) Go.Proofs.Tryz.func111 rfl (n := 9) rfl ?_
  refine w_seq ?_
  refine w_reg rfl ?_
  refine v_assign (c := .v (.bool false)) rfl ?_
  refine v_nil ?_
  refine q_n ?_
  refine w_seq ?_
  refine w_reg rfl ?_
  refine v_move rfl ?_
  refine v_move rfl ?_
  refine v_sub lay2 rfl rfl (i64r (by omega)) ?_
  refine v_callb (cInR _ _ _) rfl rfl (.cons vw_v (.cons vw_v (.cons vw_v .nil))) (fun h1 => ?_) (fun h1 => ?_)
  · refine v_assign rfl ?_
    refine v_nil ?_
    refine q_n ?_
    refine w_ret ?_
    refine r_r rfl ?_
    exact a_b (by simp_all)
  refine v_assign rfl ?_
  refine v_nil ?_
  refine q_n ?_
  refine w_ret ?_
  refine r_r rfl ?_
  exact a_b (by simp_all)
theorem cFinS (x : Option Nat) : PureC X 167 [.c (.f .f32 x)] (cB (decide (fin x = true))) := by
  refine PureC.of_body (drawD_ok X) (fun _ _ => Go.Proofs.Tryz.call167 _ _) Go.Proofs.Tryz.func167 rfl (n := 7) rfl ?_
  refine w_seq ?_
  refine w_reg rfl ?_
  refine v_assign (c := .v (.bool false)) rfl ?_
  refine v_nil ?_
  refine q_n ?_
  refine w_seq ?_
  refine w_reg rfl ?_
  refine v_move rfl ?_
  refine v_move rfl ?_
  refine v_bin (c := .f _ _) lay26 rfl rfl rfl ?_
  refine v_binb lay26 rfl rfl rfl (fun h1 => ?_) (fun h1 => ?_)
  · refine v_assign rfl ?_
    refine v_nil ?_
    refine q_n ?_
    refine w_ret ?_
    refine r_r rfl ?_
    exact a_b ⟨fun _ => h1, fun _ => rfl⟩
  refine v_assign rfl ?_
  refine v_nil ?_
  refine q_n ?_
  refine w_ret ?_
  refine r_r rfl ?_
  exact a_b ⟨fun h => (by cases h), fun h => absurd (h1.symm.trans h) (by simp)⟩
theorem cFinI (x : Option Nat) : PureC X 113 [.c (.f .f32 x)] (cB (decide (fin x = true))) := by
  refine PureC.of_body (drawD_ok X) (fun _ _ => Go.Proofs.Tryz.call113 _ _) Go.Proofs.Tryz.func113 rfl (n := 7) rfl ?_
  refine w_seq ?_
  refine w_reg rfl ?_
  refine v_assign (c := .v (.bool false)) rfl ?_
  refine v_nil ?_
  refine q_n ?_
  refine w_seq ?_
  refine w_reg rfl ?_
  refine v_move rfl ?_
  refine v_move rfl ?_
  refine v_bin (c := .f _ _) lay26 rfl rfl rfl ?_
  refine v_binb lay26 rfl rfl rfl (fun h1 => ?_) (fun h1 => ?_)
  · refine v_assign rfl ?_
    refine v_nil ?_
    refine q_n ?_
    refine w_ret ?_
    refine r_r rfl ?_
    exact a_b ⟨fun _ => h1, fun _ => rfl⟩
  refine v_assign rfl ?_
  refine v_nil ?_
  refine q_n ?_
  refine w_ret ?_
  refine r_r rfl ?_
  exact a_b ⟨fun h => (by cases h), fun h => absurd (h1.symm.trans h) (by simp)⟩
theorem cFB64 (b : Nat) : PureC X 179 [.c (.f .f64 (some b))] (.c (.v (.int .u64 b))) := pure_f64bits Go.Proofs.Tryz.func179 (by kernel_rfl) rfl (by kernel_rfl) (by kernel_rfl) b
theorem cSgb (b : Nat) : PureC X 114 [.c (.f .f64 (some b))] (cB (decide (IntKind.i64.wrap (b : Int) < 0))) := by
  refine PureC.of_body (drawD_ok X) (fun _ _ => Go.Proofs.Tryz.call114 _ _) Go.Proofs.Tryz.func114 rfl (n := 7) rfl ?_
  refine w_seq ?_
  refine w_reg rfl ?_
  refine v_assign (c := .v (.bool false)) rfl ?_
  refine v_nil ?_
  refine q_n ?_
  refine w_seq ?_
  refine w_reg rfl ?_
  refine v_move rfl ?_
  refine v_call (cFB64 _) rfl rfl rfl (.cons vw_f .nil) ?_
  refine v_conv_iw lay180 lay2 rfl ?_
  refine v_lss lay2 rfl rfl (fun h1 => ?_) (fun h1 => ?_)
  · refine v_assign rfl ?_
    refine v_nil ?_
    refine q_n ?_
    refine w_ret ?_
    refine r_r rfl ?_
    exact a_b (by simp_all)
  refine v_assign rfl ?_
  refine v_nil ?_
  refine q_n ?_
  refine w_ret ?_
  refine r_r rfl ?_
  exact a_b (by simp_all)
theorem cAmSs (b : Nat) : PureC X 102 [.c (.f .f32 (some b))] (cB (decide (amtB (some b) = true))) := by
  refine PureC.of_body (drawD_ok X) (fun _ _ => Go.Proofs.Tryz.call102 _ _) Go.Proofs.Tryz.func102 rfl (n := 14) rfl ?_
  refine w_seq ?_
  refine w_reg rfl ?_
  refine v_assign (c := .v (.bool false)) rfl ?_
  refine v_nil ?_
  refine q_n ?_
  refine w_seq ?_
  refine w_reg rfl ?_
  refine v_move rfl ?_
  refine v_callb (cFinS _) rfl rfl (.cons vw_f .nil) (fun h1 => ?_) (fun h1 => ?_)
  rotate_left
  · refine v_move rfl ?_
    refine v_guard_off rfl rfl rfl ?_
    refine v_guard_off rfl rfl rfl ?_
    refine v_guard_off rfl rfl rfl ?_
    refine v_guard_un rfl rfl ?_
    refine v_guard_un rfl rfl ?_
    refine v_guard_un rfl rfl ?_
    refine v_guard_off rfl rfl rfl ?_
    refine v_pick_f (v := .v (.bool false)) rfl rfl ?_
    refine v_assign rfl ?_
    refine v_nil ?_
    refine q_n ?_
    refine w_ret ?_
    refine r_r rfl ?_
    exact a_b ⟨fun h => (by cases h), fun h => absurd (amtB_some.1 h).1 h1⟩
  refine v_move rfl ?_
  refine v_guard_on rfl rfl ?_
  refine v_move rfl ?_
  refine v_guard_on rfl rfl ?_
  refine v_binb lay26 rfl rfl rfl (fun h2 => ?_) (fun h2 => ?_)
  · refine v_guard_on rfl rfl ?_
    refine v_move rfl ?_
    refine v_guard_off rfl rfl rfl ?_
    refine v_guard_off rfl rfl rfl ?_
    refine v_guard_off rfl rfl rfl ?_
    refine v_guard_on rfl rfl ?_
    refine v_pick_t (v := .v (.bool true)) rfl rfl ?_
    refine v_pick_t rfl rfl ?_
    refine v_assign rfl ?_
    refine v_nil ?_
    refine q_n ?_
    refine w_ret ?_
    refine r_r rfl ?_
    exact a_b ⟨fun _ => amtB_some.2 ⟨h1, .inl h2⟩, fun _ => rfl⟩
  refine v_guard_on rfl rfl ?_
  refine v_move rfl ?_
  refine v_guard_on rfl rfl ?_
  refine v_move rfl ?_
  refine v_guard_on rfl rfl ?_
  refine v_call (cFB _) rfl rfl rfl (.cons vw_f .nil) ?_
  refine v_guard_on rfl rfl ?_
  refine v_eql lay124 rfl rfl (fun h3 => ?_) (fun h3 => ?_)
  · refine v_guard_on rfl rfl ?_
    refine v_pick_f rfl rfl ?_
    refine v_pick_t rfl rfl ?_
    refine v_assign rfl ?_
    refine v_nil ?_
    refine q_n ?_
    refine w_ret ?_
    refine r_r rfl ?_
    exact a_b ⟨fun _ => amtB_some.2 ⟨h1, .inr (by omega)⟩, fun _ => rfl⟩
  refine v_guard_on rfl rfl ?_
  refine v_pick_f rfl rfl ?_
  refine v_pick_t rfl rfl ?_
  refine v_assign rfl ?_
  refine v_nil ?_
  refine q_n ?_
  refine w_ret ?_
  refine r_r rfl ?_
  exact a_b ⟨fun h => (by cases h), fun h => by
    rcases (amtB_some.1 h).2 with h | h
    · exact absurd (h2.symm.trans h) (by decide)
    · omega⟩
theorem cAmSn : PureC X 102 [.c (.f .f32 none)] (cB (decide (amtB none = true))) := by
  refine PureC.of_body (drawD_ok X) (fun _ _ => Go.Proofs.Tryz.call102 _ _) Go.Proofs.Tryz.func102 rfl (n := 14) rfl ?_
  refine w_seq ?_
  refine w_reg rfl ?_
  refine v_assign (c := .v (.bool false)) rfl ?_
  refine v_nil ?_
  refine q_n ?_
  refine w_seq ?_
  refine w_reg rfl ?_
  refine v_move rfl ?_
  refine v_callb (cFinS _) rfl rfl (.cons vw_f .nil) (fun h1 => ?_) (fun h1 => ?_)
  · exact absurd h1 (by decide)
  refine v_move rfl ?_
  refine v_guard_off rfl rfl rfl ?_
  refine v_guard_off rfl rfl rfl ?_
  refine v_guard_off rfl rfl rfl ?_
  refine v_guard_un rfl rfl ?_
  refine v_guard_un rfl rfl ?_
  refine v_guard_un rfl rfl ?_
  refine v_guard_off rfl rfl rfl ?_
  refine v_pick_f (v := .v (.bool false)) rfl rfl ?_
  refine v_assign rfl ?_
  refine v_nil ?_
  refine q_n ?_
  refine w_ret ?_
  refine r_r rfl ?_
  exact a_b ⟨fun h => (by cases h), fun h => (by cases h)⟩
theorem cAmS (x : Option Nat) : PureC X 102 [.c (.f .f32 x)] (cB (decide (amtB x = true))) := by
  cases x with
  | none => exact cAmSn
  | some b => exact cAmSs b
theorem cAmIs (b w : Nat) (hb : b < 2 ^ 32) (hw : convF .f32 .f64 (some b) = some (some w)) : PureC X 51 [.c (.f .f32 (some b))] (cB (decide (amtB (some b) = true))) := by
  refine PureC.of_body (drawD_ok X) (fun _ _ => Go.Proofs.Tryz.call51 _ _) Go.Proofs.Tryz.func51 rfl (n := 15) rfl ?_
  refine w_seq ?_
  refine w_reg rfl ?_
  refine v_assign (c := .v (.bool false)) rfl ?_
  refine v_nil ?_
  refine q_n ?_
  refine w_seq ?_
  refine w_reg rfl ?_
  refine v_move rfl ?_
  refine v_binb lay26 rfl rfl rfl (fun h1 => ?_) (fun h1 => ?_)
  rotate_left
  · refine v_move rfl ?_
    refine v_guard_off rfl rfl rfl ?_
    refine v_guard_off rfl rfl rfl ?_
    refine v_pick_f (v := .v (.bool false)) rfl rfl ?_
    refine v_move rfl ?_
    refine v_guard_off rfl rfl rfl ?_
    refine v_guard_off rfl rfl rfl ?_
    refine v_guard_off rfl rfl rfl ?_
    refine v_guard_off rfl rfl rfl ?_
    refine v_pick_f (v := .v (.bool false)) rfl rfl ?_
    refine v_assign rfl ?_
    refine v_nil ?_
    refine q_n ?_
    refine w_ret ?_
    refine r_r rfl ?_
    exact a_b ⟨fun h => (by cases h), fun h => absurd (h1.symm.trans (ge_of_amt hb (amtB_some.1 h))) (by decide)⟩
  refine v_move rfl ?_
  refine v_guard_on rfl rfl ?_
  refine v_move rfl ?_
  refine v_guard_on rfl rfl ?_
  refine v_callb (cFinI _) rfl rfl (.cons vw_f .nil) (fun h2 => ?_) (fun h2 => ?_)
  rotate_left
  · refine v_pick_t rfl rfl ?_
    refine v_move rfl ?_
    refine v_guard_off rfl rfl rfl ?_
    refine v_guard_off rfl rfl rfl ?_
    refine v_guard_off rfl rfl rfl ?_
    refine v_guard_off rfl rfl rfl ?_
    refine v_pick_f (v := .v (.bool false)) rfl rfl ?_
    refine v_assign rfl ?_
    refine v_nil ?_
    refine q_n ?_
    refine w_ret ?_
    refine r_r rfl ?_
    exact a_b ⟨fun h => (by cases h), fun h => absurd (amtB_some.1 h).1 h2⟩
  refine v_pick_t rfl rfl ?_
  refine v_move rfl ?_
  refine v_guard_on rfl rfl ?_
  refine v_move rfl ?_
  refine v_guard_on rfl rfl ?_
  refine v_conv_ff _ lay26 lay42 rfl (hw) ?_
  refine v_guard_on rfl rfl ?_
  refine v_callb (cSgb _) rfl rfl (.cons vw_f .nil) (fun h3 => ?_) (fun h3 => ?_)
  · refine v_guard_on rfl rfl ?_
    refine v_not false rfl rfl ?_
    refine v_pick_t rfl rfl ?_
    refine v_assign rfl ?_
    refine v_nil ?_
    refine q_n ?_
    refine w_ret ?_
    refine r_r rfl ?_
    exact a_b ⟨fun h => (by cases h), fun h => absurd (amtB_some.1 h) ((sign_amt hb hw h2).1 h3)⟩
  refine v_guard_on rfl rfl ?_
  refine v_not true rfl rfl ?_
  refine v_pick_t rfl rfl ?_
  refine v_assign rfl ?_
  refine v_nil ?_
  refine q_n ?_
  refine w_ret ?_
  refine r_r rfl ?_
  exact a_b ⟨fun _ => amtB_some.2 (Decidable.of_not_not fun h => h3 ((sign_amt hb hw h2).2 h)), fun _ => rfl⟩
theorem cAmIn : PureC X 51 [.c (.f .f32 none)] (cB (decide (amtB none = true))) := by
  refine PureC.of_body (drawD_ok X) (fun _ _ => Go.Proofs.Tryz.call51 _ _) Go.Proofs.Tryz.func51 rfl (n := 15) rfl ?_
  refine w_seq ?_
  refine w_reg rfl ?_
  refine v_assign (c := .v (.bool false)) rfl ?_
  refine v_nil ?_
  refine q_n ?_
  refine w_seq ?_
  refine w_reg rfl ?_
  refine v_move rfl ?_
  refine v_binb lay26 rfl rfl rfl (fun h1 => ?_) (fun h1 => ?_)
  · exact absurd h1 (by decide)
  refine v_move rfl ?_
  refine v_guard_off rfl rfl rfl ?_
  refine v_guard_off rfl rfl rfl ?_
  refine v_pick_f (v := .v (.bool false)) rfl rfl ?_
  refine v_move rfl ?_
  refine v_guard_off rfl rfl rfl ?_
  refine v_guard_off rfl rfl rfl ?_
  refine v_guard_off rfl rfl rfl ?_
  refine v_guard_off rfl rfl rfl ?_
  refine v_pick_f (v := .v (.bool false)) rfl rfl ?_
  refine v_assign rfl ?_
  refine v_nil ?_
  refine q_n ?_
  refine w_ret ?_
  refine r_r rfl ?_
  exact a_b ⟨fun h => (by cases h), fun h => (by cases h)⟩
theorem cAmI (x : Option Nat) (hx : Sg x) : PureC X 51 [.c (.f .f32 x)] (cB (decide (amtB x = true))) := by
  cases x with
  | none => exact cAmIn
  | some b =>
    obtain ⟨w, hw, -⟩ := wide_some hx.1
    exact cAmIs b w (hx.2 b rfl) hw
theorem cShS (x : Option Nat) : PureC X 166 [.c (.f .f32 x)] (cB (decide (shr x))) := by
  refine PureC.of_body (drawD_ok X) (fun _ _ => Go.Proofs.Tryz.call166 _ _) Go.Proofs.Tryz.func166 rfl (n := 9) rfl ?_
  refine w_seq ?_
  refine w_reg rfl ?_
  refine v_assign (c := .v (.bool false)) rfl ?_
  refine v_nil ?_
  refine q_n ?_
  refine w_seq ?_
  refine w_reg rfl ?_
  refine v_move rfl ?_
  refine v_callb (cAmS _) rfl rfl (.cons vw_f .nil) (fun h1 => ?_) (fun h1 => ?_)
  rotate_left
  · refine v_move rfl ?_
    refine v_guard_off rfl rfl rfl ?_
    refine v_guard_off rfl rfl rfl ?_
    refine v_pick_f (v := .v (.bool false)) rfl rfl ?_
    refine v_assign rfl ?_
    refine v_nil ?_
    refine q_n ?_
    refine w_ret ?_
    refine r_r rfl ?_
    exact a_b (by unfold shr; simp_all)
  refine v_move rfl ?_
  refine v_guard_on rfl rfl ?_
  refine v_move rfl ?_
  refine v_guard_on rfl rfl ?_
  refine v_binb lay26 rfl rfl rfl (fun h2 => ?_) (fun h2 => ?_)
  · replace h2 : fle x 1065353216 := h2
    refine v_pick_t rfl rfl ?_
    refine v_assign rfl ?_
    refine v_nil ?_
    refine q_n ?_
    refine w_ret ?_
    refine r_r rfl ?_
    exact a_b (by unfold shr; simp_all)
  replace h2 : ¬ fle x 1065353216 := fun h => absurd (h2.symm.trans h) (by decide)
  refine v_pick_t rfl rfl ?_
  refine v_assign rfl ?_
  refine v_nil ?_
  refine q_n ?_
  refine w_ret ?_
  refine r_r rfl ?_
  exact a_b (by unfold shr; simp_all)
theorem cShI (x : Option Nat) (hx : Sg x) : PureC X 174 [.c (.f .f32 x)] (cB (decide (shr x))) := by
  refine PureC.of_body (drawD_ok X) (fun _ _ => Go.Proofs.Tryz.call174 _ _) Go.Proofs.Tryz.func174 rfl (n := 9) rfl ?_
  refine w_seq ?_
  refine w_reg rfl ?_
  refine v_assign (c := .v (.bool false)) rfl ?_
  refine v_nil ?_
  refine q_n ?_
  refine w_seq ?_
  refine w_reg rfl ?_
  refine v_move rfl ?_
  refine v_callb (cAmI _ (by assumption)) rfl rfl (.cons vw_f .nil) (fun h1 => ?_) (fun h1 => ?_)
  rotate_left
  · refine v_move rfl ?_
    refine v_guard_off rfl rfl rfl ?_
    refine v_guard_off rfl rfl rfl ?_
    refine v_pick_f (v := .v (.bool false)) rfl rfl ?_
    refine v_assign rfl ?_
    refine v_nil ?_
    refine q_n ?_
    refine w_ret ?_
    refine r_r rfl ?_
    exact a_b (by unfold shr; simp_all)
  refine v_move rfl ?_
  refine v_guard_on rfl rfl ?_
  refine v_move rfl ?_
  refine v_guard_on rfl rfl ?_
  refine v_binb lay26 rfl rfl rfl (fun h2 => ?_) (fun h2 => ?_)
  · replace h2 : fle x 1065353216 := h2
    refine v_pick_t rfl rfl ?_
    refine v_assign rfl ?_
    refine v_nil ?_
    refine q_n ?_
    refine w_ret ?_
    refine r_r rfl ?_
    exact a_b (by unfold shr; simp_all)
  replace h2 : ¬ fle x 1065353216 := fun h => absurd (h2.symm.trans h) (by decide)
  refine v_pick_t rfl rfl ?_
  refine v_assign rfl ?_
  refine v_nil ?_
  refine q_n ?_
  refine w_ret ?_
  refine r_r rfl ?_
  exact a_b (by unfold shr; simp_all)
theorem cRdS (r : Rd) (hr : rW r) : PureC X 101 [.c (.vw false (rdc r) 0)] (cB (decide (roadOk r))) := by
  refine PureC.of_body (drawD_ok X) (fun _ _ => Go.Proofs.Tryz.call101 _ _) Go.Proofs.Tryz.func101 rfl (n := 56) rfl ?_
  refine w_seq ?_
  refine w_reg rfl ?_
  refine v_assign (c := .v (.bool false)) rfl ?_
  refine v_nil ?_
  refine q_n ?_
  refine w_seq ?_
  refine w_seq ?_
  refine w_reg rfl ?_
  refine v_assign (c := .v (.int .i64 0)) rfl ?_
  refine v_nil ?_
  refine q_n ?_
  refine w_block ?_
  refine w_loop (fun k sl H => ∃ i : Nat, k = 16 - i ∧ i ≤ 16 ∧ (∀ j (hj : j < 16), j < i → shr (r.1 ⟨j, hj⟩)) ∧ sl = sls [(0, .c (.vw false (rdc r) 0)), (3, cI i)] ∧ H = []) ?_ ?_
  · refine ⟨_, _, _, ?_, 0, rfl, Nat.zero_le _, fun j hj h => by omega, rfl, rfl⟩
    exact turn0 ⟨tr_vw, tr_v, trivial⟩
  rintro k sl H ⟨i, rfl, hi, hp, rfl, rfl⟩
  refine w_seq ?_
  refine w_seq ?_
  refine w_reg rfl ?_
  refine v_move rfl ?_
  refine v_lss lay3 rfl rfl (fun h1 => ?_) (fun h1 => ?_)
  · have hi1 : i < 16 := by omega
    refine v_nil ?_
    refine q_n ?_
    refine w_t rfl ?_
    refine w_skip ?_
    refine q_n ?_
    refine w_seq ?_
    refine w_block ?_
    refine w_seq ?_
    refine w_reg rfl ?_
    refine v_move rfl ?_
    refine v_move rfl ?_
    refine v_nil_vw rfl ?_
    refine v_fa_vw (off' := 0) lay73 rfl rfl rfl ?_
    refine v_idx_av_e (k := 1) (i) lay71 lay26 rfl rfl rfl (rfl) (hi1) ?_
    refine v_load_vw_e (.c (.f .f32 (r.1 ⟨i, hi1⟩))) lay26 rfl (by show 0 + i * 1 + 1 ≤ 19; omega) (rd_ld7 r hi1) ?_
    refine v_callb (cShS _) rfl rfl (.cons vw_f .nil) (fun h2 => ?_) (fun h2 => ?_)
    rotate_left
    · have hsh := h2
      refine v_not true rfl rfl ?_
      refine v_nil ?_
      refine q_n ?_
      refine w_t rfl ?_
      refine w_seq ?_
      refine w_reg rfl ?_
      refine v_assign (c := .v (.bool false)) rfl ?_
      refine v_nil ?_
      refine q_n ?_
      refine w_ret (q_br (q_r (q_r (q_br (q_r ?_)))))
      refine r_r rfl ?_
      exact a_b (by simp only [Bool.false_eq_true, false_iff]; exact road_i hsh)
    have hsh := h2
    refine v_not false rfl rfl ?_
    refine v_nil ?_
    refine q_n ?_
    refine w_f rfl ?_
    refine w_skip ?_
    refine q_bn ?_
    refine q_n ?_
    refine w_reg rfl ?_
    refine v_move rfl ?_
    refine v_add lay3 rfl rfl (i64r (by omega)) ?_
    refine v_assign rfl ?_
    refine v_nil ?_
    refine q_n ?_
    refine ⟨_, _, _, ?_, ⟨i + 1, rfl, by omega, fun j hj h => ?_, rfl, rfl⟩, by omega⟩
    · exact turn0 ⟨tr_vw, tr_v, trivial⟩
    · rcases Nat.lt_or_eq_of_le (Nat.le_of_lt_succ h) with h | rfl
      · exact hp j hj h
      · exact hsh
  have hall : ∀ i : Fin 16, shr (r.1 i) := fun i => hp i.val i.isLt (by omega)
  refine v_nil ?_
  refine q_n ?_
  refine w_f rfl ?_
  refine w_exit ?_
  refine q_e ?_
  refine q_e ?_
  refine q_hit ?_
  refine q_n ?_
  refine w_seq ?_
  refine w_reg rfl ?_
  refine v_move rfl ?_
  refine v_nil_vw rfl ?_
  refine v_fa_vw (off' := 16) lay73 rfl rfl rfl ?_
  refine v_load_vw (.c (.f _ _)) lay26 rfl rfl rfl ?_
  refine v_callb (cShS _) rfl rfl (.cons vw_f .nil) (fun h3 => ?_) (fun h3 => ?_)
  rotate_left
  · refine v_move rfl ?_
    refine v_guard_off rfl rfl rfl ?_
    refine v_guard_off rfl rfl rfl ?_
    refine v_guard_off rfl rfl rfl ?_
    refine v_guard_off rfl rfl rfl ?_
    refine v_guard_off rfl rfl rfl ?_
    refine v_pick_f (v := .v (.bool false)) rfl rfl ?_
    refine v_move rfl ?_
    refine v_guard_off rfl rfl rfl ?_
    refine v_guard_off rfl rfl rfl ?_
    refine v_guard_off rfl rfl rfl ?_
    refine v_guard_off rfl rfl rfl ?_
    refine v_guard_off rfl rfl rfl ?_
    refine v_pick_f (v := .v (.bool false)) rfl rfl ?_
    refine v_move rfl ?_
    refine v_guard_off rfl rfl rfl ?_
    refine v_guard_off rfl rfl rfl ?_
    refine v_guard_off rfl rfl rfl ?_
    refine v_guard_off rfl rfl rfl ?_
    refine v_guard_off rfl rfl rfl ?_
    refine v_pick_f (v := .v (.bool false)) rfl rfl ?_
    refine v_move rfl ?_
    refine v_guard_off rfl rfl rfl ?_
    refine v_guard_off rfl rfl rfl ?_
    refine v_guard_off rfl rfl rfl ?_
    refine v_guard_off rfl rfl rfl ?_
    refine v_guard_off rfl rfl rfl ?_
    refine v_pick_f (v := .v (.bool false)) rfl rfl ?_
    refine v_move rfl ?_
    refine v_guard_off rfl rfl rfl ?_
    refine v_guard_off rfl rfl rfl ?_
    refine v_guard_off rfl rfl rfl ?_
    refine v_guard_off rfl rfl rfl ?_
    refine v_guard_off rfl rfl rfl ?_
    refine v_pick_f (v := .v (.bool false)) rfl rfl ?_
    refine v_assign rfl ?_
    refine v_nil ?_
    refine q_n ?_
    refine w_ret ?_
    refine r_r rfl ?_
    exact a_b (by unfold roadOk; simp_all)
  refine v_move rfl ?_
  refine v_guard_on rfl rfl ?_
  refine v_move rfl ?_
  refine v_guard_on rfl rfl ?_
  refine v_nil_vw rfl ?_
  refine v_guard_on rfl rfl ?_
  refine v_fa_vw (off' := 17) lay73 rfl rfl rfl ?_
  refine v_guard_on rfl rfl ?_
  refine v_load_vw (.c (.f _ _)) lay26 rfl rfl rfl ?_
  refine v_guard_on rfl rfl ?_
  refine v_callb (cShS _) rfl rfl (.cons vw_f .nil) (fun h4 => ?_) (fun h4 => ?_)
  rotate_left
  · refine v_pick_t rfl rfl ?_
    refine v_move rfl ?_
    refine v_guard_off rfl rfl rfl ?_
    refine v_guard_off rfl rfl rfl ?_
    refine v_guard_off rfl rfl rfl ?_
    refine v_guard_off rfl rfl rfl ?_
    refine v_guard_off rfl rfl rfl ?_
    refine v_pick_f (v := .v (.bool false)) rfl rfl ?_
    refine v_move rfl ?_
    refine v_guard_off rfl rfl rfl ?_
    refine v_guard_off rfl rfl rfl ?_
    refine v_guard_off rfl rfl rfl ?_
    refine v_guard_off rfl rfl rfl ?_
    refine v_guard_off rfl rfl rfl ?_
    refine v_pick_f (v := .v (.bool false)) rfl rfl ?_
    refine v_move rfl ?_
    refine v_guard_off rfl rfl rfl ?_
    refine v_guard_off rfl rfl rfl ?_
    refine v_guard_off rfl rfl rfl ?_
    refine v_guard_off rfl rfl rfl ?_
    refine v_guard_off rfl rfl rfl ?_
    refine v_pick_f (v := .v (.bool false)) rfl rfl ?_
    refine v_move rfl ?_
    refine v_guard_off rfl rfl rfl ?_
    refine v_guard_off rfl rfl rfl ?_
    refine v_guard_off rfl rfl rfl ?_
    refine v_guard_off rfl rfl rfl ?_
    refine v_guard_off rfl rfl rfl ?_
    refine v_pick_f (v := .v (.bool false)) rfl rfl ?_
    refine v_assign rfl ?_
    refine v_nil ?_
    refine q_n ?_
    refine w_ret ?_
    refine r_r rfl ?_
    exact a_b (by unfold roadOk; simp_all)
  refine v_pick_t rfl rfl ?_
  refine v_move rfl ?_
  refine v_guard_on rfl rfl ?_
  refine v_move rfl ?_
  refine v_guard_on rfl rfl ?_
  refine v_nil_vw rfl ?_
  refine v_guard_on rfl rfl ?_
  refine v_fa_vw (off' := 16) lay73 rfl rfl rfl ?_
  refine v_guard_on rfl rfl ?_
  refine v_load_vw (.c (.f _ _)) lay26 rfl rfl rfl ?_
  refine v_guard_on rfl rfl ?_
  refine v_binb lay26 rfl rfl rfl (fun h5 => ?_) (fun h5 => ?_)
  rotate_left
  · replace h5 : ¬ fge r.2.1 1015021568 := fun h => absurd (h5.symm.trans h) (by decide)
    refine v_pick_t rfl rfl ?_
    refine v_move rfl ?_
    refine v_guard_off rfl rfl rfl ?_
    refine v_guard_off rfl rfl rfl ?_
    refine v_guard_off rfl rfl rfl ?_
    refine v_guard_off rfl rfl rfl ?_
    refine v_guard_off rfl rfl rfl ?_
    refine v_pick_f (v := .v (.bool false)) rfl rfl ?_
    refine v_move rfl ?_
    refine v_guard_off rfl rfl rfl ?_
    refine v_guard_off rfl rfl rfl ?_
    refine v_guard_off rfl rfl rfl ?_
    refine v_guard_off rfl rfl rfl ?_
    refine v_guard_off rfl rfl rfl ?_
    refine v_pick_f (v := .v (.bool false)) rfl rfl ?_
    refine v_move rfl ?_
    refine v_guard_off rfl rfl rfl ?_
    refine v_guard_off rfl rfl rfl ?_
    refine v_guard_off rfl rfl rfl ?_
    refine v_guard_off rfl rfl rfl ?_
    refine v_guard_off rfl rfl rfl ?_
    refine v_pick_f (v := .v (.bool false)) rfl rfl ?_
    refine v_assign rfl ?_
    refine v_nil ?_
    refine q_n ?_
    refine w_ret ?_
    refine r_r rfl ?_
    exact a_b (by unfold roadOk; simp_all)
  replace h5 : fge r.2.1 1015021568 := h5
  refine v_pick_t rfl rfl ?_
  refine v_move rfl ?_
  refine v_guard_on rfl rfl ?_
  refine v_move rfl ?_
  refine v_guard_on rfl rfl ?_
  refine v_nil_vw rfl ?_
  refine v_guard_on rfl rfl ?_
  refine v_fa_vw (off' := 17) lay73 rfl rfl rfl ?_
  refine v_guard_on rfl rfl ?_
  refine v_load_vw (.c (.f _ _)) lay26 rfl rfl rfl ?_
  refine v_guard_on rfl rfl ?_
  refine v_binb lay26 rfl rfl rfl (fun h6 => ?_) (fun h6 => ?_)
  rotate_left
  · replace h6 : ¬ fge r.2.2.1 1015021568 := fun h => absurd (h6.symm.trans h) (by decide)
    refine v_pick_t rfl rfl ?_
    refine v_move rfl ?_
    refine v_guard_off rfl rfl rfl ?_
    refine v_guard_off rfl rfl rfl ?_
    refine v_guard_off rfl rfl rfl ?_
    refine v_guard_off rfl rfl rfl ?_
    refine v_guard_off rfl rfl rfl ?_
    refine v_pick_f (v := .v (.bool false)) rfl rfl ?_
    refine v_move rfl ?_
    refine v_guard_off rfl rfl rfl ?_
    refine v_guard_off rfl rfl rfl ?_
    refine v_guard_off rfl rfl rfl ?_
    refine v_guard_off rfl rfl rfl ?_
    refine v_guard_off rfl rfl rfl ?_
    refine v_pick_f (v := .v (.bool false)) rfl rfl ?_
    refine v_assign rfl ?_
    refine v_nil ?_
    refine q_n ?_
    refine w_ret ?_
    refine r_r rfl ?_
    exact a_b (by unfold roadOk; simp_all)
  replace h6 : fge r.2.2.1 1015021568 := h6
  refine v_pick_t rfl rfl ?_
  refine v_move rfl ?_
  refine v_guard_on rfl rfl ?_
  refine v_move rfl ?_
  refine v_guard_on rfl rfl ?_
  refine v_nil_vw rfl ?_
  refine v_guard_on rfl rfl ?_
  refine v_fa_vw (off' := 18) lay73 rfl rfl rfl ?_
  refine v_guard_on rfl rfl ?_
  refine v_load_vw (.c (.f _ _)) lay26 rfl rfl rfl ?_
  refine v_guard_on rfl rfl ?_
  refine v_binb lay26 rfl rfl rfl (fun h7 => ?_) (fun h7 => ?_)
  rotate_left
  · replace h7 : ¬ fge r.2.2.2 1048576000 := fun h => absurd (h7.symm.trans h) (by decide)
    refine v_pick_t rfl rfl ?_
    refine v_move rfl ?_
    refine v_guard_off rfl rfl rfl ?_
    refine v_guard_off rfl rfl rfl ?_
    refine v_guard_off rfl rfl rfl ?_
    refine v_guard_off rfl rfl rfl ?_
    refine v_guard_off rfl rfl rfl ?_
    refine v_pick_f (v := .v (.bool false)) rfl rfl ?_
    refine v_assign rfl ?_
    refine v_nil ?_
    refine q_n ?_
    refine w_ret ?_
    refine r_r rfl ?_
    exact a_b (by unfold roadOk; simp_all)
  replace h7 : fge r.2.2.2 1048576000 := h7
  refine v_pick_t rfl rfl ?_
  refine v_move rfl ?_
  refine v_guard_on rfl rfl ?_
  refine v_move rfl ?_
  refine v_guard_on rfl rfl ?_
  refine v_nil_vw rfl ?_
  refine v_guard_on rfl rfl ?_
  refine v_fa_vw (off' := 18) lay73 rfl rfl rfl ?_
  refine v_guard_on rfl rfl ?_
  refine v_load_vw (.c (.f _ _)) lay26 rfl rfl rfl ?_
  refine v_guard_on rfl rfl ?_
  refine v_binb lay26 rfl rfl rfl (fun h8 => ?_) (fun h8 => ?_)
  · replace h8 : fle r.2.2.2 1090519040 := h8
    refine v_pick_t rfl rfl ?_
    refine v_assign rfl ?_
    refine v_nil ?_
    refine q_n ?_
    refine w_ret ?_
    refine r_r rfl ?_
    exact a_b (by unfold roadOk; simp_all)
  replace h8 : ¬ fle r.2.2.2 1090519040 := fun h => absurd (h8.symm.trans h) (by decide)
  refine v_pick_t rfl rfl ?_
  refine v_assign rfl ?_
  refine v_nil ?_
  refine q_n ?_
  refine w_ret ?_
  refine r_r rfl ?_
  exact a_b (by unfold roadOk; simp_all)
theorem cRdI (r : Rd) (hr : rW r) : PureC X 109 [.agg (rdc r)] (cB (decide (roadOk r))) := by
  refine PureC.of_body (drawD_ok X) (fun _ _ => Go.Proofs.Tryz.call109 _ _) Go.Proofs.Tryz.func109 rfl (n := 47) rfl ?_
  refine w_seq ?_
  refine w_reg rfl ?_
  refine v_box (m := 0) (H' := [_]) lay73 rfl rfl rfl ?_
  refine v_assign (c := .v (.bool false)) rfl ?_
  refine v_nil ?_
  refine q_n ?_
  refine w_seq ?_
  refine w_seq ?_
  refine w_reg rfl ?_
  refine v_fa_pt (off' := 0) lay73 rfl rfl rfl ?_
  refine v_load_pt (.agg [_, _, _, _, _, _, _, _, _, _, _, _, _, _, _, _]) lay71 rfl rfl rfl rfl ?_
  refine v_move (c := .v (.int .i64 0)) rfl ?_
  refine v_nil ?_
  refine q_n ?_
  refine w_block ?_
  refine w_loop (fun k sl H => ∃ i : Nat, k = 16 - i ∧ i ≤ 16 ∧ (∀ j (hj : j < 16), j < i → shr (r.1 ⟨j, hj⟩)) ∧ sl = sls [(1, .c (.pt 0 0)), (6, .agg (cac r.1)), (7, cI i)] ∧ H = [⟨rdc r, 73, true⟩]) ?_ ?_
  · refine ⟨_, _, _, ?_, 0, rfl, Nat.zero_le _, fun j hj h => by omega, rfl, rfl⟩
    exact turn [some 0] rfl rfl rfl ⟨⟨_, rfl, .stay (fun c hc => stays_fz (fz_sc (List.all_eq_true.1 (rdc_sc r) c hc)))⟩, trivial⟩ ⟨tr_pt rfl, tr_agg (.cons tr_f (.cons tr_f (.cons tr_f (.cons tr_f (.cons tr_f (.cons tr_f (.cons tr_f (.cons tr_f (.cons tr_f (.cons tr_f (.cons tr_f (.cons tr_f (.cons tr_f (.cons tr_f (.cons tr_f (.cons tr_f .nil)))))))))))))))), tr_v, trivial⟩
  rintro k sl H ⟨i, rfl, hi, hp, rfl, rfl⟩
  refine w_seq ?_
  refine w_reg rfl ?_
  refine v_lss lay3 rfl rfl (fun h1 => ?_) (fun h1 => ?_)
  · have hi1 : i < 16 := by omega
    refine v_nil ?_
    refine q_n ?_
    refine w_seq ?_
    refine w_t rfl ?_
    refine w_skip ?_
    refine q_n ?_
    refine w_seq ?_
    refine w_block ?_
    refine w_seq ?_
    refine w_reg rfl ?_
    refine v_index_e i (.c (.f .f32 (r.1 ⟨i, hi1⟩))) lay71 lay26 rfl rfl rfl hi1 (by show i * 1 + 1 ≤ 16; omega) (road_x r i hi1) ?_
    refine v_assign rfl ?_
    refine v_nil ?_
    refine q_n ?_
    refine w_seq ?_
    refine w_reg rfl ?_
    refine v_move rfl ?_
    refine v_callb (cShI _ (hr.1 i hi1)) rfl rfl (.cons vw_f .nil) (fun h2 => ?_) (fun h2 => ?_)
    rotate_left
    · have hsh := h2
      refine v_not true rfl rfl ?_
      refine v_nil ?_
      refine q_n ?_
      refine w_t rfl ?_
      refine w_seq ?_
      refine w_reg rfl ?_
      refine v_assign (c := .v (.bool false)) rfl ?_
      refine v_nil ?_
      refine q_n ?_
      refine w_ret (q_br (q_r (q_r (q_br (q_r ?_)))))
      refine r_r rfl ?_
      exact a_b (by simp only [Bool.false_eq_true, false_iff]; exact road_i hsh)
    have hsh := h2
    refine v_not false rfl rfl ?_
    refine v_nil ?_
    refine q_n ?_
    refine w_f rfl ?_
    refine w_skip ?_
    refine q_bn ?_
    refine q_n ?_
    refine w_reg rfl ?_
    refine v_add lay3 rfl rfl (i64r (by omega)) ?_
    refine v_move rfl ?_
    refine v_nil ?_
    refine q_n ?_
    refine ⟨_, _, _, ?_, ⟨i + 1, rfl, by omega, fun j hj h => ?_, rfl, rfl⟩, by omega⟩
    · exact turn [some 0] rfl rfl rfl ⟨⟨_, rfl, .stay (fun c hc => stays_fz (fz_sc (List.all_eq_true.1 (rdc_sc r) c hc)))⟩, trivial⟩ ⟨tr_pt rfl, tr_agg (.cons tr_f (.cons tr_f (.cons tr_f (.cons tr_f (.cons tr_f (.cons tr_f (.cons tr_f (.cons tr_f (.cons tr_f (.cons tr_f (.cons tr_f (.cons tr_f (.cons tr_f (.cons tr_f (.cons tr_f (.cons tr_f .nil)))))))))))))))), tr_v, trivial⟩
    · rcases Nat.lt_or_eq_of_le (Nat.le_of_lt_succ h) with h | rfl
      · exact hp j hj h
      · exact hsh
  have hall : ∀ i : Fin 16, shr (r.1 i) := fun i => hp i.val i.isLt (by omega)
  refine v_nil ?_
  refine q_n ?_
  refine w_seq ?_
  refine w_f rfl ?_
  refine w_exit ?_
  refine q_e ?_
  refine q_e ?_
  refine q_hit ?_
  refine q_n ?_
  refine w_seq ?_
  refine w_reg rfl ?_
  refine v_fa_pt (off' := 16) lay73 rfl rfl rfl ?_
  refine v_load_pt (.c _) lay26 rfl rfl rfl rfl ?_
  refine v_callb (cShI _ hr.2.1) rfl rfl (.cons vw_f .nil) (fun h3 => ?_) (fun h3 => ?_)
  rotate_left
  · refine v_move rfl ?_
    refine v_guard_off rfl rfl rfl ?_
    refine v_guard_off rfl rfl rfl ?_
    refine v_guard_off rfl rfl rfl ?_
    refine v_pick_f (v := .v (.bool false)) rfl rfl ?_
    refine v_move rfl ?_
    refine v_guard_off rfl rfl rfl ?_
    refine v_guard_off rfl rfl rfl ?_
    refine v_guard_off rfl rfl rfl ?_
    refine v_pick_f (v := .v (.bool false)) rfl rfl ?_
    refine v_move rfl ?_
    refine v_guard_off rfl rfl rfl ?_
    refine v_guard_off rfl rfl rfl ?_
    refine v_guard_off rfl rfl rfl ?_
    refine v_pick_f (v := .v (.bool false)) rfl rfl ?_
    refine v_move rfl ?_
    refine v_guard_off rfl rfl rfl ?_
    refine v_guard_off rfl rfl rfl ?_
    refine v_guard_off rfl rfl rfl ?_
    refine v_pick_f (v := .v (.bool false)) rfl rfl ?_
    refine v_move rfl ?_
    refine v_guard_off rfl rfl rfl ?_
    refine v_guard_off rfl rfl rfl ?_
    refine v_guard_off rfl rfl rfl ?_
    refine v_pick_f (v := .v (.bool false)) rfl rfl ?_
    refine v_move rfl ?_
    refine v_guard_off rfl rfl rfl ?_
    refine v_guard_off rfl rfl rfl ?_
    refine v_guard_off rfl rfl rfl ?_
    refine v_pick_f (v := .v (.bool false)) rfl rfl ?_
    refine v_assign rfl ?_
    refine v_nil ?_
    refine q_n ?_
    refine w_ret ?_
    refine r_r rfl ?_
    exact a_b (by simp only [Bool.false_eq_true, false_iff]; exact fun ho => h3 ho.2.1)
  refine v_move rfl ?_
  refine v_guard_on rfl rfl ?_
  refine v_fa_pt (off' := 17) lay73 rfl rfl rfl ?_
  refine v_guard_on rfl rfl ?_
  refine v_load_pt (.c _) lay26 rfl rfl rfl rfl ?_
  refine v_guard_on rfl rfl ?_
  refine v_callb (cShI _ hr.2.2.1) rfl rfl (.cons vw_f .nil) (fun h4 => ?_) (fun h4 => ?_)
  rotate_left
  · refine v_pick_t rfl rfl ?_
    refine v_move rfl ?_
    refine v_guard_off rfl rfl rfl ?_
    refine v_guard_off rfl rfl rfl ?_
    refine v_guard_off rfl rfl rfl ?_
    refine v_pick_f (v := .v (.bool false)) rfl rfl ?_
    refine v_move rfl ?_
    refine v_guard_off rfl rfl rfl ?_
    refine v_guard_off rfl rfl rfl ?_
    refine v_guard_off rfl rfl rfl ?_
    refine v_pick_f (v := .v (.bool false)) rfl rfl ?_
    refine v_move rfl ?_
    refine v_guard_off rfl rfl rfl ?_
    refine v_guard_off rfl rfl rfl ?_
    refine v_guard_off rfl rfl rfl ?_
    refine v_pick_f (v := .v (.bool false)) rfl rfl ?_
    refine v_move rfl ?_
    refine v_guard_off rfl rfl rfl ?_
    refine v_guard_off rfl rfl rfl ?_
    refine v_guard_off rfl rfl rfl ?_
    refine v_pick_f (v := .v (.bool false)) rfl rfl ?_
    refine v_move rfl ?_
    refine v_guard_off rfl rfl rfl ?_
    refine v_guard_off rfl rfl rfl ?_
    refine v_guard_off rfl rfl rfl ?_
    refine v_pick_f (v := .v (.bool false)) rfl rfl ?_
    refine v_assign rfl ?_
    refine v_nil ?_
    refine q_n ?_
    refine w_ret ?_
    refine r_r rfl ?_
    exact a_b (by simp only [Bool.false_eq_true, false_iff]; exact fun ho => h4 ho.2.2.1)
  refine v_pick_t rfl rfl ?_
  refine v_move rfl ?_
  refine v_guard_on rfl rfl ?_
  refine v_fa_pt (off' := 16) lay73 rfl rfl rfl ?_
  refine v_guard_on rfl rfl ?_
  refine v_load_pt (.c _) lay26 rfl rfl rfl rfl ?_
  refine v_guard_on rfl rfl ?_
  refine v_binb lay26 rfl rfl rfl (fun h5 => ?_) (fun h5 => ?_)
  rotate_left
  · replace h5 : ¬ fge r.2.1 1015021568 := fun h => absurd (h5.symm.trans h) (by decide)
    refine v_pick_t rfl rfl ?_
    refine v_move rfl ?_
    refine v_guard_off rfl rfl rfl ?_
    refine v_guard_off rfl rfl rfl ?_
    refine v_guard_off rfl rfl rfl ?_
    refine v_pick_f (v := .v (.bool false)) rfl rfl ?_
    refine v_move rfl ?_
    refine v_guard_off rfl rfl rfl ?_
    refine v_guard_off rfl rfl rfl ?_
    refine v_guard_off rfl rfl rfl ?_
    refine v_pick_f (v := .v (.bool false)) rfl rfl ?_
    refine v_move rfl ?_
    refine v_guard_off rfl rfl rfl ?_
    refine v_guard_off rfl rfl rfl ?_
    refine v_guard_off rfl rfl rfl ?_
    refine v_pick_f (v := .v (.bool false)) rfl rfl ?_
    refine v_move rfl ?_
    refine v_guard_off rfl rfl rfl ?_
    refine v_guard_off rfl rfl rfl ?_
    refine v_guard_off rfl rfl rfl ?_
    refine v_pick_f (v := .v (.bool false)) rfl rfl ?_
    refine v_assign rfl ?_
    refine v_nil ?_
    refine q_n ?_
    refine w_ret ?_
    refine r_r rfl ?_
    exact a_b (by simp only [Bool.false_eq_true, false_iff]; exact fun ho => h5 ho.2.2.2.1)
  replace h5 : fge r.2.1 1015021568 := h5
  refine v_pick_t rfl rfl ?_
  refine v_move rfl ?_
  refine v_guard_on rfl rfl ?_
  refine v_fa_pt (off' := 17) lay73 rfl rfl rfl ?_
  refine v_guard_on rfl rfl ?_
  refine v_load_pt (.c _) lay26 rfl rfl rfl rfl ?_
  refine v_guard_on rfl rfl ?_
  refine v_binb lay26 rfl rfl rfl (fun h6 => ?_) (fun h6 => ?_)
  rotate_left
  · replace h6 : ¬ fge r.2.2.1 1015021568 := fun h => absurd (h6.symm.trans h) (by decide)
    refine v_pick_t rfl rfl ?_
    refine v_move rfl ?_
    refine v_guard_off rfl rfl rfl ?_
    refine v_guard_off rfl rfl rfl ?_
    refine v_guard_off rfl rfl rfl ?_
    refine v_pick_f (v := .v (.bool false)) rfl rfl ?_
    refine v_move rfl ?_
    refine v_guard_off rfl rfl rfl ?_
    refine v_guard_off rfl rfl rfl ?_
    refine v_guard_off rfl rfl rfl ?_
    refine v_pick_f (v := .v (.bool false)) rfl rfl ?_
    refine v_move rfl ?_
    refine v_guard_off rfl rfl rfl ?_
    refine v_guard_off rfl rfl rfl ?_
    refine v_guard_off rfl rfl rfl ?_
    refine v_pick_f (v := .v (.bool false)) rfl rfl ?_
    refine v_assign rfl ?_
    refine v_nil ?_
    refine q_n ?_
    refine w_ret ?_
    refine r_r rfl ?_
    exact a_b (by simp only [Bool.false_eq_true, false_iff]; exact fun ho => h6 ho.2.2.2.2.1)
  replace h6 : fge r.2.2.1 1015021568 := h6
  refine v_pick_t rfl rfl ?_
  refine v_move rfl ?_
  refine v_guard_on rfl rfl ?_
  refine v_fa_pt (off' := 18) lay73 rfl rfl rfl ?_
  refine v_guard_on rfl rfl ?_
  refine v_load_pt (.c _) lay26 rfl rfl rfl rfl ?_
  refine v_guard_on rfl rfl ?_
  refine v_callb (cAmI _ hr.2.2.2) rfl rfl (.cons vw_f .nil) (fun h7 => ?_) (fun h7 => ?_)
  rotate_left
  · refine v_pick_t rfl rfl ?_
    refine v_move rfl ?_
    refine v_guard_off rfl rfl rfl ?_
    refine v_guard_off rfl rfl rfl ?_
    refine v_guard_off rfl rfl rfl ?_
    refine v_pick_f (v := .v (.bool false)) rfl rfl ?_
    refine v_move rfl ?_
    refine v_guard_off rfl rfl rfl ?_
    refine v_guard_off rfl rfl rfl ?_
    refine v_guard_off rfl rfl rfl ?_
    refine v_pick_f (v := .v (.bool false)) rfl rfl ?_
    refine v_assign rfl ?_
    refine v_nil ?_
    refine q_n ?_
    refine w_ret ?_
    refine r_r rfl ?_
    exact a_b (by simp only [Bool.false_eq_true, false_iff]; exact fun ho => h7 (amt_of hr.2.2.2 ho.2.2.2.2.2.1 ho.2.2.2.2.2.2))
  refine v_pick_t rfl rfl ?_
  refine v_move rfl ?_
  refine v_guard_on rfl rfl ?_
  refine v_fa_pt (off' := 18) lay73 rfl rfl rfl ?_
  refine v_guard_on rfl rfl ?_
  refine v_load_pt (.c _) lay26 rfl rfl rfl rfl ?_
  refine v_guard_on rfl rfl ?_
  refine v_binb lay26 rfl rfl rfl (fun h8 => ?_) (fun h8 => ?_)
  rotate_left
  · replace h8 : ¬ fge r.2.2.2 1048576000 := fun h => absurd (h8.symm.trans h) (by decide)
    refine v_pick_t rfl rfl ?_
    refine v_move rfl ?_
    refine v_guard_off rfl rfl rfl ?_
    refine v_guard_off rfl rfl rfl ?_
    refine v_guard_off rfl rfl rfl ?_
    refine v_pick_f (v := .v (.bool false)) rfl rfl ?_
    refine v_assign rfl ?_
    refine v_nil ?_
    refine q_n ?_
    refine w_ret ?_
    refine r_r rfl ?_
    exact a_b (by simp only [Bool.false_eq_true, false_iff]; exact fun ho => h8 ho.2.2.2.2.2.1)
  replace h8 : fge r.2.2.2 1048576000 := h8
  refine v_pick_t rfl rfl ?_
  refine v_move rfl ?_
  refine v_guard_on rfl rfl ?_
  refine v_fa_pt (off' := 18) lay73 rfl rfl rfl ?_
  refine v_guard_on rfl rfl ?_
  refine v_load_pt (.c _) lay26 rfl rfl rfl rfl ?_
  refine v_guard_on rfl rfl ?_
  refine v_binb lay26 rfl rfl rfl (fun h9 => ?_) (fun h9 => ?_)
  · replace h9 : fle r.2.2.2 1090519040 := h9
    refine v_pick_t rfl rfl ?_
    refine v_assign rfl ?_
    refine v_nil ?_
    refine q_n ?_
    refine w_ret ?_
    refine r_r rfl ?_
    exact a_b (by simp only [true_iff]; exact ⟨hall, h3, h4, h5, h6, h8, h9⟩)
  replace h9 : ¬ fle r.2.2.2 1090519040 := fun h => absurd (h9.symm.trans h) (by decide)
  refine v_pick_t rfl rfl ?_
  refine v_assign rfl ?_
  refine v_nil ?_
  refine q_n ?_
  refine w_ret ?_
  refine r_r rfl ?_
  exact a_b (by simp only [Bool.false_eq_true, false_iff]; exact fun ho => h9 ho.2.2.2.2.2.2)
end Go.VL
namespace Go.VL
open Go.RowKit
set_option maxRecDepth 20000
set_option maxHeartbeats 8000000
abbrev feq (x : Option Nat) : Prop := (ford .f32 x (fOf .f32 0) == some .eq) = true
/-- The sum of the first ones of a row. -/
def psm (g : Fo) : Nat → Option Nat
  | 0 => some 0
  | 1 => g 0
  | n + 2 => fop .add .f32 (psm g (n + 1)) (if h : n + 1 < 4 then g ⟨n + 1, h⟩ else none)
theorem psm_1 (g : Fo) {n : Nat} (h : n < 4) (h0 : (n : Int) = 0) : g ⟨n, h⟩ = psm g (n + 1) := by
  obtain rfl : n = 0 := by omega
  rfl
theorem psm_s (g : Fo) {n : Nat} (h : n < 4) (h0 : ¬ (n : Int) = 0) : fop .add .f32 (psm g n) (g ⟨n, h⟩) = psm g (n + 1) := by
  obtain ⟨m, rfl⟩ : ∃ m, n = m + 1 := ⟨n - 1, by omega⟩
  rw [psm, dif_pos h]
def cellOk (j : Jn) (i k : Nat) (x : Option Nat) : Prop := shr x ∧ ((j.1 ≤ i ∨ j.2.1 ≤ k) → feq x)
def prior (x : Option Nat) : Prop := amtB x = true ∧ fge x 1015021568 ∧ fle x 1115684864
def nil0 (x : Option Nat) : Prop := amtB x = true ∧ feq x
instance (x : Option Nat) : Decidable (prior x) := by unfold prior; infer_instance
instance (x : Option Nat) : Decidable (nil0 x) := by unfold nil0; infer_instance
instance (j : Jn) (i k : Nat) (x : Option Nat) : Decidable (cellOk j i k x) := by unfold cellOk; infer_instance
def rowOk (j : Jn) (i : Fin 4) : Prop := (∀ k : Fin 4, cellOk j i.val k.val (j.2.2.1 i k)) ∧ (if j.1 ≤ (i.val : Int) then nil0 (j.2.2.2 i) else (fge (psm (j.2.2.1 i) 4) 1065336439 ∧ fle (psm (j.2.2.1 i) 4) 1065361605) ∧ prior (j.2.2.2 i))
instance (j : Jn) (i : Fin 4) : Decidable (rowOk j i) := by unfold rowOk; infer_instance
/-- A junction that is valid. -/
def jnOk (j : Jn) : Prop := (1 ≤ j.1 ∧ j.1 ≤ 4) ∧ (1 ≤ j.2.1 ∧ j.2.1 ≤ 4) ∧ ∀ i : Fin 4, rowOk j i
instance (j : Jn) : Decidable (jnOk j) := by unfold jnOk; infer_instance
theorem jn_cell {j : Jn} {i n : Nat} {hi : i < 4} {hn : n < 4} (h : ¬ cellOk j i n (j.2.2.1 ⟨i, hi⟩ ⟨n, hn⟩)) : ¬ jnOk j := fun ho => h ((ho.2.2 ⟨i, hi⟩).1 ⟨n, hn⟩)
theorem jn_nil {j : Jn} {i : Nat} {hi : i < 4} (h0 : j.1 ≤ (i : Int)) (h : ¬ nil0 (j.2.2.2 ⟨i, hi⟩)) : ¬ jnOk j := fun ho => by
  have := (ho.2.2 ⟨i, hi⟩).2
  rw [if_pos h0] at this
  exact h this
theorem jn_in {j : Jn} {i : Nat} {hi : i < 4} (h0 : ¬ j.1 ≤ (i : Int)) (h : ¬ ((fge (psm (j.2.2.1 ⟨i, hi⟩) 4) 1065336439 ∧ fle (psm (j.2.2.1 ⟨i, hi⟩) 4) 1065361605) ∧ prior (j.2.2.2 ⟨i, hi⟩))) : ¬ jnOk j := fun ho => by
  have := (ho.2.2 ⟨i, hi⟩).2
  rw [if_neg h0] at this
  exact h this
theorem jt_ld8 (j : Jn) (ra : List C) {i k : Nat} (h : i < 4) (hk : k < 4) : mkV false (reowns false (sub (jnc j ++ ra) (2 + i * 4 + k * 1) 1)) = some (.c (.f .f32 (j.2.2.1 ⟨i, h⟩ ⟨k, hk⟩))) := by
  match i, h, k, hk with
  | 0, _, 0, _ => rfl
  | 0, _, 1, _ => rfl
  | 0, _, 2, _ => rfl
  | 0, _, 3, _ => rfl
  | 1, _, 0, _ => rfl
  | 1, _, 1, _ => rfl
  | 1, _, 2, _ => rfl
  | 1, _, 3, _ => rfl
  | 2, _, 0, _ => rfl
  | 2, _, 1, _ => rfl
  | 2, _, 2, _ => rfl
  | 2, _, 3, _ => rfl
  | 3, _, 0, _ => rfl
  | 3, _, 1, _ => rfl
  | 3, _, 2, _ => rfl
  | 3, _, 3, _ => rfl
theorem jp_ld8 (j : Jn) (ra : List C) {i : Nat} (h : i < 4) : mkV false (reowns false (sub (jnc j ++ ra) (18 + i * 1) 1)) = some (.c (.f .f32 (j.2.2.2 ⟨i, h⟩))) := by
  match i, h with
  | 0, _ => rfl
  | 1, _ => rfl
  | 2, _ => rfl
  | 3, _ => rfl
theorem jn_len8 (j : Jn) (ra : List C) : (jnc j ++ ra).length = 22 + ra.length := by simp; omega
theorem ne_t {o : Option Ordering} (h : (o != some .eq) = true) : ¬ (o == some .eq) = true := by
  intro h2
  simp [bne, h2] at h
theorem ne_f {o : Option Ordering} (h : (o != some .eq) = false) : (o == some .eq) = true := by
  simpa [bne] using h
theorem row_nil {j : Jn} {i : Nat} {hi : i < 4} (hrow : ∀ b : Fin 4, cellOk j i b.val (j.2.2.1 ⟨i, hi⟩ b)) (h0 : j.1 ≤ (i : Int)) (hn : nil0 (j.2.2.2 ⟨i, hi⟩)) : rowOk j ⟨i, hi⟩ := ⟨hrow, by
  rw [if_pos (show j.1 ≤ (((⟨i, hi⟩ : Fin 4).val : Nat) : Int) from h0)]
  exact hn⟩
theorem row_in {j : Jn} {i : Nat} {hi : i < 4} (hrow : ∀ b : Fin 4, cellOk j i b.val (j.2.2.1 ⟨i, hi⟩ b)) (h0 : ¬ j.1 ≤ (i : Int)) (hn : fge (psm (j.2.2.1 ⟨i, hi⟩) 4) 1065336439 ∧ fle (psm (j.2.2.1 ⟨i, hi⟩) 4) 1065361605) (hp : prior (j.2.2.2 ⟨i, hi⟩)) : rowOk j ⟨i, hi⟩ := ⟨hrow, by
  rw [if_neg (show ¬ j.1 ≤ (((⟨i, hi⟩ : Fin 4).val : Nat) : Int) from h0)]
  exact ⟨hn, hp⟩⟩
theorem cArS (n : Int) : PureC X 210 [cI n] (cB (decide (1 ≤ n ∧ n ≤ 4))) := by
  refine PureC.of_body (drawD_ok X) (fun _ _ => Go.Proofs.Tryz.call210 _ _) Go.Proofs.Tryz.func210 rfl (n := 5) rfl ?_
  refine w_seq ?_
  refine w_reg rfl ?_
  refine v_assign (c := .v (.bool false)) rfl ?_
  refine v_nil ?_
  refine q_n ?_
  refine w_seq ?_
  refine w_reg rfl ?_
  refine v_move rfl ?_
  refine v_callb (cIn _ _ _) rfl rfl (.cons vw_v (.cons vw_v (.cons vw_v .nil))) (fun h1 => ?_) (fun h1 => ?_)
  · refine v_assign rfl ?_
    refine v_nil ?_
    refine q_n ?_
    refine w_ret ?_
    refine r_r rfl ?_
    exact a_b (by simp_all)
  refine v_assign rfl ?_
  refine v_nil ?_
  refine q_n ?_
  refine w_ret ?_
  refine r_r rfl ?_
  exact a_b (by simp_all)
theorem cPrS (x : Option Nat) : PureC X 211 [.c (.f .f32 x)] (cB (decide (prior x))) := by
  refine PureC.of_body (drawD_ok X) (fun _ _ => Go.Proofs.Tryz.call211 _ _) Go.Proofs.Tryz.func211 rfl (n := 13) rfl ?_
  refine w_seq ?_
  refine w_reg rfl ?_
  refine v_assign (c := .v (.bool false)) rfl ?_
  refine v_nil ?_
  refine q_n ?_
  refine w_seq ?_
  refine w_reg rfl ?_
  refine v_move rfl ?_
  refine v_callb (cAmS _) rfl rfl (.cons vw_f .nil) (fun h1 => ?_) (fun h1 => ?_)
  rotate_left
  · refine v_move rfl ?_
    refine v_guard_off rfl rfl rfl ?_
    refine v_guard_off rfl rfl rfl ?_
    refine v_pick_f (v := .v (.bool false)) rfl rfl ?_
    refine v_move rfl ?_
    refine v_guard_off rfl rfl rfl ?_
    refine v_guard_off rfl rfl rfl ?_
    refine v_pick_f (v := .v (.bool false)) rfl rfl ?_
    refine v_assign rfl ?_
    refine v_nil ?_
    refine q_n ?_
    refine w_ret ?_
    refine r_r rfl ?_
    exact a_b (by unfold prior; simp_all)
  refine v_move rfl ?_
  refine v_guard_on rfl rfl ?_
  refine v_move rfl ?_
  refine v_guard_on rfl rfl ?_
  refine v_binb lay26 rfl rfl rfl (fun h2 => ?_) (fun h2 => ?_)
  rotate_left
  · replace h2 : ¬ fge x 1015021568 := fun h => absurd (h2.symm.trans h) (by decide)
    refine v_pick_t rfl rfl ?_
    refine v_move rfl ?_
    refine v_guard_off rfl rfl rfl ?_
    refine v_guard_off rfl rfl rfl ?_
    refine v_pick_f (v := .v (.bool false)) rfl rfl ?_
    refine v_assign rfl ?_
    refine v_nil ?_
    refine q_n ?_
    refine w_ret ?_
    refine r_r rfl ?_
    exact a_b (by unfold prior; simp_all)
  replace h2 : fge x 1015021568 := h2
  refine v_pick_t rfl rfl ?_
  refine v_move rfl ?_
  refine v_guard_on rfl rfl ?_
  refine v_move rfl ?_
  refine v_guard_on rfl rfl ?_
  refine v_binb lay26 rfl rfl rfl (fun h3 => ?_) (fun h3 => ?_)
  · replace h3 : fle x 1115684864 := h3
    refine v_pick_t rfl rfl ?_
    refine v_assign rfl ?_
    refine v_nil ?_
    refine q_n ?_
    refine w_ret ?_
    refine r_r rfl ?_
    exact a_b (by unfold prior; simp_all)
  replace h3 : ¬ fle x 1115684864 := fun h => absurd (h3.symm.trans h) (by decide)
  refine v_pick_t rfl rfl ?_
  refine v_assign rfl ?_
  refine v_nil ?_
  refine q_n ?_
  refine w_ret ?_
  refine r_r rfl ?_
  exact a_b (by unfold prior; simp_all)
theorem cJnS (j : Jn) (ra : List C) (hj : jW j) : PureC X 164 [.c (.vw false (jnc j ++ ra) 0)] (cB (decide (jnOk j))) := by
  refine PureC.of_body (drawD_ok X) (fun _ _ => Go.Proofs.Tryz.call164 _ _) Go.Proofs.Tryz.func164 rfl (n := 106) rfl ?_
  refine w_seq ?_
  refine w_reg rfl ?_
  refine v_assign (c := .v (.bool false)) rfl ?_
  refine v_nil ?_
  refine q_n ?_
  refine w_seq ?_
  refine w_seq ?_
  refine w_reg rfl ?_
  refine v_move rfl ?_
  refine v_nil_vw rfl ?_
  refine v_fa_vw (off' := 0) lay53 rfl rfl rfl ?_
  refine v_load_vw (.c (.v _)) lay2 rfl rfl rfl ?_
  refine v_callb (cArS _) rfl rfl (.cons vw_v .nil) (fun h1 => ?_) (fun h1 => ?_)
  rotate_left
  · refine v_not true rfl rfl ?_
    refine v_move rfl ?_
    refine v_guard_off rfl rfl rfl ?_
    refine v_guard_off rfl rfl rfl ?_
    refine v_guard_off rfl rfl rfl ?_
    refine v_guard_off rfl rfl rfl ?_
    refine v_guard_off rfl rfl rfl ?_
    refine v_guard_off rfl rfl rfl ?_
    refine v_pick_t (v := .v (.bool true)) rfl rfl ?_
    refine v_nil ?_
    refine q_n ?_
    refine w_t rfl ?_
    refine w_seq ?_
    refine w_reg rfl ?_
    refine v_assign (c := .v (.bool false)) rfl ?_
    refine v_nil ?_
    refine q_n ?_
    refine w_ret (q_r ?_)
    refine r_r rfl ?_
    exact a_b (by simp only [Bool.false_eq_true, false_iff]; exact fun ho => h1 ho.1)
  refine v_not false rfl rfl ?_
  refine v_move rfl ?_
  refine v_guard_on rfl rfl ?_
  refine v_move rfl ?_
  refine v_guard_on rfl rfl ?_
  refine v_nil_vw rfl ?_
  refine v_guard_on rfl rfl ?_
  refine v_fa_vw (off' := 1) lay53 rfl rfl rfl ?_
  refine v_guard_on rfl rfl ?_
  refine v_load_vw (.c (.v _)) lay2 rfl rfl rfl ?_
  refine v_guard_on rfl rfl ?_
  refine v_callb (cArS _) rfl rfl (.cons vw_v .nil) (fun h2 => ?_) (fun h2 => ?_)
  rotate_left
  · refine v_guard_on rfl rfl ?_
    refine v_not true rfl rfl ?_
    refine v_pick_f rfl rfl ?_
    refine v_nil ?_
    refine q_n ?_
    refine w_t rfl ?_
    refine w_seq ?_
    refine w_reg rfl ?_
    refine v_assign (c := .v (.bool false)) rfl ?_
    refine v_nil ?_
    refine q_n ?_
    refine w_ret (q_r ?_)
    refine r_r rfl ?_
    exact a_b (by simp only [Bool.false_eq_true, false_iff]; exact fun ho => h2 ho.2.1)
  refine v_guard_on rfl rfl ?_
  refine v_not false rfl rfl ?_
  refine v_pick_f rfl rfl ?_
  refine v_nil ?_
  refine q_n ?_
  refine w_f rfl ?_
  refine w_skip ?_
  refine q_n ?_
  refine w_seq ?_
  refine w_seq ?_
  refine w_reg rfl ?_
  refine v_assign (c := .v (.int .i64 0)) rfl ?_
  refine v_nil ?_
  refine q_n ?_
  refine w_block ?_
  refine w_loop (fun k sl H => ∃ i : Nat, k = 4 - i ∧ i ≤ 4 ∧ (∀ a (ha : a < 4), a < i → rowOk j ⟨a, ha⟩) ∧ sl = sls [(0, .c (.vw false (jnc j ++ ra) 0)), (3, cI i)] ∧ H = []) ?_ ?_
  · refine ⟨_, _, _, ?_, 0, rfl, Nat.zero_le _, fun a ha h => by omega, rfl, rfl⟩
    exact turn0 ⟨tr_vw, tr_v, trivial⟩
  rintro k sl H ⟨i, rfl, hi, hp, rfl, rfl⟩
  refine w_seq ?_
  refine w_seq ?_
  refine w_reg rfl ?_
  refine v_move rfl ?_
  refine v_lss lay2 rfl rfl (fun h3 => ?_) (fun h3 => ?_)
  rotate_left
  · have hall : ∀ i : Fin 4, rowOk j i := fun i => hp i.val i.isLt (by omega)
    refine v_nil ?_
    refine q_n ?_
    refine w_f rfl ?_
    refine w_exit ?_
    refine q_e ?_
    refine q_e ?_
    refine q_hit ?_
    refine q_n ?_
    refine w_seq ?_
    refine w_reg rfl ?_
    refine v_assign (c := .v (.bool true)) rfl ?_
    refine v_nil ?_
    refine q_n ?_
    refine w_ret ?_
    refine r_r rfl ?_
    exact a_b (by simp only [true_iff]; exact ⟨h1, h2, hall⟩)
  have hi1 : i < 4 := by omega
  refine v_nil ?_
  refine q_n ?_
  refine w_t rfl ?_
  refine w_skip ?_
  refine q_n ?_
  refine w_seq ?_
  refine w_block ?_
  refine w_seq ?_
  refine w_reg rfl ?_
  refine v_assign (c := .f _ _) rfl ?_
  refine v_nil ?_
  refine q_n ?_
  refine w_seq ?_
  refine w_seq ?_
  refine w_reg rfl ?_
  refine v_assign (c := .v (.int .i64 0)) rfl ?_
  refine v_nil ?_
  refine q_n ?_
  refine w_block ?_
  refine w_loop (fun k sl H => ∃ n : Nat, k = 4 - n ∧ n ≤ 4 ∧ (∀ b (hb : b < 4), b < n → cellOk j i b (j.2.2.1 ⟨i, hi1⟩ ⟨b, hb⟩)) ∧ sl = sls [(0, .c (.vw false (jnc j ++ ra) 0)), (3, cI i), (4, .c (.f .f32 (psm (j.2.2.1 ⟨i, hi1⟩) n))), (5, cI n)] ∧ H = []) ?_ ?_
  · refine ⟨_, _, _, ?_, 0, rfl, Nat.zero_le _, fun b hb h => by omega, rfl, rfl⟩
    exact turn0 ⟨tr_vw, tr_v, tr_f, tr_v, trivial⟩
  rintro k sl H ⟨n, rfl, hn, hpn, rfl, rfl⟩
  refine w_seq ?_
  refine w_seq ?_
  refine w_reg rfl ?_
  refine v_move rfl ?_
  refine v_lss lay2 rfl rfl (fun h4 => ?_) (fun h4 => ?_)
  rotate_left
  · obtain rfl : n = 4 := by omega
    have hrow : ∀ b : Fin 4, cellOk j i b.val (j.2.2.1 ⟨i, hi1⟩ b) := fun b => hpn b.val b.isLt b.isLt
    refine v_nil ?_
    refine q_n ?_
    refine w_f rfl ?_
    refine w_exit ?_
    refine q_e ?_
    refine q_e ?_
    refine q_hit ?_
    refine q_n ?_
    refine w_seq ?_
    refine w_seq ?_
    refine w_reg rfl ?_
    refine v_move rfl ?_
    refine v_move rfl ?_
    refine v_nil_vw rfl ?_
    refine v_fa_vw (off' := 0) lay53 rfl rfl rfl ?_
    refine v_load_vw (.c (.v _)) lay2 rfl rfl rfl ?_
    refine v_geq lay2 rfl rfl (fun h13 => ?_) (fun h13 => ?_)
    · refine v_nil ?_
      refine q_n ?_
      refine w_t rfl ?_
      refine w_seq ?_
      refine w_seq ?_
      refine w_reg rfl ?_
      refine v_move rfl ?_
      refine v_move rfl ?_
      refine v_nil_vw rfl ?_
      refine v_fa_vw (off' := 18) lay53 rfl rfl rfl ?_
      refine v_idx_av_e (k := 1) (i) lay51 lay26 rfl rfl rfl (rfl) (hi1) ?_
      refine v_load_vw_e (.c (.f .f32 (j.2.2.2 ⟨i, hi1⟩))) lay26 rfl (by rw [jn_len8]; show 18 + i * 1 + 1 ≤ _; omega) (jp_ld8 j ra hi1) ?_
      refine v_callb (cAmS _) rfl rfl (.cons vw_f .nil) (fun h14 => ?_) (fun h14 => ?_)
      rotate_left
      · refine v_not true rfl rfl ?_
        refine v_move rfl ?_
        refine v_guard_off rfl rfl rfl ?_
        refine v_guard_off rfl rfl rfl ?_
        refine v_guard_off rfl rfl rfl ?_
        refine v_guard_off rfl rfl rfl ?_
        refine v_guard_off rfl rfl rfl ?_
        refine v_guard_off rfl rfl rfl ?_
        refine v_guard_off rfl rfl rfl ?_
        refine v_pick_t (v := .v (.bool true)) rfl rfl ?_
        refine v_nil ?_
        refine q_n ?_
        refine w_t rfl ?_
        refine w_seq ?_
        refine w_reg rfl ?_
        refine v_assign (c := .v (.bool false)) rfl ?_
        refine v_nil ?_
        refine q_n ?_
        refine w_ret (q_r (q_r (q_br (q_r (q_r (q_br (q_r ?_)))))))
        refine r_r rfl ?_
        exact a_b (by simp only [Bool.false_eq_true, false_iff]; exact jn_nil (hi := hi1) (by omega) fun hn => h14 hn.1)
      refine v_not false rfl rfl ?_
      refine v_move rfl ?_
      refine v_guard_on rfl rfl ?_
      refine v_move rfl ?_
      refine v_guard_on rfl rfl ?_
      refine v_move rfl ?_
      refine v_guard_on rfl rfl ?_
      refine v_nil_vw rfl ?_
      refine v_guard_on rfl rfl ?_
      refine v_fa_vw (off' := 18) lay53 rfl rfl rfl ?_
      refine v_guard_on rfl rfl ?_
      refine v_idx_av_e (k := 1) (i) lay51 lay26 rfl rfl rfl (rfl) (hi1) ?_
      refine v_guard_on rfl rfl ?_
      refine v_load_vw_e (.c (.f .f32 (j.2.2.2 ⟨i, hi1⟩))) lay26 rfl (by rw [jn_len8]; show 18 + i * 1 + 1 ≤ _; omega) (jp_ld8 j ra hi1) ?_
      refine v_guard_on rfl rfl ?_
      refine v_binb lay26 rfl rfl rfl (fun h15 => ?_) (fun h15 => ?_)
      · replace h15 : ¬ feq (j.2.2.2 ⟨i, hi1⟩) := ne_t h15
        refine v_pick_f rfl rfl ?_
        refine v_nil ?_
        refine q_n ?_
        refine w_t rfl ?_
        refine w_seq ?_
        refine w_reg rfl ?_
        refine v_assign (c := .v (.bool false)) rfl ?_
        refine v_nil ?_
        refine q_n ?_
        refine w_ret (q_r (q_r (q_br (q_r (q_r (q_br (q_r ?_)))))))
        refine r_r rfl ?_
        exact a_b (by simp only [Bool.false_eq_true, false_iff]; exact jn_nil (hi := hi1) (by omega) fun hn => h15 hn.2)
      replace h15 : feq (j.2.2.2 ⟨i, hi1⟩) := ne_f h15
      refine v_pick_f rfl rfl ?_
      refine v_nil ?_
      refine q_n ?_
      refine w_f rfl ?_
      refine w_skip ?_
      refine q_n ?_
      refine w_exit ?_
      refine q_e ?_
      refine q_hit ?_
      refine q_n ?_
      refine w_reg rfl ?_
      refine v_move rfl ?_
      refine v_add lay2 rfl rfl (i64r (by omega)) ?_
      refine v_assign rfl ?_
      refine v_nil ?_
      refine q_n ?_
      refine ⟨_, _, _, ?_, ⟨i + 1, rfl, by omega, fun a ha h => ?_, rfl, rfl⟩, by omega⟩
      · exact turn0 ⟨tr_vw, tr_v, trivial⟩
      · rcases Nat.lt_or_eq_of_le (Nat.le_of_lt_succ h) with h | rfl
        · exact hp a ha h
        · exact row_nil hrow (by omega) ⟨h14, h15⟩
    refine v_nil ?_
    refine q_n ?_
    refine w_f rfl ?_
    refine w_skip ?_
    refine q_n ?_
    refine w_seq ?_
    refine w_reg rfl ?_
    refine v_move rfl ?_
    refine v_binb lay26 rfl rfl rfl (fun h16 => ?_) (fun h16 => ?_)
    rotate_left
    · replace h16 : ¬ fge (psm (j.2.2.1 ⟨i, hi1⟩) 4) 1065336439 := fun h => absurd (h16.symm.trans h) (by decide)
      refine v_move rfl ?_
      refine v_guard_off rfl rfl rfl ?_
      refine v_guard_off rfl rfl rfl ?_
      refine v_pick_f (v := .v (.bool false)) rfl rfl ?_
      refine v_not true rfl rfl ?_
      refine v_move rfl ?_
      refine v_guard_off rfl rfl rfl ?_
      refine v_guard_off rfl rfl rfl ?_
      refine v_guard_off rfl rfl rfl ?_
      refine v_guard_off rfl rfl rfl ?_
      refine v_guard_off rfl rfl rfl ?_
      refine v_guard_off rfl rfl rfl ?_
      refine v_guard_off rfl rfl rfl ?_
      refine v_guard_off rfl rfl rfl ?_
      refine v_pick_t (v := .v (.bool true)) rfl rfl ?_
      refine v_nil ?_
      refine q_n ?_
      refine w_t rfl ?_
      refine w_seq ?_
      refine w_reg rfl ?_
      refine v_assign (c := .v (.bool false)) rfl ?_
      refine v_nil ?_
      refine q_n ?_
      refine w_ret (q_br (q_r (q_r (q_br (q_r ?_)))))
      refine r_r rfl ?_
      exact a_b (by simp only [Bool.false_eq_true, false_iff]; exact jn_in (hi := hi1) (by omega) fun h => h16 h.1.1)
    replace h16 : fge (psm (j.2.2.1 ⟨i, hi1⟩) 4) 1065336439 := h16
    refine v_move rfl ?_
    refine v_guard_on rfl rfl ?_
    refine v_move rfl ?_
    refine v_guard_on rfl rfl ?_
    refine v_binb lay26 rfl rfl rfl (fun h17 => ?_) (fun h17 => ?_)
    rotate_left
    · replace h17 : ¬ fle (psm (j.2.2.1 ⟨i, hi1⟩) 4) 1065361605 := fun h => absurd (h17.symm.trans h) (by decide)
      refine v_pick_t rfl rfl ?_
      refine v_not true rfl rfl ?_
      refine v_move rfl ?_
      refine v_guard_off rfl rfl rfl ?_
      refine v_guard_off rfl rfl rfl ?_
      refine v_guard_off rfl rfl rfl ?_
      refine v_guard_off rfl rfl rfl ?_
      refine v_guard_off rfl rfl rfl ?_
      refine v_guard_off rfl rfl rfl ?_
      refine v_guard_off rfl rfl rfl ?_
      refine v_guard_off rfl rfl rfl ?_
      refine v_pick_t (v := .v (.bool true)) rfl rfl ?_
      refine v_nil ?_
      refine q_n ?_
      refine w_t rfl ?_
      refine w_seq ?_
      refine w_reg rfl ?_
      refine v_assign (c := .v (.bool false)) rfl ?_
      refine v_nil ?_
      refine q_n ?_
      refine w_ret (q_br (q_r (q_r (q_br (q_r ?_)))))
      refine r_r rfl ?_
      exact a_b (by simp only [Bool.false_eq_true, false_iff]; exact jn_in (hi := hi1) (by omega) fun h => h17 h.1.2)
    replace h17 : fle (psm (j.2.2.1 ⟨i, hi1⟩) 4) 1065361605 := h17
    refine v_pick_t rfl rfl ?_
    refine v_not false rfl rfl ?_
    refine v_move rfl ?_
    refine v_guard_on rfl rfl ?_
    refine v_move rfl ?_
    refine v_guard_on rfl rfl ?_
    refine v_move rfl ?_
    refine v_guard_on rfl rfl ?_
    refine v_nil_vw rfl ?_
    refine v_guard_on rfl rfl ?_
    refine v_fa_vw (off' := 18) lay53 rfl rfl rfl ?_
    refine v_guard_on rfl rfl ?_
    refine v_idx_av_e (k := 1) (i) lay51 lay26 rfl rfl rfl (rfl) (hi1) ?_
    refine v_guard_on rfl rfl ?_
    refine v_load_vw_e (.c (.f .f32 (j.2.2.2 ⟨i, hi1⟩))) lay26 rfl (by rw [jn_len8]; show 18 + i * 1 + 1 ≤ _; omega) (jp_ld8 j ra hi1) ?_
    refine v_guard_on rfl rfl ?_
    refine v_callb (cPrS _) rfl rfl (.cons vw_f .nil) (fun h18 => ?_) (fun h18 => ?_)
    rotate_left
    · refine v_guard_on rfl rfl ?_
      refine v_not true rfl rfl ?_
      refine v_pick_f rfl rfl ?_
      refine v_nil ?_
      refine q_n ?_
      refine w_t rfl ?_
      refine w_seq ?_
      refine w_reg rfl ?_
      refine v_assign (c := .v (.bool false)) rfl ?_
      refine v_nil ?_
      refine q_n ?_
      refine w_ret (q_br (q_r (q_r (q_br (q_r ?_)))))
      refine r_r rfl ?_
      exact a_b (by simp only [Bool.false_eq_true, false_iff]; exact jn_in (hi := hi1) (by omega) fun h => h18 h.2)
    refine v_guard_on rfl rfl ?_
    refine v_not false rfl rfl ?_
    refine v_pick_f rfl rfl ?_
    refine v_nil ?_
    refine q_n ?_
    refine w_f rfl ?_
    refine w_skip ?_
    refine q_bn ?_
    refine q_n ?_
    refine w_reg rfl ?_
    refine v_move rfl ?_
    refine v_add lay2 rfl rfl (i64r (by omega)) ?_
    refine v_assign rfl ?_
    refine v_nil ?_
    refine q_n ?_
    refine ⟨_, _, _, ?_, ⟨i + 1, rfl, by omega, fun a ha h => ?_, rfl, rfl⟩, by omega⟩
    · exact turn0 ⟨tr_vw, tr_v, trivial⟩
    · rcases Nat.lt_or_eq_of_le (Nat.le_of_lt_succ h) with h | rfl
      · exact hp a ha h
      · exact row_in hrow (by omega) ⟨h16, h17⟩ h18
  have hn1 : n < 4 := by omega
  refine v_nil ?_
  refine q_n ?_
  refine w_t rfl ?_
  refine w_skip ?_
  refine q_n ?_
  refine w_seq ?_
  refine w_block ?_
  refine w_seq ?_
  refine w_reg rfl ?_
  refine v_move rfl ?_
  refine v_move rfl ?_
  refine v_move rfl ?_
  refine v_nil_vw rfl ?_
  refine v_fa_vw (off' := 2) lay53 rfl rfl rfl ?_
  refine v_idx_av_e (k := 4) (i) lay50 lay48 rfl rfl rfl (rfl) (hi1) ?_
  refine v_idx_av_e (k := 1) (n) lay48 lay26 rfl rfl rfl (rfl) (hn1) ?_
  refine v_load_vw_e (.c (.f .f32 (j.2.2.1 ⟨i, hi1⟩ ⟨n, hn1⟩))) lay26 rfl (by rw [jn_len8]; show 2 + i * 4 + n * 1 + 1 ≤ _; omega) (jt_ld8 j ra hi1 hn1) ?_
  refine v_assign rfl ?_
  refine v_nil ?_
  refine q_n ?_
  refine w_seq ?_
  refine w_seq ?_
  refine w_reg rfl ?_
  refine v_move rfl ?_
  refine v_callb (cShS _) rfl rfl (.cons vw_f .nil) (fun h5 => ?_) (fun h5 => ?_)
  rotate_left
  · refine v_not true rfl rfl ?_
    refine v_move rfl ?_
    refine v_guard_off rfl rfl rfl ?_
    refine v_guard_off rfl rfl rfl ?_
    refine v_guard_off rfl rfl rfl ?_
    refine v_guard_off rfl rfl rfl ?_
    refine v_guard_off rfl rfl rfl ?_
    refine v_guard_off rfl rfl rfl ?_
    refine v_guard_off rfl rfl rfl ?_
    refine v_guard_un rfl rfl ?_
    refine v_guard_un rfl rfl ?_
    refine v_guard_un rfl rfl ?_
    refine v_guard_un rfl rfl ?_
    refine v_guard_un rfl rfl ?_
    refine v_guard_un rfl rfl ?_
    refine v_guard_off rfl rfl rfl ?_
    refine v_guard_off rfl rfl rfl ?_
    refine v_guard_un rfl rfl ?_
    refine v_guard_un rfl rfl ?_
    refine v_guard_off rfl rfl rfl ?_
    refine v_pick_t (v := .v (.bool true)) rfl rfl ?_
    refine v_nil ?_
    refine q_n ?_
    refine w_t rfl ?_
    refine w_seq ?_
    refine w_reg rfl ?_
    refine v_assign (c := .v (.bool false)) rfl ?_
    refine v_nil ?_
    refine q_n ?_
    refine w_ret (q_r (q_br (q_r (q_r (q_br (q_r (q_br (q_r (q_r (q_br (q_r ?_)))))))))))
    refine r_r rfl ?_
    exact a_b (by simp only [Bool.false_eq_true, false_iff]; exact jn_cell (n := n) (hi := hi1) (hn := hn1) fun hc => h5 hc.1)
  refine v_not false rfl rfl ?_
  refine v_move rfl ?_
  refine v_guard_on rfl rfl ?_
  refine v_move rfl ?_
  refine v_guard_on rfl rfl ?_
  refine v_move rfl ?_
  refine v_guard_on rfl rfl ?_
  refine v_nil_vw rfl ?_
  refine v_guard_on rfl rfl ?_
  refine v_fa_vw (off' := 0) lay53 rfl rfl rfl ?_
  refine v_guard_on rfl rfl ?_
  refine v_load_vw (.c (.v _)) lay2 rfl rfl rfl ?_
  refine v_guard_on rfl rfl ?_
  refine v_geq lay2 rfl rfl (fun h6 => ?_) (fun h6 => ?_)
  · refine v_guard_on rfl rfl ?_
    refine v_move rfl ?_
    refine v_guard_off rfl rfl rfl ?_
    refine v_guard_off rfl rfl rfl ?_
    refine v_guard_off rfl rfl rfl ?_
    refine v_guard_off rfl rfl rfl ?_
    refine v_guard_off rfl rfl rfl ?_
    refine v_guard_off rfl rfl rfl ?_
    refine v_guard_on rfl rfl ?_
    refine v_pick_t (v := .v (.bool true)) rfl rfl ?_
    refine v_guard_on rfl rfl ?_
    refine v_move rfl ?_
    refine v_guard_on rfl rfl ?_
    refine v_move rfl ?_
    refine v_guard_on rfl rfl ?_
    refine v_binb lay26 rfl rfl rfl (fun h7 => ?_) (fun h7 => ?_)
    · replace h7 : ¬ feq (j.2.2.1 ⟨i, hi1⟩ ⟨n, hn1⟩) := ne_t h7
      refine v_guard_on rfl rfl ?_
      refine v_pick_t rfl rfl ?_
      refine v_pick_f rfl rfl ?_
      refine v_nil ?_
      refine q_n ?_
      refine w_t rfl ?_
      refine w_seq ?_
      refine w_reg rfl ?_
      refine v_assign (c := .v (.bool false)) rfl ?_
      refine v_nil ?_
      refine q_n ?_
      refine w_ret (q_r (q_br (q_r (q_r (q_br (q_r (q_br (q_r (q_r (q_br (q_r ?_)))))))))))
      refine r_r rfl ?_
      exact a_b (by simp only [Bool.false_eq_true, false_iff]; exact jn_cell (n := n) (hi := hi1) (hn := hn1) fun hc => h7 (hc.2 (.inl (by omega))))
    replace h7 : feq (j.2.2.1 ⟨i, hi1⟩ ⟨n, hn1⟩) := ne_f h7
    refine v_guard_on rfl rfl ?_
    refine v_pick_t rfl rfl ?_
    refine v_pick_f rfl rfl ?_
    refine v_nil ?_
    refine q_n ?_
    refine w_f rfl ?_
    refine w_skip ?_
    refine q_n ?_
    refine w_seq ?_
    refine w_reg rfl ?_
    refine v_move rfl ?_
    refine v_eql lay2 rfl rfl (fun h8 => ?_) (fun h8 => ?_)
    · refine v_nil ?_
      refine q_n ?_
      refine w_t rfl ?_
      refine w_reg rfl ?_
      refine v_move rfl ?_
      refine v_assign rfl ?_
      refine v_nil ?_
      refine q_bn ?_
      refine q_n ?_
      refine w_reg rfl ?_
      refine v_move rfl ?_
      refine v_add lay2 rfl rfl (i64r (by omega)) ?_
      refine v_assign rfl ?_
      refine v_nil ?_
      refine q_n ?_
      have hcell : cellOk j i n (j.2.2.1 ⟨i, hi1⟩ ⟨n, hn1⟩) := ⟨by assumption, fun hor => by first | assumption | (exfalso; omega)⟩
      refine ⟨_, _, _, ?_, ⟨n + 1, rfl, by omega, fun b hb h => ?_, rfl, rfl⟩, by omega⟩
      · first | (rw [← psm_1 (j.2.2.1 ⟨i, hi1⟩) hn1 (by assumption)]; exact turn0 ⟨tr_vw, tr_v, tr_f, tr_v, trivial⟩) | (rw [← psm_s (j.2.2.1 ⟨i, hi1⟩) hn1 (by assumption)]; exact turn0 ⟨tr_vw, tr_v, tr_f, tr_v, trivial⟩)
      · rcases Nat.lt_or_eq_of_le (Nat.le_of_lt_succ h) with h | rfl
        · exact hpn b hb h
        · exact hcell
    refine v_nil ?_
    refine q_n ?_
    refine w_f rfl ?_
    refine w_reg rfl ?_
    refine v_move rfl ?_
    refine v_move rfl ?_
    refine v_bin (c := .f _ _) lay26 rfl rfl rfl ?_
    refine v_assign rfl ?_
    refine v_nil ?_
    refine q_bn ?_
    refine q_n ?_
    refine w_reg rfl ?_
    refine v_move rfl ?_
    refine v_add lay2 rfl rfl (i64r (by omega)) ?_
    refine v_assign rfl ?_
    refine v_nil ?_
    refine q_n ?_
    have hcell : cellOk j i n (j.2.2.1 ⟨i, hi1⟩ ⟨n, hn1⟩) := ⟨by assumption, fun hor => by first | assumption | (exfalso; omega)⟩
    refine ⟨_, _, _, ?_, ⟨n + 1, rfl, by omega, fun b hb h => ?_, rfl, rfl⟩, by omega⟩
    · first | (rw [← psm_1 (j.2.2.1 ⟨i, hi1⟩) hn1 (by assumption)]; exact turn0 ⟨tr_vw, tr_v, tr_f, tr_v, trivial⟩) | (rw [← psm_s (j.2.2.1 ⟨i, hi1⟩) hn1 (by assumption)]; exact turn0 ⟨tr_vw, tr_v, tr_f, tr_v, trivial⟩)
    · rcases Nat.lt_or_eq_of_le (Nat.le_of_lt_succ h) with h | rfl
      · exact hpn b hb h
      · exact hcell
  refine v_guard_on rfl rfl ?_
  refine v_move rfl ?_
  refine v_guard_on rfl rfl ?_
  refine v_move rfl ?_
  refine v_guard_on rfl rfl ?_
  refine v_move rfl ?_
  refine v_guard_on rfl rfl ?_
  refine v_nil_vw rfl ?_
  refine v_guard_on rfl rfl ?_
  refine v_fa_vw (off' := 1) lay53 rfl rfl rfl ?_
  refine v_guard_on rfl rfl ?_
  refine v_load_vw (.c (.v _)) lay2 rfl rfl rfl ?_
  refine v_guard_on rfl rfl ?_
  refine v_geq lay2 rfl rfl (fun h9 => ?_) (fun h9 => ?_)
  rotate_left
  · refine v_guard_on rfl rfl ?_
    refine v_pick_f rfl rfl ?_
    refine v_guard_on rfl rfl ?_
    refine v_move rfl ?_
    refine v_guard_off rfl rfl rfl ?_
    refine v_guard_off rfl rfl rfl ?_
    refine v_guard_on rfl rfl ?_
    refine v_pick_f (v := .v (.bool false)) rfl rfl ?_
    refine v_pick_f rfl rfl ?_
    refine v_nil ?_
    refine q_n ?_
    refine w_f rfl ?_
    refine w_skip ?_
    refine q_n ?_
    refine w_seq ?_
    refine w_reg rfl ?_
    refine v_move rfl ?_
    refine v_eql lay2 rfl rfl (fun h12 => ?_) (fun h12 => ?_)
    · refine v_nil ?_
      refine q_n ?_
      refine w_t rfl ?_
      refine w_reg rfl ?_
      refine v_move rfl ?_
      refine v_assign rfl ?_
      refine v_nil ?_
      refine q_bn ?_
      refine q_n ?_
      refine w_reg rfl ?_
      refine v_move rfl ?_
      refine v_add lay2 rfl rfl (i64r (by omega)) ?_
      refine v_assign rfl ?_
      refine v_nil ?_
      refine q_n ?_
      have hcell : cellOk j i n (j.2.2.1 ⟨i, hi1⟩ ⟨n, hn1⟩) := ⟨by assumption, fun hor => by first | assumption | (exfalso; omega)⟩
      refine ⟨_, _, _, ?_, ⟨n + 1, rfl, by omega, fun b hb h => ?_, rfl, rfl⟩, by omega⟩
      · first | (rw [← psm_1 (j.2.2.1 ⟨i, hi1⟩) hn1 (by assumption)]; exact turn0 ⟨tr_vw, tr_v, tr_f, tr_v, trivial⟩) | (rw [← psm_s (j.2.2.1 ⟨i, hi1⟩) hn1 (by assumption)]; exact turn0 ⟨tr_vw, tr_v, tr_f, tr_v, trivial⟩)
      · rcases Nat.lt_or_eq_of_le (Nat.le_of_lt_succ h) with h | rfl
        · exact hpn b hb h
        · exact hcell
    refine v_nil ?_
    refine q_n ?_
    refine w_f rfl ?_
    refine w_reg rfl ?_
    refine v_move rfl ?_
    refine v_move rfl ?_
    refine v_bin (c := .f _ _) lay26 rfl rfl rfl ?_
    refine v_assign rfl ?_
    refine v_nil ?_
    refine q_bn ?_
    refine q_n ?_
    refine w_reg rfl ?_
    refine v_move rfl ?_
    refine v_add lay2 rfl rfl (i64r (by omega)) ?_
    refine v_assign rfl ?_
    refine v_nil ?_
    refine q_n ?_
    have hcell : cellOk j i n (j.2.2.1 ⟨i, hi1⟩ ⟨n, hn1⟩) := ⟨by assumption, fun hor => by first | assumption | (exfalso; omega)⟩
    refine ⟨_, _, _, ?_, ⟨n + 1, rfl, by omega, fun b hb h => ?_, rfl, rfl⟩, by omega⟩
    · first | (rw [← psm_1 (j.2.2.1 ⟨i, hi1⟩) hn1 (by assumption)]; exact turn0 ⟨tr_vw, tr_v, tr_f, tr_v, trivial⟩) | (rw [← psm_s (j.2.2.1 ⟨i, hi1⟩) hn1 (by assumption)]; exact turn0 ⟨tr_vw, tr_v, tr_f, tr_v, trivial⟩)
    · rcases Nat.lt_or_eq_of_le (Nat.le_of_lt_succ h) with h | rfl
      · exact hpn b hb h
      · exact hcell
  refine v_guard_on rfl rfl ?_
  refine v_pick_f rfl rfl ?_
  refine v_guard_on rfl rfl ?_
  refine v_move rfl ?_
  refine v_guard_on rfl rfl ?_
  refine v_move rfl ?_
  refine v_guard_on rfl rfl ?_
  refine v_binb lay26 rfl rfl rfl (fun h10 => ?_) (fun h10 => ?_)
  · replace h10 : ¬ feq (j.2.2.1 ⟨i, hi1⟩ ⟨n, hn1⟩) := ne_t h10
    refine v_guard_on rfl rfl ?_
    refine v_pick_t rfl rfl ?_
    refine v_pick_f rfl rfl ?_
    refine v_nil ?_
    refine q_n ?_
    refine w_t rfl ?_
    refine w_seq ?_
    refine w_reg rfl ?_
    refine v_assign (c := .v (.bool false)) rfl ?_
    refine v_nil ?_
    refine q_n ?_
    refine w_ret (q_r (q_br (q_r (q_r (q_br (q_r (q_br (q_r (q_r (q_br (q_r ?_)))))))))))
    refine r_r rfl ?_
    exact a_b (by simp only [Bool.false_eq_true, false_iff]; exact jn_cell (n := n) (hi := hi1) (hn := hn1) fun hc => h10 (hc.2 (.inr (by omega))))
  replace h10 : feq (j.2.2.1 ⟨i, hi1⟩ ⟨n, hn1⟩) := ne_f h10
  refine v_guard_on rfl rfl ?_
  refine v_pick_t rfl rfl ?_
  refine v_pick_f rfl rfl ?_
  refine v_nil ?_
  refine q_n ?_
  refine w_f rfl ?_
  refine w_skip ?_
  refine q_n ?_
  refine w_seq ?_
  refine w_reg rfl ?_
  refine v_move rfl ?_
  refine v_eql lay2 rfl rfl (fun h11 => ?_) (fun h11 => ?_)
  · refine v_nil ?_
    refine q_n ?_
    refine w_t rfl ?_
    refine w_reg rfl ?_
    refine v_move rfl ?_
    refine v_assign rfl ?_
    refine v_nil ?_
    refine q_bn ?_
    refine q_n ?_
    refine w_reg rfl ?_
    refine v_move rfl ?_
    refine v_add lay2 rfl rfl (i64r (by omega)) ?_
    refine v_assign rfl ?_
    refine v_nil ?_
    refine q_n ?_
    have hcell : cellOk j i n (j.2.2.1 ⟨i, hi1⟩ ⟨n, hn1⟩) := ⟨by assumption, fun hor => by first | assumption | (exfalso; omega)⟩
    refine ⟨_, _, _, ?_, ⟨n + 1, rfl, by omega, fun b hb h => ?_, rfl, rfl⟩, by omega⟩
    · first | (rw [← psm_1 (j.2.2.1 ⟨i, hi1⟩) hn1 (by assumption)]; exact turn0 ⟨tr_vw, tr_v, tr_f, tr_v, trivial⟩) | (rw [← psm_s (j.2.2.1 ⟨i, hi1⟩) hn1 (by assumption)]; exact turn0 ⟨tr_vw, tr_v, tr_f, tr_v, trivial⟩)
    · rcases Nat.lt_or_eq_of_le (Nat.le_of_lt_succ h) with h | rfl
      · exact hpn b hb h
      · exact hcell
  refine v_nil ?_
  refine q_n ?_
  refine w_f rfl ?_
  refine w_reg rfl ?_
  refine v_move rfl ?_
  refine v_move rfl ?_
  refine v_bin (c := .f _ _) lay26 rfl rfl rfl ?_
  refine v_assign rfl ?_
  refine v_nil ?_
  refine q_bn ?_
  refine q_n ?_
  refine w_reg rfl ?_
  refine v_move rfl ?_
  refine v_add lay2 rfl rfl (i64r (by omega)) ?_
  refine v_assign rfl ?_
  refine v_nil ?_
  refine q_n ?_
  have hcell : cellOk j i n (j.2.2.1 ⟨i, hi1⟩ ⟨n, hn1⟩) := ⟨by assumption, fun hor => by first | assumption | (exfalso; omega)⟩
  refine ⟨_, _, _, ?_, ⟨n + 1, rfl, by omega, fun b hb h => ?_, rfl, rfl⟩, by omega⟩
  · first | (rw [← psm_1 (j.2.2.1 ⟨i, hi1⟩) hn1 (by assumption)]; exact turn0 ⟨tr_vw, tr_v, tr_f, tr_v, trivial⟩) | (rw [← psm_s (j.2.2.1 ⟨i, hi1⟩) hn1 (by assumption)]; exact turn0 ⟨tr_vw, tr_v, tr_f, tr_v, trivial⟩)
  · rcases Nat.lt_or_eq_of_le (Nat.le_of_lt_succ h) with h | rfl
    · exact hpn b hb h
    · exact hcell
end Go.VL
namespace Go.VL
open Go.RowKit
set_option maxRecDepth 20000
set_option maxHeartbeats 8000000
theorem cVp1 (s : Slo) : PureC X 120 [.agg (stc s)] (cB (decide (¬ (1 ≤ s.2 ∧ s.2 ≤ 240)))) := by
  refine PureC.of_body (drawD_ok X) (fun _ _ => Go.Proofs.Tryz.call120 _ _) Go.Proofs.Tryz.func120 rfl (n := 7) rfl ?_
  refine w_seq ?_
  refine w_reg rfl ?_
  refine v_box (m := 0) (H' := [_]) lay170 rfl rfl rfl ?_
  refine v_assign (c := .v (.bool false)) rfl ?_
  refine v_nil ?_
  refine q_n ?_
  refine w_seq ?_
  refine w_reg rfl ?_
  refine v_fa_pt (off' := 8) lay170 rfl rfl rfl ?_
  refine v_load_pt (.c _) lay2 rfl rfl rfl rfl ?_
  refine v_callb (cInR _ _ _) rfl rfl (.cons vw_v (.cons vw_v (.cons vw_v .nil))) (fun h1 => ?_) (fun h1 => ?_)
  rotate_left
  · refine v_not true rfl rfl ?_
    refine v_assign rfl ?_
    refine v_nil ?_
    refine q_n ?_
    refine w_ret ?_
    refine r_r rfl ?_
    exact a_b (by simp_all)
  refine v_not false rfl rfl ?_
  refine v_assign rfl ?_
  refine v_nil ?_
  refine q_n ?_
  refine w_ret ?_
  refine r_r rfl ?_
  exact a_b (by simp_all)
theorem cIFsl (g : FuncId) (pr : Slo → Prop) [DecidablePred pr] (xs : List Slo) (hx : xs.length ≤ 2 ^ 40) (hF : ∀ x ∈ xs, PureC X g [.agg (stc x)] (cB (decide (pr x)))) : PureC X 182 [.c (.sl false xs.length 9 (flat stc xs)), .c (.fn g [])] (cI (fix pr xs)) := by
  refine PureC.of_body (drawD_ok X) (fun _ _ => Go.Proofs.Tryz.call182 _ _) Go.Proofs.Tryz.func182 rfl (n := 19) rfl ?_
  refine w_seq ?_
  refine w_reg rfl ?_
  refine v_assign (c := .v (.int .i64 0)) rfl ?_
  refine v_nil ?_
  refine q_n ?_
  refine w_seq ?_
  refine w_seq ?_
  refine w_reg rfl ?_
  refine v_move rfl ?_
  refine v_len_sl lay66 rfl ?_
  refine v_move (c := .v (.int .i64 0)) rfl ?_
  refine v_nil ?_
  refine q_n ?_
  refine w_block ?_
  refine w_loop (fun k sl H => ∃ i : Nat, k = xs.length - i ∧ i ≤ xs.length ∧ (∀ x ∈ xs.take i, ¬ pr x) ∧ sl = sls [(0, .c (.sl false xs.length 9 (flat stc xs))), (1, .c (.fn g [])), (7, cI xs.length), (8, cI i)] ∧ H = []) ?_ ?_
  · refine ⟨_, _, _, ?_, 0, rfl, Nat.zero_le _, by simp, rfl, rfl⟩
    exact turn0 ⟨tr_sl, tr_fn0, tr_v, tr_v, trivial⟩
  rintro k sl H ⟨i, rfl, hi, hp, rfl, rfl⟩
  refine w_seq ?_
  refine w_reg rfl ?_
  refine v_lss lay3 rfl rfl (fun h1 => ?_) (fun h1 => ?_)
  rotate_left
  · refine v_nil ?_
    refine q_n ?_
    refine w_seq ?_
    refine w_f rfl ?_
    refine w_exit ?_
    refine q_e ?_
    refine q_e ?_
    refine q_hit ?_
    refine q_n ?_
    refine w_seq ?_
    refine w_reg rfl ?_
    refine v_assign (c := .v (.int .i64 (-1))) rfl ?_
    refine v_nil ?_
    refine q_n ?_
    refine w_ret ?_
    refine r_r rfl ?_
    obtain rfl : i = xs.length := by omega
    rw [List.take_length] at hp
    exact a_i (fix_none hp).symm
  have hj : i < xs.length := by omega
  refine v_nil ?_
  refine q_n ?_
  refine w_seq ?_
  refine w_t rfl ?_
  refine w_skip ?_
  refine q_n ?_
  refine w_seq ?_
  refine w_block ?_
  refine w_seq ?_
  refine w_reg rfl ?_
  refine v_move rfl ?_
  refine v_assign rfl ?_
  refine v_nil ?_
  refine q_n ?_
  refine w_seq ?_
  refine w_reg rfl ?_
  refine v_move rfl ?_
  refine v_move rfl ?_
  refine v_move rfl ?_
  refine v_idx_e (k := 9) (i) stc_len lay66 lay170 rfl rfl rfl (rfl) rfl (rfl) ((by omega : i < xs.length)) ?_
  refine v_load_vw (.agg [.v _, .v _, .v _, .v _, .v _, .v _, .v _, .v _, .v _]) lay170 rfl rfl rfl ?_
  refine v_callb (hF _ (List.getElem_mem hj)) rfl rfl (.cons (vw_agg (.cons vw_v (.cons vw_v (.cons vw_v (.cons vw_v (.cons vw_v (.cons vw_v (.cons vw_v (.cons vw_v (.cons vw_v .nil)))))))))) .nil) (fun h3 => ?_) (fun h3 => ?_)
  · refine v_nil ?_
    refine q_n ?_
    refine w_t rfl ?_
    refine w_seq ?_
    refine w_reg rfl ?_
    refine v_move rfl ?_
    refine v_assign rfl ?_
    refine v_nil ?_
    refine q_n ?_
    refine w_ret (q_br (q_r (q_r (q_br (q_r ?_)))))
    refine r_r rfl ?_
    exact a_i (fix_hit hj hp h3).symm
  refine v_nil ?_
  refine q_n ?_
  refine w_f rfl ?_
  refine w_skip ?_
  refine q_bn ?_
  refine q_n ?_
  refine w_reg rfl ?_
  refine v_add lay3 rfl rfl (i64r (by omega)) ?_
  refine v_move rfl ?_
  refine v_nil ?_
  refine q_n ?_
  refine ⟨_, _, _, ?_, ⟨i + 1, rfl, by omega, all_step hj hp h3, rfl, rfl⟩, by omega⟩
  exact turn0 ⟨tr_sl, tr_fn0, tr_v, tr_v, trivial⟩
theorem cCFsl (g : FuncId) (pr : Slo → Prop) [DecidablePred pr] (xs : List Slo) (hx : xs.length ≤ 2 ^ 40) (hF : ∀ x ∈ xs, PureC X g [.agg (stc x)] (cB (decide (pr x)))) : PureC X 119 [.c (.sl false xs.length 9 (flat stc xs)), .c (.fn g [])] (cB (decide (∃ x ∈ xs, pr x))) := by
  refine PureC.of_body (drawD_ok X) (fun _ _ => Go.Proofs.Tryz.call119 _ _) Go.Proofs.Tryz.func119 rfl (n := 9) rfl ?_
  refine w_seq ?_
  refine w_reg rfl ?_
  refine v_assign (c := .v (.bool false)) rfl ?_
  refine v_nil ?_
  refine q_n ?_
  refine w_seq ?_
  refine w_reg rfl ?_
  refine v_move rfl ?_
  refine v_move rfl ?_
  refine v_call (cIFsl _ _ _ hx hF) rfl rfl rfl (.cons vw_sl (.cons (vw_fn .nil) .nil)) ?_
  refine v_geq lay3 rfl rfl (fun h1 => ?_) (fun h1 => ?_)
  · refine v_assign rfl ?_
    refine v_nil ?_
    refine q_n ?_
    refine w_ret ?_
    refine r_r rfl ?_
    exact a_b (by simp only [true_iff]; exact (fix_ge _ _).1 h1)
  refine v_assign rfl ?_
  refine v_nil ?_
  refine q_n ?_
  refine w_ret ?_
  refine r_r rfl ?_
  exact a_b (by simp only [Bool.false_eq_true, false_iff]; exact fun h => h1 ((fix_ge _ _).2 h))
theorem cCyc (xs : List Slo) (b f : Int) (hs : ticksOk xs) (hb : 0 ≤ b ∧ b ≤ 240) (hx : xs.length ≤ 8) : PureC X 121 [.agg (pln false xs b f)] (cI (cyc xs b)) := by
  refine PureC.of_body (drawD_ok X) (fun _ _ => Go.Proofs.Tryz.call121 _ _) Go.Proofs.Tryz.func121 rfl (n := 22) rfl ?_
  refine w_seq ?_
  refine w_reg rfl ?_
  refine v_box (m := 0) (H' := [_]) lay68 rfl rfl rfl ?_
  refine v_assign (c := .v (.int .i64 0)) rfl ?_
  refine v_nil ?_
  refine q_n ?_
  refine w_seq ?_
  refine w_reg rfl ?_
  refine v_assign (c := .v (.int .i64 0)) rfl ?_
  refine v_nil ?_
  refine q_n ?_
  refine w_seq ?_
  refine w_seq ?_
  refine w_reg rfl ?_
  refine v_fa_pt (off' := 0) lay68 rfl rfl rfl ?_
  refine v_load_pt (.c _) lay66 rfl rfl rfl rfl ?_
  refine v_len_sl lay66 rfl ?_
  refine v_move (c := .v (.int .i64 0)) rfl ?_
  refine v_nil ?_
  refine q_n ?_
  refine w_block ?_
  refine w_loop (fun k sl H => ∃ i : Nat, k = xs.length - i ∧ i ≤ xs.length ∧ sl = sls [(1, .c (.pt 0 0)), (3, cI (cyc (xs.take i) b)), (7, .c (sts false xs)), (8, cI xs.length), (9, cI i)] ∧ H = [⟨pln false xs b f, 68, true⟩]) ?_ ?_
  · refine ⟨_, _, _, ?_, 0, rfl, Nat.zero_le _, rfl, rfl⟩
    exact turn [some 0] rfl rfl rfl ⟨⟨_, rfl, .cons tr_sl (.cons tr_v (.cons tr_v .nil))⟩, trivial⟩ ⟨tr_pt rfl, tr_v, tr_sl, tr_v, tr_v, trivial⟩
  rintro k sl H ⟨i, rfl, hi, rfl, rfl⟩
  have hc := cyc_rng hb (tk_take hs i)
  rw [List.length_take] at hc
  refine w_seq ?_
  refine w_reg rfl ?_
  refine v_lss lay3 rfl rfl (fun h1 => ?_) (fun h1 => ?_)
  rotate_left
  · refine v_nil ?_
    refine q_n ?_
    refine w_seq ?_
    refine w_f rfl ?_
    refine w_exit ?_
    refine q_e ?_
    refine q_e ?_
    refine q_hit ?_
    refine q_n ?_
    refine w_seq ?_
    refine w_reg rfl ?_
    refine v_move rfl ?_
    refine v_assign rfl ?_
    refine v_nil ?_
    refine q_n ?_
    refine w_ret ?_
    refine r_r rfl ?_
    obtain rfl : i = xs.length := by omega
    exact a_i (by rw [List.take_length])
  have hi1 : i < xs.length := by omega
  have ht := tk_at hs hi1
  refine v_nil ?_
  refine q_n ?_
  refine w_seq ?_
  refine w_t rfl ?_
  refine w_skip ?_
  refine q_n ?_
  refine w_seq ?_
  refine w_block ?_
  refine w_seq ?_
  refine w_reg rfl ?_
  refine v_idx_e (k := 9) (i) stc_len lay66 lay170 rfl rfl rfl (rfl) rfl (rfl) (hi1) ?_
  refine v_load_vw (.agg [.v _, .v _, .v _, .v _, .v _, .v _, .v _, .v _, .v _]) lay170 rfl rfl rfl ?_
  refine v_alloc (m := 1) (H' := [_, ⟨[.v _, .v _, .v _, .v _, .v _, .v _, .v _, .v _, .v _], 170, true⟩]) lay170 rfl rfl ?_
  refine v_store (H' := [_, ⟨[_, _, _, _, _, _, _, _, _], 170, true⟩]) lay170 rfl rfl rfl rfl rfl rfl ?_
  refine v_nil ?_
  refine q_n ?_
  refine w_reg rfl ?_
  refine v_move rfl ?_
  refine v_fa_pt (off' := 8) lay170 rfl rfl rfl ?_
  refine v_load_pt (.c _) lay2 rfl rfl rfl rfl ?_
  refine v_fa_pt (off' := 1) lay68 rfl rfl rfl ?_
  refine v_load_pt (.c _) lay2 rfl rfl rfl rfl ?_
  refine v_add lay2 rfl rfl (i64r (by omega)) ?_
  refine v_add lay2 rfl rfl (i64r (by omega)) ?_
  refine v_assign rfl ?_
  refine v_nil ?_
  refine q_bn ?_
  refine q_n ?_
  refine w_reg rfl ?_
  refine v_add lay3 rfl rfl (i64r (by omega)) ?_
  refine v_move rfl ?_
  refine v_nil ?_
  refine q_n ?_
  refine ⟨_, _, _, ?_, ⟨i + 1, rfl, by omega, rfl, rfl⟩, by omega⟩
  exact turn [some 0] rfl rfl rfl ⟨⟨_, rfl, .cons tr_sl (.cons tr_v (.cons tr_v .nil))⟩, trivial⟩ ⟨tr_pt rfl, tr_i (cyc_step (by omega)), tr_sl, tr_v, tr_v, trivial⟩
theorem cPlI (xs : List Slo) (b f : Int) (hx : xs.length ≤ 2 ^ 40) : PureC X 55 [.agg (pln false xs b f)] (cB (decide (okP xs b f))) := by
  refine PureC.of_body (drawD_ok X) (fun _ _ => Go.Proofs.Tryz.call55 _ _) Go.Proofs.Tryz.func55 rfl (n := 33) rfl ?_
  refine w_seq ?_
  refine w_reg rfl ?_
  refine v_box (m := 0) (H' := [_]) lay68 rfl rfl rfl ?_
  refine v_assign (c := .v (.bool false)) rfl ?_
  refine v_nil ?_
  refine q_n ?_
  refine w_seq ?_
  refine w_reg rfl ?_
  refine v_fa_pt (off' := 0) lay68 rfl rfl rfl ?_
  refine v_load_pt (.c _) lay66 rfl rfl rfl rfl ?_
  refine v_callb (cCFsl 120 (fun s => ¬ (1 ≤ s.2 ∧ s.2 ≤ 240)) _ hx (fun s _ => cVp1 s)) rfl rfl (.cons vw_sl (.cons (vw_fn .nil) .nil)) (fun h1 => ?_) (fun h1 => ?_)
  · have hs := tk_not h1
    refine v_assign rfl ?_
    refine v_nil ?_
    refine q_n ?_
    refine w_seq ?_
    refine w_draw [0, 1, 3, 7, 15, 31, 63, 127, 255, 511, 1023, 2047, 4095, 8191, 16383, 32767, 65535, 131071, 262143, 524287, 1048575, 524287, 2621439, 6815743, 16777215, 33554431, 67108863] [⟨0, 0, []⟩, ⟨1, 0, []⟩, ⟨2, 0, []⟩, ⟨3, 0, []⟩, ⟨4, 0, []⟩, ⟨5, 0, []⟩, ⟨6, 0, []⟩, ⟨7, 0, []⟩, ⟨8, 0, []⟩, ⟨9, 0, []⟩, ⟨10, 0, []⟩, ⟨11, 0, []⟩, ⟨12, 0, []⟩, ⟨13, 0, []⟩, ⟨14, 0, []⟩, ⟨15, 0, []⟩, ⟨16, 0, []⟩, ⟨17, 0, []⟩, ⟨18, 0, []⟩, ⟨19, 0, []⟩, ⟨20, 0, []⟩, ⟨21, 0, []⟩, ⟨22, 0, []⟩, ⟨23, 0, []⟩, ⟨24, 0, []⟩, ⟨25, 0, []⟩, ⟨26, 0, []⟩] rfl rfl ?_
    refine d_q rfl rfl rfl rfl rfl ?_
    refine v_fa_pt (off' := 0) lay68 rfl rfl rfl ?_
    refine v_nil ?_
    refine d_q rfl rfl rfl rfl rfl ?_
    refine v_load_pt (.c _) lay66 rfl rfl rfl rfl ?_
    refine v_nil ?_
    refine d_q rfl rfl rfl rfl rfl ?_
    refine v_len_sl lay66 rfl ?_
    refine v_nil ?_
    refine d_callb (cInR _ _ _) rfl rfl rfl rfl (.cons vw_v (.cons vw_v (.cons vw_v .nil))) (fun h2 => ?_) (fun h2 => ?_)
    rotate_left
    · refine d_q rfl rfl rfl rfl rfl ?_
      refine v_move rfl ?_
      refine v_nil ?_
      refine d_off rfl rfl ?_
      refine d_off rfl rfl ?_
      refine d_q rfl rfl rfl rfl rfl ?_
      refine v_pick_f (v := .v (.bool false)) rfl rfl ?_
      refine v_nil ?_
      refine d_q rfl rfl rfl rfl rfl ?_
      refine v_move rfl ?_
      refine v_nil ?_
      refine d_off rfl rfl ?_
      refine d_off rfl rfl ?_
      refine d_off rfl rfl ?_
      refine d_q rfl rfl rfl rfl rfl ?_
      refine v_pick_f (v := .v (.bool false)) rfl rfl ?_
      refine v_nil ?_
      refine d_q rfl rfl rfl rfl rfl ?_
      refine v_move rfl ?_
      refine v_nil ?_
      refine d_off rfl rfl ?_
      refine d_off rfl rfl ?_
      refine d_off rfl rfl ?_
      refine d_q rfl rfl rfl rfl rfl ?_
      refine v_pick_f (v := .v (.bool false)) rfl rfl ?_
      refine v_nil ?_
      refine d_q rfl rfl rfl rfl rfl ?_
      refine v_move rfl ?_
      refine v_nil ?_
      refine d_off rfl rfl ?_
      refine d_off rfl rfl ?_
      refine d_off rfl rfl ?_
      refine d_off rfl rfl ?_
      refine d_off rfl rfl ?_
      refine d_off rfl rfl ?_
      refine d_q rfl rfl rfl rfl rfl ?_
      refine v_pick_f (v := .v (.bool false)) rfl rfl ?_
      refine v_nil ?_
      refine d_q rfl rfl rfl rfl rfl ?_
      refine v_assign rfl ?_
      refine v_nil ?_
      refine d_nil ?_
      refine q_n ?_
      refine w_ret ?_
      refine r_r rfl ?_
      exact a_b (by unfold okP; first | omega | (simp_all; done) | (simp_all; omega))
    refine d_q rfl rfl rfl rfl rfl ?_
    refine v_move rfl ?_
    refine v_nil ?_
    refine d_q rfl rfl rfl rfl rfl ?_
    refine v_move rfl ?_
    refine v_nil ?_
    refine d_q rfl rfl rfl rfl rfl ?_
    refine v_not false rfl rfl ?_
    refine v_nil ?_
    refine d_q rfl rfl rfl rfl rfl ?_
    refine v_pick_t rfl rfl ?_
    refine v_nil ?_
    refine d_q rfl rfl rfl rfl rfl ?_
    refine v_move rfl ?_
    refine v_nil ?_
    refine d_off rfl rfl ?_
    refine d_off rfl rfl ?_
    refine d_off rfl rfl ?_
    refine d_q rfl rfl rfl rfl rfl ?_
    refine v_pick_f (v := .v (.bool false)) rfl rfl ?_
    refine v_nil ?_
    refine d_q rfl rfl rfl rfl rfl ?_
    refine v_move rfl ?_
    refine v_nil ?_
    refine d_off rfl rfl ?_
    refine d_off rfl rfl ?_
    refine d_off rfl rfl ?_
    refine d_q rfl rfl rfl rfl rfl ?_
    refine v_pick_f (v := .v (.bool false)) rfl rfl ?_
    refine v_nil ?_
    refine d_q rfl rfl rfl rfl rfl ?_
    refine v_move rfl ?_
    refine v_nil ?_
    refine d_off rfl rfl ?_
    refine d_off rfl rfl ?_
    refine d_off rfl rfl ?_
    refine d_off rfl rfl ?_
    refine d_off rfl rfl ?_
    refine d_off rfl rfl ?_
    refine d_q rfl rfl rfl rfl rfl ?_
    refine v_pick_f (v := .v (.bool false)) rfl rfl ?_
    refine v_nil ?_
    refine d_q rfl rfl rfl rfl rfl ?_
    refine v_assign rfl ?_
    refine v_nil ?_
    refine d_nil ?_
    refine q_n ?_
    refine w_ret ?_
    refine r_r rfl ?_
    exact a_b (by unfold okP; first | omega | (simp_all; done) | (simp_all; omega))
  have hs := tk_of h1
  refine v_assign rfl ?_
  refine v_nil ?_
  refine q_n ?_
  refine w_seq ?_
  refine w_draw [0, 1, 3, 7, 15, 31, 63, 127, 255, 511, 1023, 2047, 4095, 8191, 16383, 32767, 65535, 131071, 262143, 524287, 1048575, 524287, 2621439, 6815743, 16777215, 33554431, 67108863] [⟨0, 0, []⟩, ⟨1, 0, []⟩, ⟨2, 0, []⟩, ⟨3, 0, []⟩, ⟨4, 0, []⟩, ⟨5, 0, []⟩, ⟨6, 0, []⟩, ⟨7, 0, []⟩, ⟨8, 0, []⟩, ⟨9, 0, []⟩, ⟨10, 0, []⟩, ⟨11, 0, []⟩, ⟨12, 0, []⟩, ⟨13, 0, []⟩, ⟨14, 0, []⟩, ⟨15, 0, []⟩, ⟨16, 0, []⟩, ⟨17, 0, []⟩, ⟨18, 0, []⟩, ⟨19, 0, []⟩, ⟨20, 0, []⟩, ⟨21, 0, []⟩, ⟨22, 0, []⟩, ⟨23, 0, []⟩, ⟨24, 0, []⟩, ⟨25, 0, []⟩, ⟨26, 0, []⟩] rfl rfl ?_
  refine d_q rfl rfl rfl rfl rfl ?_
  refine v_fa_pt (off' := 0) lay68 rfl rfl rfl ?_
  refine v_nil ?_
  refine d_q rfl rfl rfl rfl rfl ?_
  refine v_load_pt (.c _) lay66 rfl rfl rfl rfl ?_
  refine v_nil ?_
  refine d_q rfl rfl rfl rfl rfl ?_
  refine v_len_sl lay66 rfl ?_
  refine v_nil ?_
  refine d_callb (cInR _ _ _) rfl rfl rfl rfl (.cons vw_v (.cons vw_v (.cons vw_v .nil))) (fun h3 => ?_) (fun h3 => ?_)
  rotate_left
  · refine d_q rfl rfl rfl rfl rfl ?_
    refine v_move rfl ?_
    refine v_nil ?_
    refine d_off rfl rfl ?_
    refine d_off rfl rfl ?_
    refine d_q rfl rfl rfl rfl rfl ?_
    refine v_pick_f (v := .v (.bool false)) rfl rfl ?_
    refine v_nil ?_
    refine d_q rfl rfl rfl rfl rfl ?_
    refine v_move rfl ?_
    refine v_nil ?_
    refine d_off rfl rfl ?_
    refine d_off rfl rfl ?_
    refine d_off rfl rfl ?_
    refine d_q rfl rfl rfl rfl rfl ?_
    refine v_pick_f (v := .v (.bool false)) rfl rfl ?_
    refine v_nil ?_
    refine d_q rfl rfl rfl rfl rfl ?_
    refine v_move rfl ?_
    refine v_nil ?_
    refine d_off rfl rfl ?_
    refine d_off rfl rfl ?_
    refine d_off rfl rfl ?_
    refine d_q rfl rfl rfl rfl rfl ?_
    refine v_pick_f (v := .v (.bool false)) rfl rfl ?_
    refine v_nil ?_
    refine d_q rfl rfl rfl rfl rfl ?_
    refine v_move rfl ?_
    refine v_nil ?_
    refine d_off rfl rfl ?_
    refine d_off rfl rfl ?_
    refine d_off rfl rfl ?_
    refine d_off rfl rfl ?_
    refine d_off rfl rfl ?_
    refine d_off rfl rfl ?_
    refine d_q rfl rfl rfl rfl rfl ?_
    refine v_pick_f (v := .v (.bool false)) rfl rfl ?_
    refine v_nil ?_
    refine d_q rfl rfl rfl rfl rfl ?_
    refine v_assign rfl ?_
    refine v_nil ?_
    refine d_nil ?_
    refine q_n ?_
    refine w_ret ?_
    refine r_r rfl ?_
    exact a_b (by unfold okP; first | omega | (simp_all; done) | (simp_all; omega))
  refine d_q rfl rfl rfl rfl rfl ?_
  refine v_move rfl ?_
  refine v_nil ?_
  refine d_q rfl rfl rfl rfl rfl ?_
  refine v_move rfl ?_
  refine v_nil ?_
  refine d_q rfl rfl rfl rfl rfl ?_
  refine v_not true rfl rfl ?_
  refine v_nil ?_
  refine d_q rfl rfl rfl rfl rfl ?_
  refine v_pick_t rfl rfl ?_
  refine v_nil ?_
  refine d_q rfl rfl rfl rfl rfl ?_
  refine v_move rfl ?_
  refine v_nil ?_
  refine d_q rfl rfl rfl rfl rfl ?_
  refine v_fa_pt (off' := 1) lay68 rfl rfl rfl ?_
  refine v_nil ?_
  refine d_q rfl rfl rfl rfl rfl ?_
  refine v_load_pt (.c _) lay2 rfl rfl rfl rfl ?_
  refine v_nil ?_
  refine d_callb (cInR _ _ _) rfl rfl rfl rfl (.cons vw_v (.cons vw_v (.cons vw_v .nil))) (fun h4 => ?_) (fun h4 => ?_)
  rotate_left
  · refine d_q rfl rfl rfl rfl rfl ?_
    refine v_pick_t rfl rfl ?_
    refine v_nil ?_
    refine d_q rfl rfl rfl rfl rfl ?_
    refine v_move rfl ?_
    refine v_nil ?_
    refine d_off rfl rfl ?_
    refine d_off rfl rfl ?_
    refine d_off rfl rfl ?_
    refine d_q rfl rfl rfl rfl rfl ?_
    refine v_pick_f (v := .v (.bool false)) rfl rfl ?_
    refine v_nil ?_
    refine d_q rfl rfl rfl rfl rfl ?_
    refine v_move rfl ?_
    refine v_nil ?_
    refine d_off rfl rfl ?_
    refine d_off rfl rfl ?_
    refine d_off rfl rfl ?_
    refine d_off rfl rfl ?_
    refine d_off rfl rfl ?_
    refine d_off rfl rfl ?_
    refine d_q rfl rfl rfl rfl rfl ?_
    refine v_pick_f (v := .v (.bool false)) rfl rfl ?_
    refine v_nil ?_
    refine d_q rfl rfl rfl rfl rfl ?_
    refine v_assign rfl ?_
    refine v_nil ?_
    refine d_nil ?_
    refine q_n ?_
    refine w_ret ?_
    refine r_r rfl ?_
    exact a_b (by unfold okP; first | omega | (simp_all; done) | (simp_all; omega))
  have hc := cyc_rng h4 hs
  refine d_q rfl rfl rfl rfl rfl ?_
  refine v_pick_t rfl rfl ?_
  refine v_nil ?_
  refine d_q rfl rfl rfl rfl rfl ?_
  refine v_move rfl ?_
  refine v_nil ?_
  refine d_q rfl rfl rfl rfl rfl ?_
  refine v_load_pt (.agg [_, _, _]) lay68 rfl rfl rfl rfl ?_
  refine v_nil ?_
  refine d_call (cCyc _ _ _ hs (by omega) (by omega)) rfl rfl rfl rfl rfl (.cons (vw_agg (.cons vw_sl (.cons vw_v (.cons vw_v .nil)))) .nil) ?_
  refine d_q rfl rfl rfl rfl rfl ?_
  refine v_leq lay2 rfl rfl (fun h5 => ?_) (fun h5 => ?_)
  rotate_left
  · refine v_nil ?_
    refine d_q rfl rfl rfl rfl rfl ?_
    refine v_pick_t rfl rfl ?_
    refine v_nil ?_
    refine d_q rfl rfl rfl rfl rfl ?_
    refine v_move rfl ?_
    refine v_nil ?_
    refine d_off rfl rfl ?_
    refine d_off rfl rfl ?_
    refine d_off rfl rfl ?_
    refine d_off rfl rfl ?_
    refine d_off rfl rfl ?_
    refine d_off rfl rfl ?_
    refine d_q rfl rfl rfl rfl rfl ?_
    refine v_pick_f (v := .v (.bool false)) rfl rfl ?_
    refine v_nil ?_
    refine d_q rfl rfl rfl rfl rfl ?_
    refine v_assign rfl ?_
    refine v_nil ?_
    refine d_nil ?_
    refine q_n ?_
    refine w_ret ?_
    refine r_r rfl ?_
    exact a_b (by unfold okP; first | omega | (simp_all; done) | (simp_all; omega))
  refine v_nil ?_
  refine d_q rfl rfl rfl rfl rfl ?_
  refine v_pick_t rfl rfl ?_
  refine v_nil ?_
  refine d_q rfl rfl rfl rfl rfl ?_
  refine v_move rfl ?_
  refine v_nil ?_
  refine d_q rfl rfl rfl rfl rfl ?_
  refine v_fa_pt (off' := 2) lay68 rfl rfl rfl ?_
  refine v_nil ?_
  refine d_q rfl rfl rfl rfl rfl ?_
  refine v_load_pt (.c _) lay2 rfl rfl rfl rfl ?_
  refine v_nil ?_
  refine d_q rfl rfl rfl rfl rfl ?_
  refine v_load_pt (.agg [_, _, _]) lay68 rfl rfl rfl rfl ?_
  refine v_nil ?_
  refine d_call (cCyc _ _ _ hs (by omega) (by omega)) rfl rfl rfl rfl rfl (.cons (vw_agg (.cons vw_sl (.cons vw_v (.cons vw_v .nil)))) .nil) ?_
  refine d_q rfl rfl rfl rfl rfl ?_
  refine v_sub lay2 rfl rfl (i64r (by omega)) ?_
  refine v_nil ?_
  refine d_callb (cInR _ _ _) rfl rfl rfl rfl (.cons vw_v (.cons vw_v (.cons vw_v .nil))) (fun h6 => ?_) (fun h6 => ?_)
  · refine d_q rfl rfl rfl rfl rfl ?_
    refine v_pick_t rfl rfl ?_
    refine v_nil ?_
    refine d_q rfl rfl rfl rfl rfl ?_
    refine v_assign rfl ?_
    refine v_nil ?_
    refine d_nil ?_
    refine q_n ?_
    refine w_ret ?_
    refine r_r rfl ?_
    exact a_b (by unfold okP; first | omega | (simp_all; done) | (simp_all; omega))
  refine d_q rfl rfl rfl rfl rfl ?_
  refine v_pick_t rfl rfl ?_
  refine v_nil ?_
  refine d_q rfl rfl rfl rfl rfl ?_
  refine v_assign rfl ?_
  refine v_nil ?_
  refine d_nil ?_
  refine q_n ?_
  refine w_ret ?_
  refine r_r rfl ?_
  exact a_b (by unfold okP; first | omega | (simp_all; done) | (simp_all; omega))
theorem cCyS (xs : List Slo) (b f : Int) (hx : xs.length ≤ 2 ^ 40) : PureC X 168 [.c (.vw false (pln true xs b f) 0)] (cI (cyS xs b 0)) := by
  refine PureC.of_body (drawD_ok X) (fun _ _ => Go.Proofs.Tryz.call168 _ _) Go.Proofs.Tryz.func168 rfl (n := 51) rfl ?_
  refine w_seq ?_
  refine w_reg rfl ?_
  refine v_assign (c := .v (.int .i64 0)) rfl ?_
  refine v_nil ?_
  refine q_n ?_
  refine w_seq ?_
  refine w_reg rfl ?_
  refine v_assign (c := .v (.int .i64 0)) rfl ?_
  refine v_nil ?_
  refine q_n ?_
  refine w_seq ?_
  refine w_seq ?_
  refine w_reg rfl ?_
  refine v_assign (c := .v (.int .i64 0)) rfl ?_
  refine v_nil ?_
  refine q_n ?_
  refine w_block ?_
  refine w_loop (fun k sl H => ∃ (i : Nat) (a : Int), k = xs.length - i ∧ i ≤ xs.length ∧ cyS (xs.drop i) b a = cyS xs b 0 ∧ (0 ≤ a ∧ a ≤ 240) ∧ sl = sls [(0, .c (.vw false (pln true xs b f) 0)), (3, cI a), (4, cI i)] ∧ H = []) ?_ ?_
  · refine ⟨_, _, _, ?_, 0, 0, rfl, Nat.zero_le _, rfl, by decide, rfl, rfl⟩
    exact turn0 ⟨tr_vw, tr_v, tr_v, trivial⟩
  rintro k sl H ⟨i, a, rfl, hi, hp, ha, rfl, rfl⟩
  refine w_seq ?_
  refine w_seq ?_
  refine w_reg rfl ?_
  refine v_move rfl ?_
  refine v_move rfl ?_
  refine v_nil_vw rfl ?_
  refine v_fa_vw (off' := 0) lay68 rfl rfl rfl ?_
  refine v_load_vw (.c (_)) lay66 rfl rfl rfl ?_
  refine v_len_sl lay66 rfl ?_
  refine v_lss lay3 rfl rfl (fun h1 => ?_) (fun h1 => ?_)
  rotate_left
  · refine v_nil ?_
    refine q_n ?_
    refine w_f rfl ?_
    refine w_exit ?_
    refine q_e ?_
    refine q_e ?_
    refine q_hit ?_
    refine q_n ?_
    refine w_seq ?_
    refine w_reg rfl ?_
    refine v_move rfl ?_
    refine v_assign rfl ?_
    refine v_nil ?_
    refine q_n ?_
    refine w_ret ?_
    refine r_r rfl ?_
    first | exact a_i (by rw [← hp, cyS_at hi1, if_neg (by omega)]) | exact a_i (by rw [← hp, cyS_at hi1, if_pos ⟨by assumption, by assumption⟩, if_pos (by omega)]) | exact a_i (by obtain rfl : i = xs.length := (by omega); rw [List.drop_length] at hp; exact hp)
  have hi1 : i < xs.length := by omega
  refine v_nil ?_
  refine q_n ?_
  refine w_t rfl ?_
  refine w_skip ?_
  refine q_n ?_
  refine w_seq ?_
  refine w_block ?_
  refine w_seq ?_
  refine w_seq ?_
  refine w_reg rfl ?_
  refine v_move rfl ?_
  refine v_nil_vw rfl ?_
  refine v_fa_vw (off' := 0) lay68 rfl rfl rfl ?_
  refine v_load_vw (.c (_)) lay66 rfl rfl rfl ?_
  refine v_move rfl ?_
  refine v_idx_e (k := 9) (i) stc_len lay66 lay170 rfl rfl rfl (rfl) rfl (rfl) (hi1) ?_
  refine v_fa_vw (off' := 8) lay170 rfl rfl rfl ?_
  refine v_load_vw (.c (.v _)) lay2 rfl rfl rfl ?_
  refine v_callb (cIn _ _ _) rfl rfl (.cons vw_v (.cons vw_v (.cons vw_v .nil))) (fun h3 => ?_) (fun h3 => ?_)
  rotate_left
  · refine v_not true rfl rfl ?_
    refine v_move rfl ?_
    refine v_guard_off rfl rfl rfl ?_
    refine v_guard_off rfl rfl rfl ?_
    refine v_guard_off rfl rfl rfl ?_
    refine v_guard_off rfl rfl rfl ?_
    refine v_guard_off rfl rfl rfl ?_
    refine v_guard_off rfl rfl rfl ?_
    refine v_pick_t (v := .v (.bool true)) rfl rfl ?_
    refine v_nil ?_
    refine q_n ?_
    refine w_t rfl ?_
    refine w_seq ?_
    refine w_reg rfl ?_
    refine v_assign (c := .v (.int .i64 241)) rfl ?_
    refine v_nil ?_
    refine q_n ?_
    refine w_ret (q_r (q_br (q_r (q_r (q_br (q_r ?_))))))
    refine r_r rfl ?_
    first | exact a_i (by rw [← hp, cyS_at hi1, if_neg (by omega)]) | exact a_i (by rw [← hp, cyS_at hi1, if_pos ⟨by assumption, by assumption⟩, if_pos (by omega)]) | exact a_i (by obtain rfl : i = xs.length := (by omega); rw [List.drop_length] at hp; exact hp)
  refine v_not false rfl rfl ?_
  refine v_move rfl ?_
  refine v_guard_on rfl rfl ?_
  refine v_move rfl ?_
  refine v_guard_on rfl rfl ?_
  refine v_nil_vw rfl ?_
  refine v_guard_on rfl rfl ?_
  refine v_fa_vw (off' := 1) lay68 rfl rfl rfl ?_
  refine v_guard_on rfl rfl ?_
  refine v_load_vw (.c (.v _)) lay2 rfl rfl rfl ?_
  refine v_guard_on rfl rfl ?_
  refine v_callb (cIn _ _ _) rfl rfl (.cons vw_v (.cons vw_v (.cons vw_v .nil))) (fun h4 => ?_) (fun h4 => ?_)
  rotate_left
  · refine v_guard_on rfl rfl ?_
    refine v_not true rfl rfl ?_
    refine v_pick_f rfl rfl ?_
    refine v_nil ?_
    refine q_n ?_
    refine w_t rfl ?_
    refine w_seq ?_
    refine w_reg rfl ?_
    refine v_assign (c := .v (.int .i64 241)) rfl ?_
    refine v_nil ?_
    refine q_n ?_
    refine w_ret (q_r (q_br (q_r (q_r (q_br (q_r ?_))))))
    refine r_r rfl ?_
    first | exact a_i (by rw [← hp, cyS_at hi1, if_neg (by omega)]) | exact a_i (by rw [← hp, cyS_at hi1, if_pos ⟨by assumption, by assumption⟩, if_pos (by omega)]) | exact a_i (by obtain rfl : i = xs.length := (by omega); rw [List.drop_length] at hp; exact hp)
  refine v_guard_on rfl rfl ?_
  refine v_not false rfl rfl ?_
  refine v_pick_f rfl rfl ?_
  refine v_nil ?_
  refine q_n ?_
  refine w_f rfl ?_
  refine w_skip ?_
  refine q_n ?_
  refine w_seq ?_
  refine w_draw [0, 0, 2, 6, 14, 0, 62, 126, 254, 0, 512, 1536, 3584, 8190, 16383, 32767] [⟨0, 0, []⟩, ⟨1, 0, []⟩, ⟨2, 0, []⟩, ⟨3, 0, []⟩, ⟨4, 0, []⟩, ⟨5, 0, []⟩, ⟨6, 0, []⟩, ⟨7, 0, []⟩, ⟨8, 0, []⟩, ⟨9, 0, []⟩, ⟨10, 0, []⟩, ⟨11, 0, []⟩, ⟨12, 0, []⟩, ⟨13, 0, []⟩, ⟨14, 0, []⟩, ⟨15, 0, []⟩] rfl rfl ?_
  refine d_q rfl rfl rfl rfl rfl ?_
  refine v_move rfl ?_
  refine v_nil ?_
  refine d_q rfl rfl rfl rfl rfl ?_
  refine v_move rfl ?_
  refine v_nil ?_
  refine d_q rfl rfl rfl rfl rfl ?_
  refine v_nil_vw rfl ?_
  refine v_nil ?_
  refine d_q rfl rfl rfl rfl rfl ?_
  refine v_fa_vw (off' := 0) lay68 rfl rfl rfl ?_
  refine v_nil ?_
  refine d_q rfl rfl rfl rfl rfl ?_
  refine v_load_vw (.c (_)) lay66 rfl rfl rfl ?_
  refine v_nil ?_
  refine d_q rfl rfl rfl rfl rfl ?_
  refine v_move rfl ?_
  refine v_nil ?_
  refine d_q rfl rfl rfl rfl rfl ?_
  refine v_idx_e (k := 9) (i) stc_len lay66 lay170 rfl rfl rfl (rfl) rfl (rfl) (hi1) ?_
  refine v_nil ?_
  refine d_q rfl rfl rfl rfl rfl ?_
  refine v_fa_vw (off' := 8) lay170 rfl rfl rfl ?_
  refine v_nil ?_
  refine d_q rfl rfl rfl rfl rfl ?_
  refine v_load_vw (.c (.v _)) lay2 rfl rfl rfl ?_
  refine v_nil ?_
  refine d_q rfl rfl rfl rfl rfl ?_
  refine v_move rfl ?_
  refine v_nil ?_
  refine d_q rfl rfl rfl rfl rfl ?_
  refine v_nil_vw rfl ?_
  refine v_nil ?_
  refine d_q rfl rfl rfl rfl rfl ?_
  refine v_fa_vw (off' := 1) lay68 rfl rfl rfl ?_
  refine v_nil ?_
  refine d_q rfl rfl rfl rfl rfl ?_
  refine v_load_vw (.c (.v _)) lay2 rfl rfl rfl ?_
  refine v_nil ?_
  refine d_q rfl rfl rfl rfl rfl ?_
  refine v_add lay2 rfl rfl (i64r (by omega)) ?_
  refine v_nil ?_
  refine d_q rfl rfl rfl rfl rfl ?_
  refine v_add lay2 rfl rfl (i64r (by omega)) ?_
  refine v_nil ?_
  refine d_q rfl rfl rfl rfl rfl ?_
  refine v_assign rfl ?_
  refine v_nil ?_
  refine d_nil ?_
  refine q_n ?_
  refine w_seq ?_
  refine w_reg rfl ?_
  refine v_move rfl ?_
  refine v_gtr lay2 rfl rfl (fun h6 => ?_) (fun h6 => ?_)
  rotate_left
  · refine v_nil ?_
    refine q_n ?_
    refine w_f rfl ?_
    refine w_skip ?_
    refine q_bn ?_
    refine q_n ?_
    refine w_reg rfl ?_
    refine v_move rfl ?_
    refine v_add lay3 rfl rfl (i64r (by omega)) ?_
    refine v_assign rfl ?_
    refine v_nil ?_
    refine q_n ?_
    rw [cyS_at hi1, if_pos ⟨by assumption, by assumption⟩, if_neg (by omega)] at hp
    refine ⟨_, _, _, ?_, ⟨i + 1, a + (xs[i].2 + b), rfl, by omega, hp, by omega, rfl, rfl⟩, by omega⟩
    exact turn0 ⟨tr_vw, tr_v, tr_v, trivial⟩
  refine v_nil ?_
  refine q_n ?_
  refine w_t rfl ?_
  refine w_seq ?_
  refine w_reg rfl ?_
  refine v_move rfl ?_
  refine v_assign rfl ?_
  refine v_nil ?_
  refine q_n ?_
  refine w_ret (q_br (q_r (q_r (q_br (q_r ?_)))))
  refine r_r rfl ?_
  first | exact a_i (by rw [← hp, cyS_at hi1, if_neg (by omega)]) | exact a_i (by rw [← hp, cyS_at hi1, if_pos ⟨by assumption, by assumption⟩, if_pos (by omega)]) | exact a_i (by obtain rfl : i = xs.length := (by omega); rw [List.drop_length] at hp; exact hp)
theorem cPlS (xs : List Slo) (b f : Int) (hx : xs.length ≤ 2 ^ 40) : PureC X 103 [.c (.vw false (pln true xs b f) 0)] (cB (decide (okP xs b f))) := by
  refine PureC.of_body (drawD_ok X) (fun _ _ => Go.Proofs.Tryz.call103 _ _) Go.Proofs.Tryz.func103 rfl (n := 24) rfl ?_
  refine w_seq ?_
  refine w_reg rfl ?_
  refine v_assign (c := .v (.bool false)) rfl ?_
  refine v_nil ?_
  refine q_n ?_
  refine w_seq ?_
  refine w_seq ?_
  refine w_reg rfl ?_
  refine v_move rfl ?_
  refine v_nil_vw rfl ?_
  refine v_fa_vw (off' := 0) lay68 rfl rfl rfl ?_
  refine v_load_vw (.c (_)) lay66 rfl rfl rfl ?_
  refine v_len_sl lay66 rfl ?_
  refine v_callb (cIn _ _ _) rfl rfl (.cons vw_v (.cons vw_v (.cons vw_v .nil))) (fun h1 => ?_) (fun h1 => ?_)
  rotate_left
  · refine v_not true rfl rfl ?_
    refine v_nil ?_
    refine q_n ?_
    refine w_t rfl ?_
    refine w_seq ?_
    refine w_reg rfl ?_
    refine v_assign (c := .v (.bool false)) rfl ?_
    refine v_nil ?_
    refine q_n ?_
    refine w_ret (q_r ?_)
    refine r_r rfl ?_
    exact a_b (by simp only [Bool.false_eq_true, false_iff]; exact fun h => h1 h.1.1)
  have hO := okS (xs := xs) (b := b) (f := f) h1
  refine v_not false rfl rfl ?_
  refine v_nil ?_
  refine q_n ?_
  refine w_f rfl ?_
  refine w_skip ?_
  refine q_n ?_
  refine w_seq ?_
  refine w_reg rfl ?_
  refine v_move rfl ?_
  refine v_call (cCyS _ _ _ hx) rfl rfl rfl (.cons vw_vw .nil) ?_
  refine v_assign rfl ?_
  refine v_nil ?_
  refine q_n ?_
  refine w_seq ?_
  refine w_reg rfl ?_
  refine v_move rfl ?_
  refine v_leq lay2 rfl rfl (fun h2 => ?_) (fun h2 => ?_)
  rotate_left
  · refine v_move rfl ?_
    refine v_guard_off rfl rfl rfl ?_
    refine v_guard_off rfl rfl rfl ?_
    refine v_guard_off rfl rfl rfl ?_
    refine v_guard_off rfl rfl rfl ?_
    refine v_guard_off rfl rfl rfl ?_
    refine v_guard_off rfl rfl rfl ?_
    refine v_guard_off rfl rfl rfl ?_
    refine v_pick_f (v := .v (.bool false)) rfl rfl ?_
    refine v_assign rfl ?_
    refine v_nil ?_
    refine q_n ?_
    refine w_ret ?_
    refine r_r rfl ?_
    exact a_b (by rw [← hO]; simp only [Bool.false_eq_true, false_iff]; exact fun h => h2 h.1)
  have hn := cyS_nn (xs := xs) (b := b) (a := 0) (by decide)
  refine v_move rfl ?_
  refine v_guard_on rfl rfl ?_
  refine v_move rfl ?_
  refine v_guard_on rfl rfl ?_
  refine v_nil_vw rfl ?_
  refine v_guard_on rfl rfl ?_
  refine v_fa_vw (off' := 2) lay68 rfl rfl rfl ?_
  refine v_guard_on rfl rfl ?_
  refine v_load_vw (.c (.v _)) lay2 rfl rfl rfl ?_
  refine v_guard_on rfl rfl ?_
  refine v_move rfl ?_
  refine v_guard_on rfl rfl ?_
  refine v_sub lay2 rfl rfl (i64r (by omega)) ?_
  refine v_guard_on rfl rfl ?_
  refine v_callb (cIn _ _ _) rfl rfl (.cons vw_v (.cons vw_v (.cons vw_v .nil))) (fun h3 => ?_) (fun h3 => ?_)
  · refine v_pick_t rfl rfl ?_
    refine v_assign rfl ?_
    refine v_nil ?_
    refine q_n ?_
    refine w_ret ?_
    refine r_r rfl ?_
    exact a_b (by rw [← hO]; simp only [true_iff]; exact ⟨h2, h3⟩)
  refine v_pick_t rfl rfl ?_
  refine v_assign rfl ?_
  refine v_nil ?_
  refine q_n ?_
  refine w_ret ?_
  refine r_r rfl ?_
  exact a_b (by rw [← hO]; simp only [Bool.false_eq_true, false_iff]; exact fun h => h3 h.2)
end Go.VL
namespace Go.VL
open Go.RowKit
set_option maxRecDepth 20000
set_option maxHeartbeats 8000000
theorem lt_of_read {b : Nat} (hb : b < 2 ^ 32) {m : Nat} {e : Int} (hr : fS.read b = .number false m e) : b < 2139095040 := by
  refine Decidable.byContradiction fun hn => ?_
  unfold Ieee.Format.read at hr
  rw [fS_sw, fS_bi, fS_in, fS_lp] at hr
  by_cases h1 : b < 2147483648
  · have h2 : b / 2147483648 % 2 = 0 := by omega
    have h3 : b % 2147483648 = b := by omega
    simp only [h2, h3] at hr
    rw [if_neg (by omega), if_neg hn] at hr
    split at hr <;> cases hr
  · have h2 : b / 2147483648 % 2 = 1 := by omega
    simp only [h2] at hr
    split at hr
    · cases hr
    · split at hr
      · cases hr
      · split at hr <;> cases hr
/-- An amount is a rung. -/
theorem amt_rung {x : Option Nat} (hx : Sg x) (h : amtB x = true) : ∃ b, x = some b ∧ b < 2139095040 := by
  cases x with
  | none => cases h
  | some b =>
    refine ⟨b, rfl, ?_⟩
    have ha := amtB_some.1 h
    obtain ⟨s, m, e, hr⟩ := num_of_fin ha.1
    have hs := (amt_num (hx.2 b rfl) hr).1 ha
    subst hs
    exact lt_of_read (hx.2 b rfl) hr
theorem ford_cmp {a c : Nat} (ha : a < 2139095040) (hc : c < 2139095040) : ford .f32 (some a) (some c) = some (compare a c) := ford_pos ha hc
theorem share_rung {x : Option Nat} (hx : Sg x) (h : shr x) : ∃ b, x = some b ∧ b ≤ 1065353216 := by
  obtain ⟨b, rfl, hb⟩ := amt_rung hx h.1
  refine ⟨b, rfl, ?_⟩
  have h2 : fle (some b) 1065353216 := h.2
  unfold fle at h2
  rw [show fOf .f32 1065353216 = some 1065353216 by decide, ford_cmp hb (by decide)] at h2
  rcases Nat.lt_trichotomy b 1065353216 with h3 | h3 | h3
  · omega
  · omega
  · rw [Nat.compare_eq_gt.2 h3] at h2
    exact absurd h2 (by decide)
theorem add_rung {a b c d e : Nat} (ha : a ≤ c) (hb : b ≤ d) (hc : c < 2139095040) (hd : d < 2139095040) (he : e < 2139095040) (h : val c + val d ≤ val e) : ∃ r, fop .add .f32 (some a) (some b) = some r ∧ r ≤ e := by
  refine ⟨_, fadd_pos (by omega) (by omega), rung_le_of he ?_⟩
  have h1 := val_le.2 ha
  have h2 := val_le.2 hb
  omega
theorem psm_rung {g : Fo} (hs : ∀ i (hi : i < 4), Sg (g ⟨i, hi⟩)) (h : ∀ i (hi : i < 4), shr (g ⟨i, hi⟩)) : ∃ r, psm g 4 = some r ∧ r < 2139095040 := by
  obtain ⟨a, ea, ha⟩ := share_rung (hs 0 (by decide)) (h 0 (by decide))
  obtain ⟨b, eb, hb⟩ := share_rung (hs 1 (by decide)) (h 1 (by decide))
  obtain ⟨c, ec, hc⟩ := share_rung (hs 2 (by decide)) (h 2 (by decide))
  obtain ⟨d, ed, hd⟩ := share_rung (hs 3 (by decide)) (h 3 (by decide))
  obtain ⟨r1, e1, h1⟩ := add_rung (e := 1073741824) ha hb (by decide) (by decide) (by decide) (by decide)
  obtain ⟨r2, e2, h2⟩ := add_rung (e := 1082130432) h1 hc (by decide) (by decide) (by decide) (by decide)
  obtain ⟨r3, e3, h3⟩ := add_rung (e := 1090519040) h2 hd (by decide) (by decide) (by decide) (by decide)
  refine ⟨r3, ?_, by omega⟩
  have p1 : psm g 1 = some a := ea
  have p2 : psm g 2 = some r1 := by rw [← psm_s g (n := 1) (by decide) (by decide), p1, eb, e1]
  have p3 : psm g 3 = some r2 := by rw [← psm_s g (n := 2) (by decide) (by decide), p2, ec, e2]
  rw [← psm_s g (n := 3) (by decide) (by decide), p3, ed, e3]
abbrev flt (x : Option Nat) (c : Nat) : Prop := (ford .f32 x (fOf .f32 c) == some .lt) = true
abbrev fgt (x : Option Nat) (c : Nat) : Prop := (ford .f32 x (fOf .f32 c) == some .gt) = true
theorem not_flt {r c : Nat} (hr : r < 2139095040) (hc : c < 2139095040) (hf : fOf .f32 c = some c) (h : ¬ flt (some r) c) : fge (some r) c := by
  unfold flt at h
  unfold fge
  rw [hf, ford_cmp hr hc] at *
  rcases Nat.lt_trichotomy r c with h3 | h3 | h3
  · rw [Nat.compare_eq_lt.2 h3] at h
    exact absurd rfl h
  · rw [Nat.compare_eq_eq.2 h3]
    decide
  · rw [Nat.compare_eq_gt.2 h3]
    decide
theorem not_fgt {r c : Nat} (hr : r < 2139095040) (hc : c < 2139095040) (hf : fOf .f32 c = some c) (h : ¬ fgt (some r) c) : fle (some r) c := by
  unfold fgt at h
  unfold fle
  rw [hf, ford_cmp hr hc] at *
  rcases Nat.lt_trichotomy r c with h3 | h3 | h3
  · rw [Nat.compare_eq_lt.2 h3]
    decide
  · rw [Nat.compare_eq_eq.2 h3]
    decide
  · rw [Nat.compare_eq_gt.2 h3] at h
    exact absurd rfl h
theorem flt_not {x : Option Nat} {c : Nat} (h : flt x c) : ¬ fge x c := fun h2 => by
  unfold flt at h
  unfold fge at h2
  rw [eq_of_beq h] at h2
  exact absurd h2 (by decide)
theorem fgt_not {x : Option Nat} {c : Nat} (h : fgt x c) : ¬ fle x c := fun h2 => by
  unfold fgt at h
  unfold fle at h2
  rw [eq_of_beq h] at h2
  exact absurd h2 (by decide)
/-- The sum of a list of numbers. -/
def sumL : List (Option Nat) → Option Nat
  | [] => some 0
  | x :: r => r.foldl (fun a b => fop .add .f32 a b) x
theorem sumL_take {xs : List (Option Nat)} {i : Nat} (h : i + 1 < xs.length) : sumL (xs.take (i + 2)) = fop .add .f32 (sumL (xs.take (i + 1))) xs[i + 1] := by
  cases xs with
  | nil => simp at h
  | cons x r =>
    simp only [List.take_succ_cons, sumL, List.getElem_cons_succ]
    rw [List.take_succ_eq_append_getElem (by simpa using h), List.foldl_append]
    rfl
theorem sumL_1 {xs : List (Option Nat)} (h : 0 < xs.length) : sumL (xs.take 1) = xs[0] := by
  cases xs with
  | nil => simp at h
  | cons x r => rfl
theorem sumL_row (g : Fo) : sumL (l4 g) = psm g 4 := rfl
theorem fin_feq {b : Nat} (h : feq (some b)) : fin (some b) = true := by
  unfold feq at h
  rw [zero32] at h
  rcases read_num .f32 b with ⟨s, t, hr⟩ | ⟨s, hr⟩ | ⟨s, m, e, hr⟩
  · simp only [ford, Option.bind_some, Ieee.Format.order, hr, read_zero32, Ieee.Datum.order] at h
    exact absurd h (by decide)
  · simp only [ford, Option.bind_some, Ieee.Format.order, hr, read_zero32, Ieee.Datum.order] at h
    cases s <;> exact absurd h (by decide)
  · have := fin_num hr
    rwa [num_some hr] at this
theorem cArI (n : Int) : PureC X 175 [cI n] (cB (decide (1 ≤ n ∧ n ≤ 4))) := by
  refine PureC.of_body (drawD_ok X) (fun _ _ => Go.Proofs.Tryz.call175 _ _) Go.Proofs.Tryz.func175 rfl (n := 5) rfl ?_
  refine w_seq ?_
  refine w_reg rfl ?_
  refine v_assign (c := .v (.bool false)) rfl ?_
  refine v_nil ?_
  refine q_n ?_
  refine w_seq ?_
  refine w_reg rfl ?_
  refine v_move rfl ?_
  refine v_callb (cInR _ _ _) rfl rfl (.cons vw_v (.cons vw_v (.cons vw_v .nil))) (fun h1 => ?_) (fun h1 => ?_)
  · refine v_assign rfl ?_
    refine v_nil ?_
    refine q_n ?_
    refine w_ret ?_
    refine r_r rfl ?_
    exact a_b (by simp_all)
  refine v_assign rfl ?_
  refine v_nil ?_
  refine q_n ?_
  refine w_ret ?_
  refine r_r rfl ?_
  exact a_b (by simp_all)
theorem cPrI (x : Option Nat) (hx : Sg x) : PureC X 176 [.c (.f .f32 x)] (cB (decide (prior x))) := by
  refine PureC.of_body (drawD_ok X) (fun _ _ => Go.Proofs.Tryz.call176 _ _) Go.Proofs.Tryz.func176 rfl (n := 13) rfl ?_
  refine w_seq ?_
  refine w_reg rfl ?_
  refine v_assign (c := .v (.bool false)) rfl ?_
  refine v_nil ?_
  refine q_n ?_
  refine w_seq ?_
  refine w_reg rfl ?_
  refine v_move rfl ?_
  refine v_callb (cAmI _ (by assumption)) rfl rfl (.cons vw_f .nil) (fun h1 => ?_) (fun h1 => ?_)
  rotate_left
  · refine v_move rfl ?_
    refine v_guard_off rfl rfl rfl ?_
    refine v_guard_off rfl rfl rfl ?_
    refine v_pick_f (v := .v (.bool false)) rfl rfl ?_
    refine v_move rfl ?_
    refine v_guard_off rfl rfl rfl ?_
    refine v_guard_off rfl rfl rfl ?_
    refine v_pick_f (v := .v (.bool false)) rfl rfl ?_
    refine v_assign rfl ?_
    refine v_nil ?_
    refine q_n ?_
    refine w_ret ?_
    refine r_r rfl ?_
    exact a_b (by unfold prior; simp_all)
  refine v_move rfl ?_
  refine v_guard_on rfl rfl ?_
  refine v_move rfl ?_
  refine v_guard_on rfl rfl ?_
  refine v_binb lay26 rfl rfl rfl (fun h2 => ?_) (fun h2 => ?_)
  rotate_left
  · replace h2 : ¬ fge x 1015021568 := fun h => absurd (h2.symm.trans h) (by decide)
    refine v_pick_t rfl rfl ?_
    refine v_move rfl ?_
    refine v_guard_off rfl rfl rfl ?_
    refine v_guard_off rfl rfl rfl ?_
    refine v_pick_f (v := .v (.bool false)) rfl rfl ?_
    refine v_assign rfl ?_
    refine v_nil ?_
    refine q_n ?_
    refine w_ret ?_
    refine r_r rfl ?_
    exact a_b (by unfold prior; simp_all)
  replace h2 : fge x 1015021568 := h2
  refine v_pick_t rfl rfl ?_
  refine v_move rfl ?_
  refine v_guard_on rfl rfl ?_
  refine v_move rfl ?_
  refine v_guard_on rfl rfl ?_
  refine v_binb lay26 rfl rfl rfl (fun h3 => ?_) (fun h3 => ?_)
  · replace h3 : fle x 1115684864 := h3
    refine v_pick_t rfl rfl ?_
    refine v_assign rfl ?_
    refine v_nil ?_
    refine q_n ?_
    refine w_ret ?_
    refine r_r rfl ?_
    exact a_b (by unfold prior; simp_all)
  replace h3 : ¬ fle x 1115684864 := fun h => absurd (h3.symm.trans h) (by decide)
  refine v_pick_t rfl rfl ?_
  refine v_assign rfl ?_
  refine v_nil ?_
  refine q_n ?_
  refine w_ret ?_
  refine r_r rfl ?_
  exact a_b (by unfold prior; simp_all)
theorem cNoIs (b w : Nat) (hb : b < 2 ^ 32) (hw : convF .f32 .f64 (some b) = some (some w)) : PureC X 177 [.c (.f .f32 (some b))] (cB (decide (nil0 (some b)))) := by
  refine PureC.of_body (drawD_ok X) (fun _ _ => Go.Proofs.Tryz.call177 _ _) Go.Proofs.Tryz.func177 rfl (n := 11) rfl ?_
  refine w_seq ?_
  refine w_reg rfl ?_
  refine v_assign (c := .v (.bool false)) rfl ?_
  refine v_nil ?_
  refine q_n ?_
  refine w_seq ?_
  refine w_reg rfl ?_
  refine v_move rfl ?_
  refine v_binb lay26 rfl rfl rfl (fun h1 => ?_) (fun h1 => ?_)
  rotate_left
  · replace h1 : ¬ feq (some b) := fun h => absurd (h1.symm.trans h) (by decide)
    refine v_move rfl ?_
    refine v_guard_off rfl rfl rfl ?_
    refine v_guard_off rfl rfl rfl ?_
    refine v_guard_off rfl rfl rfl ?_
    refine v_guard_off rfl rfl rfl ?_
    refine v_pick_f (v := .v (.bool false)) rfl rfl ?_
    refine v_assign rfl ?_
    refine v_nil ?_
    refine q_n ?_
    refine w_ret ?_
    refine r_r rfl ?_
    exact a_b ⟨fun h => (by cases h), fun h => absurd h.2 h1⟩
  replace h1 : feq (some b) := h1
  have hfn := fin_feq h1
  refine v_move rfl ?_
  refine v_guard_on rfl rfl ?_
  refine v_move rfl ?_
  refine v_guard_on rfl rfl ?_
  refine v_conv_ff _ lay26 lay42 rfl (hw) ?_
  refine v_guard_on rfl rfl ?_
  refine v_callb (cSgb _) rfl rfl (.cons vw_f .nil) (fun h2 => ?_) (fun h2 => ?_)
  · refine v_guard_on rfl rfl ?_
    refine v_not false rfl rfl ?_
    refine v_pick_t rfl rfl ?_
    refine v_assign rfl ?_
    refine v_nil ?_
    refine q_n ?_
    refine w_ret ?_
    refine r_r rfl ?_
    exact a_b ⟨fun h => (by cases h), fun h => absurd (amtB_some.1 h.1) ((sign_amt hb hw hfn).1 h2)⟩
  refine v_guard_on rfl rfl ?_
  refine v_not true rfl rfl ?_
  refine v_pick_t rfl rfl ?_
  refine v_assign rfl ?_
  refine v_nil ?_
  refine q_n ?_
  refine w_ret ?_
  refine r_r rfl ?_
  exact a_b ⟨fun _ => ⟨amtB_some.2 (Decidable.of_not_not fun h => h2 ((sign_amt hb hw hfn).2 h)), h1⟩, fun _ => rfl⟩
theorem cNoIn : PureC X 177 [.c (.f .f32 none)] (cB (decide (nil0 none))) := by
  refine PureC.of_body (drawD_ok X) (fun _ _ => Go.Proofs.Tryz.call177 _ _) Go.Proofs.Tryz.func177 rfl (n := 11) rfl ?_
  refine w_seq ?_
  refine w_reg rfl ?_
  refine v_assign (c := .v (.bool false)) rfl ?_
  refine v_nil ?_
  refine q_n ?_
  refine w_seq ?_
  refine w_reg rfl ?_
  refine v_move rfl ?_
  refine v_binb lay26 rfl rfl rfl (fun h1 => ?_) (fun h1 => ?_)
  · exact absurd h1 (by decide)
  refine v_move rfl ?_
  refine v_guard_off rfl rfl rfl ?_
  refine v_guard_off rfl rfl rfl ?_
  refine v_guard_off rfl rfl rfl ?_
  refine v_guard_off rfl rfl rfl ?_
  refine v_pick_f (v := .v (.bool false)) rfl rfl ?_
  refine v_assign rfl ?_
  refine v_nil ?_
  refine q_n ?_
  refine w_ret ?_
  refine r_r rfl ?_
  exact a_b ⟨fun h => (by cases h), fun h => (by cases h.1)⟩
theorem cNoI (x : Option Nat) (hx : Sg x) : PureC X 177 [.c (.f .f32 x)] (cB (decide (nil0 x))) := by
  cases x with
  | none => exact cNoIn
  | some b =>
    obtain ⟨w, hw, -⟩ := wide_some hx.1
    exact cNoIs b w (hx.2 b rfl) hw
theorem cSum (xs : List (Option Nat)) (hx : xs.length ≤ 2 ^ 40) (h0 : 0 < xs.length) : PureC X 64 [.c (.sl false xs.length 1 (flat fe xs))] (.c (.f .f32 (sumL xs))) := by
  refine PureC.of_body (drawD_ok X) (fun _ _ => Go.Proofs.Tryz.call64 _ _) Go.Proofs.Tryz.func64 rfl (n := 21) rfl ?_
  refine w_seq ?_
  refine w_reg rfl ?_
  refine v_assign (c := .f _ _) rfl ?_
  refine v_nil ?_
  refine q_n ?_
  refine w_seq ?_
  refine w_reg rfl ?_
  refine v_move rfl ?_
  refine v_idx_e (k := 1) (0) fe_len lay23 lay26 rfl rfl rfl (by simp) rfl (rfl) (h0) ?_
  refine v_load_vw (.c (.f _ _)) lay26 rfl rfl rfl ?_
  refine v_assign rfl ?_
  refine v_nil ?_
  refine q_n ?_
  refine w_seq ?_
  refine w_seq ?_
  refine w_reg rfl ?_
  refine v_move rfl ?_
  refine v_slice_sl (1) (xs.length) fe_len lay23 lay26 rfl rfl rfl rfl rfl (rfl) (rfl) (⟨h0, Nat.le_refl _⟩) ?_
  refine v_len_sl lay23 rfl ?_
  refine v_move (c := .v (.int .i64 0)) rfl ?_
  refine v_nil ?_
  refine q_n ?_
  refine w_block ?_
  refine w_loop (fun k sl H => ∃ i : Nat, k = xs.length - 1 - i ∧ i ≤ xs.length - 1 ∧ sl = sls [(3, .c (.f .f32 (sumL (xs.take (i + 1))))), (10, .c (.sl false (xs.length - 1) 1 (flat fe ((xs.drop 1).take (xs.length - 1))))), (11, cI (xs.length - 1 : Nat)), (12, cI i)] ∧ H = []) ?_ ?_
  · refine ⟨_, _, _, ?_, 0, rfl, Nat.zero_le _, rfl, rfl⟩
    exact turn0 ⟨by rw [show sumL (xs.take (0 + 1)) = xs[0] from sumL_1 h0]; exact tr_f, tr_sl, tr_v, tr_v, trivial⟩
  rintro k sl H ⟨i, rfl, hi, rfl, rfl⟩
  refine w_seq ?_
  refine w_reg rfl ?_
  refine v_lss lay3 rfl rfl (fun h2 => ?_) (fun h2 => ?_)
  rotate_left
  · refine v_nil ?_
    refine q_n ?_
    refine w_seq ?_
    refine w_f rfl ?_
    refine w_exit ?_
    refine q_e ?_
    refine q_e ?_
    refine q_hit ?_
    refine q_n ?_
    refine w_seq ?_
    refine w_reg rfl ?_
    refine v_move rfl ?_
    refine v_assign rfl ?_
    refine v_nil ?_
    refine q_n ?_
    refine w_ret ?_
    refine r_r rfl ?_
    obtain rfl : i = xs.length - 1 := by omega
    have e : sumL (xs.take (xs.length - 1 + 1)) = sumL xs := by rw [List.take_of_length_le (by omega)]
    rw [← e]
    exact tr_f
  have i1 : i < ((xs.drop 1).take (xs.length - 1)).length := by simp; omega
  have e2 : sumL (xs.take (i + 1 + 1)) = fop .add .f32 (sumL (xs.take (i + 1))) (((xs.drop 1).take (xs.length - 1))[i]) := by
    rw [show ((xs.drop 1).take (xs.length - 1))[i] = xs[i + 1]'(by omega) by simp [Nat.add_comm]]
    exact sumL_take (by omega)
  refine v_nil ?_
  refine q_n ?_
  refine w_seq ?_
  refine w_t rfl ?_
  refine w_skip ?_
  refine q_n ?_
  refine w_seq ?_
  refine w_block ?_
  refine w_seq ?_
  refine w_reg rfl ?_
  refine v_idx_e (k := 1) (i) fe_len lay23 lay26 rfl rfl rfl (by simp) rfl (rfl) (i1) ?_
  refine v_load_vw (.c (.f _ _)) lay26 rfl rfl rfl ?_
  refine v_assign rfl ?_
  refine v_nil ?_
  refine q_n ?_
  refine w_reg rfl ?_
  refine v_move rfl ?_
  refine v_move rfl ?_
  refine v_bin (c := .f _ _) lay26 rfl rfl rfl ?_
  refine v_assign rfl ?_
  refine v_nil ?_
  refine q_bn ?_
  refine q_n ?_
  refine w_reg rfl ?_
  refine v_add lay3 rfl rfl (i64r (by omega)) ?_
  refine v_move rfl ?_
  refine v_nil ?_
  refine q_n ?_
  refine ⟨_, _, _, ?_, ⟨i + 1, rfl, by omega, rfl, rfl⟩, by omega⟩
  exact turn0 ⟨by rw [e2]; exact tr_f, tr_sl, tr_v, tr_v, trivial⟩
end Go.VL
