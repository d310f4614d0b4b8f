/- Walks: counts made smooth. -/
import Derived.Test.YtenaamehifbfeaaC2
import Derived.Test.YtenaamehifbfeaaV29
namespace Go.VL
open Go.RowKit
set_option maxRecDepth 20000
def fl2 (n : Int) : Option Nat := some (FloatKind.f32.nearest n)
def fe (x : Option Nat) : List C := [.f .f32 x]
theorem fe_len (x : Option Nat) : (fe x).length = 1 := rfl
theorem fe_sc (x : Option Nat) : (fe x).all sc = true := rfl
abbrev flo (o : Bool) (xs : List (Option Nat)) : C := .sl o xs.length 1 (flat fe xs)
theorem tr_i {H : List Ob} {g : List (Option Nat)} {a b : Int} (h : a = b) : TrV H g (cI a) (cI b) := by rw [h]; exact tr_v
theorem tr_mun {H : List Ob} {g : List (Option Nat)} {i id off n n' k : Nat} (h : g[i]? = some (some id)) (hn : n = n') : TrV H g (.c (.mu id off n k)) (.c (.mu i off n' k)) := by rw [hn]; exact tr_mu h
theorem snoc_eq {α : Type} {enc : α → List C} (f : Nat → α) (i : Nat) {x : α} (h : f i = x) : flat enc ((List.range i).map f ++ [x]) = flat enc ((List.range (i + 1)).map f) := by rw [range_step, h]
/-- The counts made smooth, one by one. -/
def smN (share : Option Nat) (xs : List Tal) : Nat → Option Nat
  | 0 => fl2 (xs.getD 0 (0, 0, 0)).2.1
  | i + 1 => fop .add .f32 (fop .mul .f32 (smN share xs i) (fop .sub .f32 (fOf .f32 1065353216) share)) (fop .mul .f32 (fl2 (xs.getD (i + 1) (0, 0, 0)).2.1) share)
theorem getD_at {xs : List Tal} {i : Nat} (hi : i < xs.length) : xs.getD i (0, 0, 0) = xs[i] := by
  rw [List.getD_eq_getElem?_getD, List.getElem?_eq_getElem hi, Option.getD_some]
theorem sm_first {share : Option Nat} {xs : List Tal} {i : Nat} (hi : i < xs.length) (h : ¬ (0 : Int) < i) : smN share xs i = fl2 xs[i].2.1 := by
  obtain rfl : i = 0 := by omega
  rw [← getD_at hi]; rfl
theorem sm_next {share : Option Nat} {xs : List Tal} {i q : Nat} (hi : i < xs.length) (e : (i : Int) - 1 = q) (hq : q < ((List.range i).map (smN share xs)).length) : smN share xs i = fop .add .f32 (fop .mul .f32 ((List.range i).map (smN share xs))[q] (fop .sub .f32 (fOf .f32 1065353216) share)) (fop .mul .f32 (fl2 xs[i].2.1) share) := by
  obtain rfl : i = q + 1 := by omega
  rw [← getD_at hi, List.getElem_map, List.getElem_range]; rfl
/-- What is answered for a list and a share. -/
noncomputable def smR (xs : List Tal) (share : Option Nat) : List (Option Nat) × Int := if okL xs then if shOk share then ((List.range xs.length).map (smN share xs), 0) else ([], 2) else ([], 1)
section
variable {xs : List Tal} {share : Option Nat}
theorem sm_0 (h1 : okL xs) (h2 : shOk share) : smR xs share = ((List.range xs.length).map (smN share xs), 0) := by unfold smR; rw [if_pos h1, if_pos h2]
theorem sm_2 (h1 : okL xs) (h2 : ¬ shOk share) : smR xs share = ([], 2) := by unfold smR; rw [if_pos h1, if_neg h2]
theorem sm_1 (h1 : ¬ okL xs) : smR xs share = ([], 1) := by unfold smR; rw [if_neg h1]
end
theorem smN_ok (share : Option Nat) (xs : List Tal) : ∀ i, okF .f32 (smN share xs i)
  | 0 => okF_near _
  | i + 1 => fop_ok
theorem sm_ok (xs : List Tal) (share : Option Nat) : ∀ x ∈ (smR xs share).1, okF .f32 x := by
  unfold smR
  split
  · split
    · intro x hx
      simp only [List.mem_map] at hx
      obtain ⟨i, -, rfl⟩ := hx
      exact smN_ok share xs i
    · intro x hx; cases hx
  · intro x hx; cases hx
theorem sm_len (xs : List Tal) (share : Option Nat) : (smR xs share).1.length ≤ xs.length := by
  unfold smR
  split
  · split <;> simp
  · simp
def fmark (a : Int) (j : Nat) : Option Nat := fl2 (a + j)
def tmark (a : Int) (j : Nat) : Tal := (a + 3 * j, IntKind.i16.wrap (a + 3 * j + 1), IntKind.i16.wrap (a + 3 * j + 1 + 1))
def set1 (X : Tal) (b : Int) : Tal := (b, X.2.1, X.2.2)
def set2 (X : Tal) (b : Int) : Tal := (X.1, b, X.2.2)
def set3 (X : Tal) (b : Int) : Tal := (X.1, X.2.1, b)
theorem te1 (X : Tal) (b : Int) : te (set1 X b) = setCells (te X) 0 [.v (.int .i64 b)] := rfl
theorem te2 (X : Tal) (b : Int) : te (set2 X b) = setCells (te X) 1 [.v (.int .i16 b)] := rfl
theorem te3 (X : Tal) (b : Int) : te (set3 X b) = setCells (te X) 2 [.v (.int .i16 b)] := rfl
theorem tmark_step {a : Int} {i : Nat} {xs : List Tal} (h : i < xs.length) {y1 y2 y3 : Tal} (h3 : y3 = tmark a i) : (((marks (tmark a) i xs).set i y1).set i y2).set i y3 = marks (tmark a) (i + 1) xs := by
  rw [List.set_set, List.set_set, h3]
  exact marks_step h
theorem held_eq {n i : Nat} {a : Int} (hq : i < ((List.range n).map (fmark a)).length) : (ford .f32 ((List.range n).map (fmark a))[i] (some (FloatKind.f32.nearest (a + i))) != some .eq) = false := by
  rw [List.getElem_map, List.getElem_range, show fmark a i = some (FloatKind.f32.nearest (a + i)) from rfl, ford_self (okF_near _)]
  rfl
theorem c22l (xs : List Tal) (hx : xs.length ≤ 2 ^ 40) : LiveC X 22 [.c (tals false xs)] (.c (.mu 0 0 xs.length 3)) [⟨flat te xs, 27, true⟩] := by
  refine LiveC.of_body (drawD_ok X) (fun _ _ => Go.Proofs.Try.call22 _ _) Go.Proofs.Try.func22 rfl (n := 23) rfl ?_
  refine w_seq ?_
  refine w_reg rfl ?_
  refine v_assign rfl ?_
  refine v_nil ?_
  refine q_n ?_
  refine w_seq ?_
  refine w_reg rfl ?_
  refine v_move rfl ?_
  refine v_len_sl lay35 rfl ?_
  refine v_make (enc := te) (a0 := ((0, 0, 0) : Tal)) (m := 0) (H' := [_]) rfl lay40 lay27 rfl rfl rfl rfl (xs.length) (rfl) (by unfold maxLen; simp only []; omega) rfl rfl ?_
  refine v_assign rfl ?_
  refine v_nil ?_
  refine q_n ?_
  refine w_seq ?_
  refine w_seq ?_
  refine w_reg rfl ?_
  refine v_assign (c := .v (.int .i64 0)) rfl ?_
  refine v_nil ?_
  refine q_n ?_
  refine w_block ?_
  refine w_loop (fun k sl H => ∃ i : Nat, k = xs.length - i ∧ i ≤ xs.length ∧ sl = sls [(0, .c (tals false xs)), (3, .c (.mu 0 0 xs.length 3)), (4, cI i)] ∧ H = [⟨flat te (xs.take i ++ List.replicate (xs.length - i) (0, 0, 0)), 27, true⟩]) ?_ ?_
  · refine ⟨_, _, _, ?_, 0, rfl, Nat.zero_le _, rfl, rfl⟩
    exact turn [some 0] rfl rfl rfl ⟨⟨_, rfl, .stay (stays_flat te_sc _)⟩, trivial⟩ ⟨tr_sl, tr_mu rfl, tr_v, trivial⟩
  · rintro k sl H ⟨i, rfl, hi, rfl, rfl⟩
    refine w_seq ?_
    refine w_seq ?_
    refine w_reg rfl ?_
    refine v_move rfl ?_
    refine v_move rfl ?_
    refine v_len_sl lay35 rfl ?_
    refine v_lss lay3 rfl rfl (fun h1 => ?_) (fun h1 => ?_)
    · skip
      refine v_nil ?_
      refine q_n ?_
      refine w_t rfl ?_
      refine w_skip ?_
      refine q_n ?_
      refine w_seq ?_
      refine w_block ?_
      refine w_reg rfl ?_
      refine v_move rfl ?_
      refine v_move rfl ?_
      refine v_move rfl ?_
      refine v_move rfl ?_
      refine v_idx (k := 3) te_len lay35 lay88 rfl rfl rfl (rfl) rfl (by omega) (fun q2 hq2 e2 => ?_)
      obtain rfl : i = q2 := by omega
      refine v_load_vw (.agg [.v _, .v _, .v _]) lay88 rfl rfl rfl ?_
      refine v_call (c72 _ _ _) rfl rfl rfl (.cons (vw_agg (.cons vw_v (.cons vw_v (.cons vw_v .nil)))) .nil) ?_
      refine v_idx_mu (k := 3) (off := 0) lay40 lay27 rfl rfl rfl (by omega) (fun q3 hq3 e3 => ?_)
      obtain rfl : i = q3 := by omega
      refine v_store_flat (H' := [_]) i 0 (xs[i]) te_len lay27 rfl rfl rfl (by omega) (by simp; omega) rfl rfl (rfl) rfl ?_
      refine v_nil ?_
      refine q_bn ?_
      refine q_n ?_
      refine w_reg rfl ?_
      refine v_move rfl ?_
      refine v_add lay3 rfl rfl (i64r (by omega)) ?_
      refine v_assign rfl ?_
      refine v_nil ?_
      refine q_n ?_
      refine ⟨_, _, _, ?_, ⟨i + 1, rfl, by omega, rfl, rfl⟩, by omega⟩
      exact turn [some 0] rfl rfl rfl ⟨⟨_, rfl, by rw [fill_step hq2]; exact .stay (stays_flat te_sc _)⟩, trivial⟩ ⟨tr_sl, tr_mu rfl, tr_v, trivial⟩
    · skip
      refine v_nil ?_
      refine q_n ?_
      refine w_f rfl ?_
      refine w_exit ?_
      refine q_e ?_
      refine q_e ?_
      refine q_hit ?_
      refine q_n ?_
      refine w_seq ?_
      refine w_reg rfl ?_
      refine v_move rfl ?_
      refine v_assign rfl ?_
      refine v_nil ?_
      refine q_n ?_
      refine w_ret ?_
      refine r_r rfl ?_
      obtain rfl : i = xs.length := by omega
      exact l_ans [some 0] rfl rfl ⟨⟨_, rfl, trc_flat te_sc (by simp)⟩, trivial⟩ (tr_mu rfl)

theorem c21 (xs : List Tal) (share : Option Nat) (hx : xs.length ≤ 2 ^ 40) : PureC X 21 [.c (tals false xs), .c (.f .f32 share)] (.tup [.c (flo true (smR xs share).1), cI (smR xs share).2]) := by
  refine PureC.of_body (drawD_ok X) (fun _ _ => Go.Proofs.Try.call21 _ _) Go.Proofs.Try.func21 rfl (n := 49) rfl ?_
  refine w_seq ?_
  refine w_reg rfl ?_
  refine v_assign rfl ?_
  refine v_assign (c := .v (.int .i64 0)) rfl ?_
  refine v_nil ?_
  refine q_n ?_
  refine w_seq ?_
  refine w_seq ?_
  refine w_reg rfl ?_
  refine v_move rfl ?_
  refine v_callb (c70 _ (by omega)) rfl rfl (.cons vw_sl .nil) (fun h1 => ?_) (fun h1 => ?_)
  · skip
    refine v_not false rfl rfl ?_
    refine v_nil ?_
    refine q_n ?_
    refine w_f rfl ?_
    refine w_skip ?_
    refine q_n ?_
    refine w_seq ?_
    refine w_seq ?_
    refine w_reg rfl ?_
    refine v_move rfl ?_
    refine v_callb (c71 _) rfl rfl (.cons vw_f .nil) (fun h2 => ?_) (fun h2 => ?_)
    · skip
      refine v_not false rfl rfl ?_
      refine v_nil ?_
      refine q_n ?_
      refine w_f rfl ?_
      refine w_skip ?_
      refine q_n ?_
      refine w_seq ?_
      refine w_reg rfl ?_
      refine v_lit (flat fe []) (H' := [_]) lay37 lay22 rfl rfl ⟨by decide, by decide⟩ rfl rfl ?_
      refine v_assign rfl ?_
      refine v_nil ?_
      refine q_n ?_
      refine w_seq ?_
      refine w_seq ?_
      refine w_reg rfl ?_
      refine v_assign (c := .v (.int .i64 0)) rfl ?_
      refine v_nil ?_
      refine q_n ?_
      refine w_block ?_
      refine w_loop (fun k sl H => ∃ i : Nat, k = xs.length - i ∧ i ≤ xs.length ∧ sl = sls [(0, .c (tals false xs)), (1, .c (.f .f32 share)), (6, .c (.mu 0 0 i 1)), (7, cI i)] ∧ H = [⟨flat fe ((List.range i).map (smN share xs)), 22, true⟩]) ?_ ?_
      · refine ⟨_, _, _, ?_, 0, rfl, Nat.zero_le _, rfl, rfl⟩
        exact turn [some 0] rfl rfl rfl ⟨⟨_, rfl, trc_flat fe_sc rfl⟩, trivial⟩ ⟨tr_sl, tr_f, tr_mu rfl, tr_v, trivial⟩
      · rintro k sl H ⟨i, rfl, hi, rfl, rfl⟩
        refine w_seq ?_
        refine w_seq ?_
        refine w_reg rfl ?_
        refine v_move rfl ?_
        refine v_move rfl ?_
        refine v_len_sl lay40 rfl ?_
        refine v_lss lay3 rfl rfl (fun h3 => ?_) (fun h3 => ?_)
        · skip
          refine v_nil ?_
          refine q_n ?_
          refine w_t rfl ?_
          refine w_skip ?_
          refine q_n ?_
          refine w_seq ?_
          refine w_block ?_
          refine w_seq ?_
          refine w_reg rfl ?_
          refine v_move rfl ?_
          refine v_move rfl ?_
          refine v_idx (k := 3) te_len lay40 lay27 rfl rfl rfl (rfl) rfl (by omega) (fun q4 hq4 e4 => ?_)
          obtain rfl : i = q4 := by omega
          refine v_fa_vw (off' := 1) lay27 rfl rfl rfl ?_
          refine v_load_vw (.c (.v _)) lay23 rfl rfl rfl ?_
          refine v_conv_if lay23 lay22 rfl ?_
          refine v_assign rfl ?_
          refine v_nil ?_
          refine q_n ?_
          refine w_seq ?_
          refine w_seq ?_
          refine w_reg rfl ?_
          refine v_move rfl ?_
          refine v_gtr lay3 rfl rfl (fun h5 => ?_) (fun h5 => ?_)
          · skip
            refine v_nil ?_
            refine q_n ?_
            refine w_t rfl ?_
            refine w_reg rfl ?_
            refine v_move rfl ?_
            refine v_move rfl ?_
            refine v_sub lay3 rfl rfl (i64r (by omega)) ?_
            refine v_idx_mu (k := 1) (off := 0) lay37 lay22 rfl rfl rfl (by omega) (fun q6 hq6 e6 => ?_)
            refine v_load_flat q6 0 (.c (.f _ _)) fe_len lay22 rfl rfl (by omega) (by simp; omega) rfl rfl ?_
            refine v_move rfl ?_
            refine v_bin (c := .f _ _) lay22 rfl rfl rfl ?_
            refine v_bin (c := .f _ _) lay22 rfl rfl rfl ?_
            refine v_move rfl ?_
            refine v_move rfl ?_
            refine v_bin (c := .f _ _) lay22 rfl rfl rfl ?_
            refine v_bin (c := .f _ _) lay22 rfl rfl rfl ?_
            refine v_assign rfl ?_
            refine v_nil ?_
            refine q_n ?_
            refine w_reg rfl ?_
            refine v_move rfl ?_
            refine v_move rfl ?_
            refine v_lit (flat fe [_]) (H' := [_, _]) lay37 lay22 rfl rfl ⟨by decide, by decide⟩ rfl rfl ?_
            refine v_app_flat (H' := [_, _, _]) fe_sc fe_len lay37 lay22 rfl rfl (by simp) rfl rfl (by simp) rfl rfl (by unfold maxLen; simp only []; omega) rfl rfl ?_
            refine v_assign rfl ?_
            refine v_nil ?_
            refine q_bn ?_
            refine q_n ?_
            refine w_reg rfl ?_
            refine v_move rfl ?_
            refine v_add lay3 rfl rfl (i64r (by omega)) ?_
            refine v_assign rfl ?_
            refine v_nil ?_
            refine q_n ?_
            refine ⟨_, _, _, ?_, ⟨i + 1, rfl, by omega, rfl, rfl⟩, by omega⟩
            exact turn [some 2] rfl rfl rfl ⟨⟨_, rfl, trc_flat fe_sc (snoc_eq _ i (sm_next hq4 e6 _))⟩, trivial⟩ ⟨tr_sl, tr_f, tr_mu rfl, tr_v, trivial⟩
          · skip
            refine v_nil ?_
            refine q_n ?_
            refine w_f rfl ?_
            refine w_skip ?_
            refine q_n ?_
            refine w_reg rfl ?_
            refine v_move rfl ?_
            refine v_move rfl ?_
            refine v_lit (flat fe [_]) (H' := [_, _]) lay37 lay22 rfl rfl ⟨by decide, by decide⟩ rfl rfl ?_
            refine v_app_flat (H' := [_, _, _]) fe_sc fe_len lay37 lay22 rfl rfl (by simp) rfl rfl (by simp) rfl rfl (by unfold maxLen; simp only []; omega) rfl rfl ?_
            refine v_assign rfl ?_
            refine v_nil ?_
            refine q_bn ?_
            refine q_n ?_
            refine w_reg rfl ?_
            refine v_move rfl ?_
            refine v_add lay3 rfl rfl (i64r (by omega)) ?_
            refine v_assign rfl ?_
            refine v_nil ?_
            refine q_n ?_
            refine ⟨_, _, _, ?_, ⟨i + 1, rfl, by omega, rfl, rfl⟩, by omega⟩
            exact turn [some 2] rfl rfl rfl ⟨⟨_, rfl, trc_flat fe_sc (snoc_eq _ i (sm_first hq4 h5))⟩, trivial⟩ ⟨tr_sl, tr_f, tr_mu rfl, tr_v, trivial⟩
        · skip
          refine v_nil ?_
          refine q_n ?_
          refine w_f rfl ?_
          refine w_exit ?_
          refine q_e ?_
          refine q_e ?_
          refine q_hit ?_
          refine q_n ?_
          refine w_seq ?_
          refine w_reg rfl ?_
          refine v_move rfl ?_
          refine v_assign rfl ?_
          refine v_assign (c := .v (.int .i64 0)) rfl ?_
          refine v_nil ?_
          refine q_n ?_
          refine w_ret ?_
          refine r_r rfl ?_
          obtain rfl : i = xs.length := by omega
          rw [sm_0 h1 h2]
          exact a_tup (.cons (a_flat2 fe_sc fe_len rfl rfl (by simp) (by simp)) (.cons tr_v .nil))
    · skip
      refine v_not true rfl rfl ?_
      refine v_nil ?_
      refine q_n ?_
      refine w_t rfl ?_
      refine w_seq ?_
      refine w_reg rfl ?_
      refine v_lit (flat fe []) (H' := [_]) lay37 lay22 rfl rfl ⟨by decide, by decide⟩ rfl rfl ?_
      refine v_assign rfl ?_
      refine v_assign (c := .v (.int .i64 2)) rfl ?_
      refine v_nil ?_
      refine q_n ?_
      refine w_ret (q_r ?_)
      refine r_r rfl ?_
      rw [sm_2 h1 h2]
      exact a_tup (.cons (a_flat2 fe_sc fe_len rfl rfl rfl rfl) (.cons tr_v .nil))
  · skip
    refine v_not true rfl rfl ?_
    refine v_nil ?_
    refine q_n ?_
    refine w_t rfl ?_
    refine w_seq ?_
    refine w_reg rfl ?_
    refine v_lit (flat fe []) (H' := [_]) lay37 lay22 rfl rfl ⟨by decide, by decide⟩ rfl rfl ?_
    refine v_assign rfl ?_
    refine v_assign (c := .v (.int .i64 1)) rfl ?_
    refine v_nil ?_
    refine q_n ?_
    refine w_ret (q_r ?_)
    refine r_r rfl ?_
    rw [sm_1 h1]
    exact a_tup (.cons (a_flat2 fe_sc fe_len rfl rfl rfl rfl) (.cons tr_v .nil))

theorem c23l (xs : List Tal) (share : Option Nat) (hx : xs.length ≤ 2 ^ 40) (hb : T16 xs) (hs : Sg share) : LiveC X 23 [.c (tals false xs), .c (.f .f32 share)] (.tup [.c (.mu 0 0 (smR xs share).1.length 1), cI (smR xs share).2]) [⟨flat fe (smR xs share).1, 22, true⟩] := by
  refine LiveC.of_body (drawD_ok X) (fun _ _ => Go.Proofs.Try.call23 _ _) Go.Proofs.Try.func23 rfl (n := 57) rfl ?_
  refine w_seq ?_
  refine w_reg rfl ?_
  refine v_assign rfl ?_
  refine v_assign (c := .v (.int .i64 0)) rfl ?_
  refine v_nil ?_
  refine q_n ?_
  refine w_seq ?_
  refine w_seq ?_
  refine w_reg rfl ?_
  refine v_move rfl ?_
  refine v_callb (c58 _ (by omega) (by assumption)) rfl rfl (.cons vw_sl .nil) (fun h1 => ?_) (fun h1 => ?_)
  · skip
    refine v_not false rfl rfl ?_
    refine v_call (c65 _ _) rfl rfl rfl (.cons vw_v (.cons vw_v .nil)) ?_
    refine v_move rfl ?_
    refine v_callb (c73 _ (by assumption)) rfl rfl (.cons vw_f .nil) (fun h2 => ?_) (fun h2 => ?_)
    · skip
      refine v_not false rfl rfl ?_
      refine v_call (c65 _ _) rfl rfl rfl (.cons vw_v (.cons vw_v .nil)) ?_
      refine v_lit (flat int [_, _]) (H' := [_]) lay118 lay2 rfl rfl ⟨by decide, by decide⟩ rfl rfl ?_
      refine v_call (c64 [_, _] (Nat.le_of_ble_eq_true rfl)) rfl rfl rfl (.cons (vw_mu2 int_sc int_len rfl (by simp)) .nil) ?_
      refine v_assign rfl ?_
      refine v_nil ?_
      refine q_n ?_
      refine w_seq ?_
      refine w_reg rfl ?_
      refine v_move rfl ?_
      refine v_neq lay2 rfl rfl (fun h3 => ?_) (fun h3 => ?_)
      · skip
        exact absurd (by decide) h3
      · skip
        refine v_nil ?_
        refine q_n ?_
        refine w_f rfl ?_
        refine w_skip ?_
        refine q_n ?_
        refine w_seq ?_
        refine w_reg rfl ?_
        refine v_lit (flat fe []) (H' := [_, _]) lay37 lay22 rfl rfl ⟨by decide, by decide⟩ rfl rfl ?_
        refine v_move rfl ?_
        refine v_bin (c := .f _ _) lay22 rfl rfl rfl ?_
        refine v_assign rfl ?_
        refine v_assign rfl ?_
        refine v_nil ?_
        refine q_n ?_
        refine w_seq ?_
        refine w_seq ?_
        refine w_reg rfl ?_
        refine v_move rfl ?_
        refine v_len_sl lay40 rfl ?_
        refine v_move (c := .v (.int .i64 0)) rfl ?_
        refine v_nil ?_
        refine q_n ?_
        refine w_block ?_
        refine w_loop (fun k sl H => ∃ i : Nat, k = xs.length - i ∧ i ≤ xs.length ∧ sl = sls [(0, .c (tals false xs)), (1, .c (.f .f32 share)), (7, .c (.mu 0 0 i 1)), (8, .c (.f .f32 (fop .sub .f32 (fOf .f32 1065353216) share))), (28, .c (tals false xs)), (29, cI xs.length), (30, cI i)] ∧ H = [⟨flat fe ((List.range i).map (smN share xs)), 22, true⟩]) ?_ ?_
        · refine ⟨_, _, _, ?_, 0, rfl, Nat.zero_le _, rfl, rfl⟩
          exact turn [some 1] rfl rfl rfl ⟨⟨_, rfl, trc_flat fe_sc rfl⟩, trivial⟩ ⟨tr_sl, tr_f, tr_mu rfl, tr_f, tr_sl, tr_v, tr_v, trivial⟩
        · rintro k sl H ⟨i, rfl, hi, rfl, rfl⟩
          refine w_seq ?_
          refine w_reg rfl ?_
          refine v_lss lay3 rfl rfl (fun h4 => ?_) (fun h4 => ?_)
          · skip
            refine v_nil ?_
            refine q_n ?_
            refine w_seq ?_
            refine w_t rfl ?_
            refine w_skip ?_
            refine q_n ?_
            refine w_seq ?_
            refine w_block ?_
            refine w_seq ?_
            refine w_reg rfl ?_
            refine v_move rfl ?_
            refine v_idx (k := 3) te_len lay40 lay27 rfl rfl rfl (rfl) rfl (by omega) (fun q5 hq5 e5 => ?_)
            obtain rfl : i = q5 := by omega
            refine v_load_vw (.agg [.v _, .v _, .v _]) lay27 rfl rfl rfl ?_
            refine v_alloc (m := 1) (H' := [_, ⟨[.v _, .v _, .v _], 27, true⟩]) lay27 rfl rfl ?_
            refine v_assign rfl ?_
            refine v_store (H' := [_, ⟨[_, _, _], 27, true⟩]) lay27 rfl rfl rfl rfl rfl rfl ?_
            refine v_nil ?_
            refine q_n ?_
            refine w_seq ?_
            refine w_reg rfl ?_
            refine v_fa_pt (off' := 1) lay27 rfl rfl rfl ?_
            refine v_load_pt (.c _) lay23 rfl rfl rfl rfl ?_
            refine v_conv_if lay23 lay22 rfl ?_
            refine v_assign rfl ?_
            refine v_nil ?_
            refine q_n ?_
            refine w_seq ?_
            refine w_seq ?_
            refine w_reg rfl ?_
            refine v_move rfl ?_
            refine v_gtr lay3 rfl rfl (fun h6 => ?_) (fun h6 => ?_)
            · skip
              refine v_nil ?_
              refine q_n ?_
              refine w_t rfl ?_
              refine w_reg rfl ?_
              refine v_move rfl ?_
              refine v_move rfl ?_
              refine v_sub lay3 rfl rfl (i64r (by omega)) ?_
              refine v_idx_mu (k := 1) (off := 0) lay37 lay22 rfl rfl rfl (by omega) (fun q7 hq7 e7 => ?_)
              refine v_load_flat q7 0 (.c (.f _ _)) fe_len lay22 rfl rfl (by omega) (by simp; omega) rfl rfl ?_
              refine v_move rfl ?_
              refine v_bin (c := .f _ _) lay22 rfl rfl rfl ?_
              refine v_move rfl ?_
              refine v_move rfl ?_
              refine v_bin (c := .f _ _) lay22 rfl rfl rfl ?_
              refine v_bin (c := .f _ _) lay22 rfl rfl rfl ?_
              refine v_assign rfl ?_
              refine v_nil ?_
              refine q_n ?_
              refine w_reg rfl ?_
              refine v_move rfl ?_
              refine v_move rfl ?_
              refine v_lit (flat fe [_]) (H' := [_, _, _]) lay37 lay22 rfl rfl ⟨by decide, by decide⟩ rfl rfl ?_
              refine v_app_flat (H' := [_, _, _, _]) fe_sc fe_len lay37 lay22 rfl rfl (by simp) rfl rfl (by simp) rfl rfl (by unfold maxLen; simp only []; omega) rfl rfl ?_
              refine v_assign rfl ?_
              refine v_nil ?_
              refine q_bn ?_
              refine q_n ?_
              refine w_reg rfl ?_
              refine v_add lay3 rfl rfl (i64r (by omega)) ?_
              refine v_move rfl ?_
              refine v_nil ?_
              refine q_n ?_
              refine ⟨_, _, _, ?_, ⟨i + 1, rfl, by omega, rfl, rfl⟩, by omega⟩
              exact turn [some 3] rfl rfl rfl ⟨⟨_, rfl, trc_flat fe_sc (snoc_eq _ i (sm_next hq5 e7 _))⟩, trivial⟩ ⟨tr_sl, tr_f, tr_mu rfl, tr_f, tr_sl, tr_v, tr_v, trivial⟩
            · skip
              refine v_nil ?_
              refine q_n ?_
              refine w_f rfl ?_
              refine w_skip ?_
              refine q_n ?_
              refine w_reg rfl ?_
              refine v_move rfl ?_
              refine v_move rfl ?_
              refine v_lit (flat fe [_]) (H' := [_, _, _]) lay37 lay22 rfl rfl ⟨by decide, by decide⟩ rfl rfl ?_
              refine v_app_flat (H' := [_, _, _, _]) fe_sc fe_len lay37 lay22 rfl rfl (by simp) rfl rfl (by simp) rfl rfl (by unfold maxLen; simp only []; omega) rfl rfl ?_
              refine v_assign rfl ?_
              refine v_nil ?_
              refine q_bn ?_
              refine q_n ?_
              refine w_reg rfl ?_
              refine v_add lay3 rfl rfl (i64r (by omega)) ?_
              refine v_move rfl ?_
              refine v_nil ?_
              refine q_n ?_
              refine ⟨_, _, _, ?_, ⟨i + 1, rfl, by omega, rfl, rfl⟩, by omega⟩
              exact turn [some 3] rfl rfl rfl ⟨⟨_, rfl, trc_flat fe_sc (snoc_eq _ i (sm_first hq5 h6))⟩, trivial⟩ ⟨tr_sl, tr_f, tr_mu rfl, tr_f, tr_sl, tr_v, tr_v, trivial⟩
          · skip
            refine v_nil ?_
            refine q_n ?_
            refine w_seq ?_
            refine w_f rfl ?_
            refine w_exit ?_
            refine q_e ?_
            refine q_e ?_
            refine q_hit ?_
            refine q_n ?_
            refine w_seq ?_
            refine w_reg rfl ?_
            refine v_move rfl ?_
            refine v_assign rfl ?_
            refine v_assign (c := .v (.int .i64 0)) rfl ?_
            refine v_nil ?_
            refine q_n ?_
            refine w_ret ?_
            refine r_r rfl ?_
            obtain rfl : i = xs.length := by omega
            rw [sm_0 h1 h2]
            exact l_ans [some 0] rfl rfl ⟨⟨_, rfl, trc_flat fe_sc rfl⟩, trivial⟩ (a_tup (.cons (tr_mun rfl (by simp)) (.cons tr_v .nil)))
    · skip
      refine v_not true rfl rfl ?_
      refine v_call (c65 _ _) rfl rfl rfl (.cons vw_v (.cons vw_v .nil)) ?_
      refine v_lit (flat int [_, _]) (H' := [_]) lay118 lay2 rfl rfl ⟨by decide, by decide⟩ rfl rfl ?_
      refine v_call (c64 [_, _] (Nat.le_of_ble_eq_true rfl)) rfl rfl rfl (.cons (vw_mu2 int_sc int_len rfl (by simp)) .nil) ?_
      refine v_assign rfl ?_
      refine v_nil ?_
      refine q_n ?_
      refine w_seq ?_
      refine w_reg rfl ?_
      refine v_move rfl ?_
      refine v_neq lay2 rfl rfl (fun h8 => ?_) (fun h8 => ?_)
      · skip
        refine v_nil ?_
        refine q_n ?_
        refine w_t rfl ?_
        refine w_seq ?_
        refine w_reg rfl ?_
        refine v_move rfl ?_
        refine v_assign rfl ?_
        refine v_assign rfl ?_
        refine v_nil ?_
        refine q_n ?_
        refine w_ret (q_r ?_)
        refine r_r rfl ?_
        rw [sm_2 h1 h2]
        exact l_ans [none] rfl rfl ⟨rfl, trivial⟩ (a_tup (.cons (tr_nil rfl) (.cons tr_v .nil)))
      · skip
        exact absurd h8 (by decide)
  · skip
    refine v_not true rfl rfl ?_
    refine v_call (c65 _ _) rfl rfl rfl (.cons vw_v (.cons vw_v .nil)) ?_
    refine v_move rfl ?_
    refine v_callb (c73 _ (by assumption)) rfl rfl (.cons vw_f .nil) (fun h9 => ?_) (fun h9 => ?_)
    · skip
      refine v_not false rfl rfl ?_
      refine v_call (c65 _ _) rfl rfl rfl (.cons vw_v (.cons vw_v .nil)) ?_
      refine v_lit (flat int [_, _]) (H' := [_]) lay118 lay2 rfl rfl ⟨by decide, by decide⟩ rfl rfl ?_
      refine v_call (c64 [_, _] (Nat.le_of_ble_eq_true rfl)) rfl rfl rfl (.cons (vw_mu2 int_sc int_len rfl (by simp)) .nil) ?_
      refine v_assign rfl ?_
      refine v_nil ?_
      refine q_n ?_
      refine w_seq ?_
      refine w_reg rfl ?_
      refine v_move rfl ?_
      refine v_neq lay2 rfl rfl (fun h10 => ?_) (fun h10 => ?_)
      · skip
        refine v_nil ?_
        refine q_n ?_
        refine w_t rfl ?_
        refine w_seq ?_
        refine w_reg rfl ?_
        refine v_move rfl ?_
        refine v_assign rfl ?_
        refine v_assign rfl ?_
        refine v_nil ?_
        refine q_n ?_
        refine w_ret (q_r ?_)
        refine r_r rfl ?_
        rw [sm_1 h1]
        exact l_ans [none] rfl rfl ⟨rfl, trivial⟩ (a_tup (.cons (tr_nil rfl) (.cons tr_v .nil)))
      · skip
        exact absurd h10 (by decide)
    · skip
      refine v_not true rfl rfl ?_
      refine v_call (c65 _ _) rfl rfl rfl (.cons vw_v (.cons vw_v .nil)) ?_
      refine v_lit (flat int [_, _]) (H' := [_]) lay118 lay2 rfl rfl ⟨by decide, by decide⟩ rfl rfl ?_
      refine v_call (c64 [_, _] (Nat.le_of_ble_eq_true rfl)) rfl rfl rfl (.cons (vw_mu2 int_sc int_len rfl (by simp)) .nil) ?_
      refine v_assign rfl ?_
      refine v_nil ?_
      refine q_n ?_
      refine w_seq ?_
      refine w_reg rfl ?_
      refine v_move rfl ?_
      refine v_neq lay2 rfl rfl (fun h11 => ?_) (fun h11 => ?_)
      · skip
        refine v_nil ?_
        refine q_n ?_
        refine w_t rfl ?_
        refine w_seq ?_
        refine w_reg rfl ?_
        refine v_move rfl ?_
        refine v_assign rfl ?_
        refine v_assign rfl ?_
        refine v_nil ?_
        refine q_n ?_
        refine w_ret (q_r ?_)
        refine r_r rfl ?_
        rw [sm_1 h1]
        exact l_ans [none] rfl rfl ⟨rfl, trivial⟩ (a_tup (.cons (tr_nil rfl) (.cons tr_v .nil)))
      · skip
        exact absurd h11 (by decide)

theorem c23 (xs : List Tal) (share : Option Nat) (hx : xs.length ≤ 2 ^ 40) (hb : T16 xs) (hs : Sg share) : PureC X 23 [.c (tals false xs), .c (.f .f32 share)] (.tup [.c (flo true (smR xs share).1), cI (smR xs share).2]) :=
  (c23l xs share hx hb hs).pure (a_tup (.cons (a_flat fe_sc fe_len rfl rfl) (.cons tr_v .nil)))

theorem c24 (xs : List (Option Nat)) (hx : xs.length ≤ 2 ^ 40) (hok : ∀ x ∈ xs, okF .f32 x) : PureC X 24 [.c (flo false xs), .c (flo false xs)] (cB (decide True)) := by
  refine PureC.of_body (drawD_ok X) (fun _ _ => Go.Proofs.Try.call24 _ _) Go.Proofs.Try.func24 rfl (n := 29) rfl ?_
  refine w_seq ?_
  refine w_reg rfl ?_
  refine v_assign (c := .v (.bool false)) rfl ?_
  refine v_nil ?_
  refine q_n ?_
  refine w_seq ?_
  refine w_seq ?_
  refine w_reg rfl ?_
  refine v_move rfl ?_
  refine v_len_sl lay37 rfl ?_
  refine v_move rfl ?_
  refine v_len_sl lay37 rfl ?_
  refine v_neq lay3 rfl rfl (fun h1 => ?_) (fun h1 => ?_)
  · skip
    exact absurd rfl h1
  · skip
    refine v_nil ?_
    refine q_n ?_
    refine w_f rfl ?_
    refine w_skip ?_
    refine q_n ?_
    refine w_seq ?_
    refine w_seq ?_
    refine w_reg rfl ?_
    refine v_assign (c := .v (.int .i64 0)) rfl ?_
    refine v_nil ?_
    refine q_n ?_
    refine w_block ?_
    refine w_loop (fun k sl H => ∃ i : Nat, k = xs.length - i ∧ i ≤ xs.length ∧ sl = sls [(0, .c (flo false xs)), (1, .c (flo false xs)), (5, cI i)] ∧ H = []) ?_ ?_
    · refine ⟨_, _, _, ?_, 0, rfl, Nat.zero_le _, rfl, rfl⟩
      exact turn0 ⟨tr_sl, tr_sl, tr_v, trivial⟩
    · rintro k sl H ⟨i, rfl, hi, rfl, rfl⟩
      refine w_seq ?_
      refine w_seq ?_
      refine w_reg rfl ?_
      refine v_move rfl ?_
      refine v_move rfl ?_
      refine v_len_sl lay37 rfl ?_
      refine v_lss lay3 rfl rfl (fun h2 => ?_) (fun h2 => ?_)
      · skip
        refine v_nil ?_
        refine q_n ?_
        refine w_t rfl ?_
        refine w_skip ?_
        refine q_n ?_
        refine w_seq ?_
        refine w_block ?_
        refine w_seq ?_
        refine w_draw [0, 0, 3, 7, 15, 0, 0, 96, 224, 480, 1023, 2047] [⟨0, 0, []⟩, ⟨1, 0, []⟩, ⟨2, 0, []⟩, ⟨3, 0, []⟩, ⟨4, 0, []⟩, ⟨5, 0, []⟩, ⟨6, 0, []⟩, ⟨7, 0, []⟩, ⟨8, 0, []⟩, ⟨9, 0, []⟩, ⟨10, 0, []⟩, ⟨11, 0, []⟩] rfl rfl ?_
        refine d_q rfl rfl rfl rfl rfl ?_
        refine v_move rfl ?_
        refine v_nil ?_
        refine d_q rfl rfl rfl rfl rfl ?_
        refine v_move rfl ?_
        refine v_nil ?_
        refine d_q rfl rfl rfl rfl rfl ?_
        refine v_idx (k := 1) fe_len lay37 lay22 rfl rfl rfl (rfl) rfl (by omega) (fun q3 hq3 e3 => ?_)
        obtain rfl : i = q3 := by omega
        refine v_nil ?_
        refine d_q rfl rfl rfl rfl rfl ?_
        refine v_load_vw (.c (.f _ _)) lay22 rfl rfl rfl ?_
        refine v_nil ?_
        refine d_q rfl rfl rfl rfl rfl ?_
        refine v_conv_ff _ lay22 lay85 rfl (convF_single (hok _ (List.getElem_mem hq3))) ?_
        refine v_nil ?_
        refine d_q rfl rfl rfl rfl rfl ?_
        refine v_move rfl ?_
        refine v_nil ?_
        refine d_q rfl rfl rfl rfl rfl ?_
        refine v_move rfl ?_
        refine v_nil ?_
        refine d_q rfl rfl rfl rfl rfl ?_
        refine v_idx (k := 1) fe_len lay37 lay22 rfl rfl rfl (rfl) rfl (by omega) (fun q4 hq4 e4 => ?_)
        obtain rfl : i = q4 := by omega
        refine v_nil ?_
        refine d_q rfl rfl rfl rfl rfl ?_
        refine v_load_vw (.c (.f _ _)) lay22 rfl rfl rfl ?_
        refine v_nil ?_
        refine d_q rfl rfl rfl rfl rfl ?_
        refine v_conv_ff _ lay22 lay85 rfl (convF_single (hok _ (List.getElem_mem hq3))) ?_
        refine v_nil ?_
        refine d_callb (c69 _ (wide_ok (hok _ (List.getElem_mem hq3)))) rfl rfl rfl rfl (.cons vw_f (.cons vw_f .nil)) (fun h5 => ?_) (fun h5 => ?_)
        · skip
          refine d_q rfl rfl rfl rfl rfl ?_
          refine v_not false rfl rfl ?_
          refine v_nil ?_
          refine d_nil ?_
          refine q_n ?_
          refine w_f rfl ?_
          refine w_skip ?_
          refine q_bn ?_
          refine q_n ?_
          refine w_reg rfl ?_
          refine v_move rfl ?_
          refine v_add lay3 rfl rfl (i64r (by omega)) ?_
          refine v_assign rfl ?_
          refine v_nil ?_
          refine q_n ?_
          refine ⟨_, _, _, ?_, ⟨i + 1, rfl, by omega, rfl, rfl⟩, by omega⟩
          exact turn0 ⟨tr_sl, tr_sl, tr_v, trivial⟩
        · skip
          exact absurd trivial h5
      · skip
        refine v_nil ?_
        refine q_n ?_
        refine w_f rfl ?_
        refine w_exit ?_
        refine q_e ?_
        refine q_e ?_
        refine q_hit ?_
        refine q_n ?_
        refine w_seq ?_
        refine w_reg rfl ?_
        refine v_assign (c := .v (.bool true)) rfl ?_
        refine v_nil ?_
        refine q_n ?_
        refine w_ret ?_
        refine r_r rfl ?_
        exact a_b ⟨fun _ => trivial, fun _ => rfl⟩

theorem c27 (xs : List (Option Nat)) (a : Int) (hx : xs.length ≤ 2 ^ 40) (ha : 0 ≤ a ∧ a ≤ 2 ^ 20) : MarkC X 27 xs.length 1 22 (flat fe xs) (.int .i64 a) (.int .i64 (a + xs.length)) (flat fe ((List.range xs.length).map (fmark a))) := by
  refine MarkC.of_body (drawD_ok X) (fun _ _ => Go.Proofs.Try.call27 _ _) Go.Proofs.Try.func27 rfl (sc_flat fe_sc _) (q := 20) rfl ?_
  refine w_seq ?_
  refine w_reg rfl ?_
  refine v_assign (c := .v (.int .i64 0)) rfl ?_
  refine v_nil ?_
  refine q_n ?_
  refine w_seq ?_
  refine w_seq ?_
  refine w_reg rfl ?_
  refine v_assign (c := .v (.int .i64 0)) rfl ?_
  refine v_nil ?_
  refine q_n ?_
  refine w_block ?_
  refine w_loop (fun k sl H => ∃ i : Nat, k = xs.length - i ∧ i ≤ xs.length ∧ sl = sls [(0, .c (.mu 0 0 xs.length 1)), (1, cI (a + i)), (5, cI i)] ∧ H = [⟨flat fe (marks (fmark a) i xs), 22, true⟩]) ?_ ?_
  · refine ⟨_, _, _, ?_, 0, rfl, Nat.zero_le _, rfl, rfl⟩
    exact turn [some 0] rfl rfl rfl ⟨⟨_, rfl, trc_flat fe_sc rfl⟩, trivial⟩ ⟨tr_mu rfl, tr_i (by simp), tr_v, trivial⟩
  · rintro k sl H ⟨i, rfl, hi, rfl, rfl⟩
    refine w_seq ?_
    refine w_seq ?_
    refine w_reg rfl ?_
    refine v_move rfl ?_
    refine v_move rfl ?_
    refine v_len_mu lay37 rfl ?_
    refine v_lss lay3 rfl rfl (fun h1 => ?_) (fun h1 => ?_)
    · skip
      refine v_nil ?_
      refine q_n ?_
      refine w_t rfl ?_
      refine w_skip ?_
      refine q_n ?_
      refine w_seq ?_
      refine w_block ?_
      refine w_seq ?_
      refine w_reg rfl ?_
      refine v_move rfl ?_
      refine v_move rfl ?_
      refine v_move rfl ?_
      refine v_conv_if lay3 lay22 rfl ?_
      refine v_idx_mu (k := 1) (off := 0) lay37 lay22 rfl rfl rfl (by omega) (fun q2 hq2 e2 => ?_)
      obtain rfl : i = q2 := by omega
      refine v_store_flat (H' := [_]) i 0 (fl2 (a + i)) fe_len lay22 rfl rfl rfl (by omega) (by rw [marks_len (by omega)]; omega) rfl rfl (rfl) rfl ?_
      refine v_nil ?_
      refine q_n ?_
      refine w_reg rfl ?_
      refine v_move rfl ?_
      refine v_add lay3 rfl rfl (i64r (by omega)) ?_
      refine v_assign rfl ?_
      refine v_nil ?_
      refine q_bn ?_
      refine q_n ?_
      refine w_reg rfl ?_
      refine v_move rfl ?_
      refine v_add lay3 rfl rfl (i64r (by omega)) ?_
      refine v_assign rfl ?_
      refine v_nil ?_
      refine q_n ?_
      refine ⟨_, _, _, ?_, ⟨i + 1, rfl, by omega, rfl, rfl⟩, by omega⟩
      exact turn [some 0] rfl rfl rfl ⟨⟨_, rfl, trc_flat fe_sc (congrArg (flat fe) (marks_step (by omega)))⟩, trivial⟩ ⟨tr_mu rfl, tr_i (by push_cast; omega), tr_v, trivial⟩
    · skip
      refine v_nil ?_
      refine q_n ?_
      refine w_f rfl ?_
      refine w_exit ?_
      refine q_e ?_
      refine q_e ?_
      refine q_hit ?_
      refine q_n ?_
      refine w_seq ?_
      refine w_reg rfl ?_
      refine v_move rfl ?_
      refine v_assign rfl ?_
      refine v_nil ?_
      refine q_n ?_
      refine w_ret ?_
      refine r_r rfl ?_
      obtain rfl : i = xs.length := by omega
      exact ⟨rfl, [], by rw [← marks_all]⟩

theorem c26 (xs : List Tal) (a : Int) (hx : xs.length ≤ 2 ^ 40) (ha : 0 ≤ a ∧ a ≤ 2 ^ 20) : MarkC X 26 xs.length 3 27 (flat te xs) (.int .i64 a) (.int .i64 (a + 3 * xs.length)) (flat te ((List.range xs.length).map (tmark a))) := by
  refine MarkC.of_body (drawD_ok X) (fun _ _ => Go.Proofs.Try.call26 _ _) Go.Proofs.Try.func26 rfl (sc_flat te_sc _) (q := 36) rfl ?_
  refine w_seq ?_
  refine w_reg rfl ?_
  refine v_assign (c := .v (.int .i64 0)) rfl ?_
  refine v_nil ?_
  refine q_n ?_
  refine w_seq ?_
  refine w_seq ?_
  refine w_reg rfl ?_
  refine v_assign (c := .v (.int .i64 0)) rfl ?_
  refine v_nil ?_
  refine q_n ?_
  refine w_block ?_
  refine w_loop (fun k sl H => ∃ i : Nat, k = xs.length - i ∧ i ≤ xs.length ∧ sl = sls [(0, .c (.mu 0 0 xs.length 3)), (1, cI (a + 3 * i)), (5, cI i)] ∧ H = [⟨flat te (marks (tmark a) i xs), 27, true⟩]) ?_ ?_
  · refine ⟨_, _, _, ?_, 0, rfl, Nat.zero_le _, rfl, rfl⟩
    exact turn [some 0] rfl rfl rfl ⟨⟨_, rfl, trc_flat te_sc rfl⟩, trivial⟩ ⟨tr_mu rfl, tr_i (by simp), tr_v, trivial⟩
  · rintro k sl H ⟨i, rfl, hi, rfl, rfl⟩
    refine w_seq ?_
    refine w_seq ?_
    refine w_reg rfl ?_
    refine v_move rfl ?_
    refine v_move rfl ?_
    refine v_len_mu lay40 rfl ?_
    refine v_lss lay3 rfl rfl (fun h1 => ?_) (fun h1 => ?_)
    · skip
      refine v_nil ?_
      refine q_n ?_
      refine w_t rfl ?_
      refine w_skip ?_
      refine q_n ?_
      refine w_seq ?_
      refine w_block ?_
      refine w_seq ?_
      refine w_reg rfl ?_
      refine v_move rfl ?_
      refine v_move rfl ?_
      refine v_move rfl ?_
      refine v_idx_mu (k := 3) (off := 0) lay40 lay27 rfl rfl rfl (by omega) (fun q2 hq2 e2 => ?_)
      obtain rfl : i = q2 := by omega
      refine v_fa_pt (off' := _) lay27 rfl rfl rfl ?_
      refine v_store_flat (H' := [_]) i 0 (set1 _ _) te_len lay2 rfl rfl rfl (by omega) (by simp only [List.length_set, marks_len hi]; omega) rfl rfl (te1 _ _) rfl ?_
      refine v_nil ?_
      refine q_n ?_
      refine w_seq ?_
      refine w_reg rfl ?_
      refine v_move rfl ?_
      refine v_add lay3 rfl rfl (i64r (by omega)) ?_
      refine v_assign rfl ?_
      refine v_nil ?_
      refine q_n ?_
      refine w_seq ?_
      refine w_reg rfl ?_
      refine v_move rfl ?_
      refine v_move rfl ?_
      refine v_move rfl ?_
      refine v_conv_iw lay3 lay23 rfl ?_
      refine v_idx_mu (k := 3) (off := 0) lay40 lay27 rfl rfl rfl (by omega) (fun q3 hq3 e3 => ?_)
      obtain rfl : i = q3 := by omega
      refine v_fa_pt (off' := _) lay27 rfl rfl rfl ?_
      refine v_store_flat (H' := [_]) i 1 (set2 _ _) te_len lay23 rfl rfl rfl (by omega) (by simp only [List.length_set, marks_len hi]; omega) rfl rfl (te2 _ _) rfl ?_
      refine v_nil ?_
      refine q_n ?_
      refine w_seq ?_
      refine w_reg rfl ?_
      refine v_move rfl ?_
      refine v_add lay3 rfl rfl (i64r (by omega)) ?_
      refine v_assign rfl ?_
      refine v_nil ?_
      refine q_n ?_
      refine w_seq ?_
      refine w_reg rfl ?_
      refine v_move rfl ?_
      refine v_move rfl ?_
      refine v_move rfl ?_
      refine v_conv_iw lay3 lay23 rfl ?_
      refine v_idx_mu (k := 3) (off := 0) lay40 lay27 rfl rfl rfl (by omega) (fun q4 hq4 e4 => ?_)
      obtain rfl : i = q4 := by omega
      refine v_fa_pt (off' := _) lay27 rfl rfl rfl ?_
      refine v_store_flat (H' := [_]) i 2 (set3 _ _) te_len lay23 rfl rfl rfl (by omega) (by simp only [List.length_set, marks_len hi]; omega) rfl rfl (te3 _ _) rfl ?_
      refine v_nil ?_
      refine q_n ?_
      refine w_reg rfl ?_
      refine v_move rfl ?_
      refine v_add lay3 rfl rfl (i64r (by omega)) ?_
      refine v_assign rfl ?_
      refine v_nil ?_
      refine q_bn ?_
      refine q_n ?_
      refine w_reg rfl ?_
      refine v_move rfl ?_
      refine v_add lay3 rfl rfl (i64r (by omega)) ?_
      refine v_assign rfl ?_
      refine v_nil ?_
      refine q_n ?_
      refine ⟨_, _, _, ?_, ⟨i + 1, rfl, by omega, rfl, rfl⟩, by omega⟩
      exact turn [some 0] rfl rfl rfl ⟨⟨_, rfl, trc_flat te_sc (congrArg (flat te) (tmark_step (by omega) (by simp only [List.getElem_set_self]; rfl)))⟩, trivial⟩ ⟨tr_mu rfl, tr_i (by push_cast; omega), tr_v, trivial⟩
    · skip
      refine v_nil ?_
      refine q_n ?_
      refine w_f rfl ?_
      refine w_exit ?_
      refine q_e ?_
      refine q_e ?_
      refine q_hit ?_
      refine q_n ?_
      refine w_seq ?_
      refine w_reg rfl ?_
      refine v_move rfl ?_
      refine v_assign rfl ?_
      refine v_nil ?_
      refine q_n ?_
      refine w_ret ?_
      refine r_r rfl ?_
      obtain rfl : i = xs.length := by omega
      exact ⟨rfl, [], by rw [← marks_all]⟩

theorem c28 (n : Nat) (a : Int) (hx : n ≤ 2 ^ 40) (ha : 0 ≤ a ∧ a ≤ 2 ^ 20) : PureC X 28 [.c (.sl false n 1 (flat fe ((List.range n).map (fmark a)))), cI a] (cI (a + n)) := by
  refine PureC.of_body (drawD_ok X) (fun _ _ => Go.Proofs.Try.call28 _ _) Go.Proofs.Try.func28 rfl (n := 22) rfl ?_
  refine w_seq ?_
  refine w_reg rfl ?_
  refine v_assign (c := .v (.int .i64 0)) rfl ?_
  refine v_nil ?_
  refine q_n ?_
  refine w_seq ?_
  refine w_seq ?_
  refine w_reg rfl ?_
  refine v_assign (c := .v (.int .i64 0)) rfl ?_
  refine v_nil ?_
  refine q_n ?_
  refine w_block ?_
  refine w_loop (fun k sl H => ∃ i : Nat, k = n - i ∧ i ≤ n ∧ sl = sls [(0, .c (.sl false n 1 (flat fe ((List.range n).map (fmark a))))), (1, cI (a + i)), (5, cI i)] ∧ H = []) ?_ ?_
  · refine ⟨_, _, _, ?_, 0, rfl, Nat.zero_le _, rfl, rfl⟩
    exact turn0 ⟨tr_sl, tr_i (by simp), tr_v, trivial⟩
  · rintro k sl H ⟨i, rfl, hi, rfl, rfl⟩
    refine w_seq ?_
    refine w_seq ?_
    refine w_reg rfl ?_
    refine v_move rfl ?_
    refine v_move rfl ?_
    refine v_len_sl lay37 rfl ?_
    refine v_lss lay3 rfl rfl (fun h1 => ?_) (fun h1 => ?_)
    · skip
      refine v_nil ?_
      refine q_n ?_
      refine w_t rfl ?_
      refine w_skip ?_
      refine q_n ?_
      refine w_seq ?_
      refine w_block ?_
      refine w_seq ?_
      refine w_seq ?_
      refine w_reg rfl ?_
      refine v_move rfl ?_
      refine v_move rfl ?_
      refine v_idx (k := 1) fe_len lay37 lay22 rfl rfl rfl (by simp) rfl (by rw [List.length_map, List.length_range]; omega) (fun q2 hq2 e2 => ?_)
      obtain rfl : i = q2 := by omega
      refine v_load_vw (.c (.f _ _)) lay22 rfl rfl rfl ?_
      refine v_move rfl ?_
      refine v_conv_if lay3 lay22 rfl ?_
      refine v_binb lay22 rfl rfl rfl (fun h3 => ?_) (fun h3 => ?_)
      · skip
        exact absurd (h3.symm.trans (held_eq hq2)) (by decide)
      · skip
        refine v_nil ?_
        refine q_n ?_
        refine w_f rfl ?_
        refine w_skip ?_
        refine q_n ?_
        refine w_reg rfl ?_
        refine v_move rfl ?_
        refine v_add lay3 rfl rfl (i64r (by omega)) ?_
        refine v_assign rfl ?_
        refine v_nil ?_
        refine q_bn ?_
        refine q_n ?_
        refine w_reg rfl ?_
        refine v_move rfl ?_
        refine v_add lay3 rfl rfl (i64r (by omega)) ?_
        refine v_assign rfl ?_
        refine v_nil ?_
        refine q_n ?_
        refine ⟨_, _, _, ?_, ⟨i + 1, rfl, by omega, rfl, rfl⟩, by omega⟩
        exact turn0 ⟨tr_sl, tr_i (by push_cast; omega), tr_v, trivial⟩
    · skip
      refine v_nil ?_
      refine q_n ?_
      refine w_f rfl ?_
      refine w_exit ?_
      refine q_e ?_
      refine q_e ?_
      refine q_hit ?_
      refine q_n ?_
      refine w_seq ?_
      refine w_reg rfl ?_
      refine v_move rfl ?_
      refine v_assign rfl ?_
      refine v_nil ?_
      refine q_n ?_
      refine w_ret ?_
      refine r_r rfl ?_
      obtain rfl : i = n := by omega
      exact a_i rfl

theorem c4 (xs : List Tal) (share : Option Nat) (hx : xs.length ≤ maxLen) (hb : T16 xs) (hs : Sg share) : PureC X 4 [.c (tals false xs), .c (.f .f32 share)] (cB true) := by
  refine PureC.of_body (drawD_ok X) (fun _ _ => Go.Proofs.Try.call4 _ _) Go.Proofs.Try.func4 rfl (n := 101) rfl ?_
  refine w_seq ?_
  refine w_reg rfl ?_
  refine v_assign (c := .v (.bool false)) rfl ?_
  refine v_nil ?_
  refine q_n ?_
  refine w_seq ?_
  refine w_reg rfl ?_
  refine v_assign (c := .v (.int .i64 1048576)) rfl ?_
  refine v_nil ?_
  refine q_n ?_
  refine w_seq ?_
  refine w_reg rfl ?_
  refine v_move rfl ?_
  refine v_move rfl ?_
  refine v_call (c20 _ _ (by omega) (by assumption)) rfl rfl rfl (.cons vw_sl (.cons vw_v .nil)) ?_
  refine v_assign rfl ?_
  refine v_nil ?_
  refine q_n ?_
  refine w_seq ?_
  refine w_seq ?_
  refine w_reg rfl ?_
  refine v_move rfl ?_
  refine v_lss lay3 rfl rfl (fun h1 => ?_) (fun h1 => ?_)
  · skip
    refine v_nil ?_
    refine q_n ?_
    refine w_t rfl ?_
    refine w_seq ?_
    refine w_reg rfl ?_
    refine v_assign (c := .v (.bool true)) rfl ?_
    refine v_nil ?_
    refine q_n ?_
    refine w_ret (q_r ?_)
    refine r_r rfl ?_
    exact tr_v
  · skip
    have hs1 := szr_in h1
    have hln := sm_len xs share
    refine v_nil ?_
    refine q_n ?_
    refine w_f rfl ?_
    refine w_skip ?_
    refine q_n ?_
    refine w_seq ?_
    refine w_reg rfl ?_
    refine v_move rfl ?_
    refine v_call (c22 _ (by omega)) rfl rfl rfl (.cons vw_sl .nil) ?_
    refine v_move rfl ?_
    refine v_call (c21 _ _ (by omega)) rfl rfl rfl (.cons vw_sl (.cons vw_f .nil)) ?_
    refine v_move_t rfl ?_
    refine v_extract_c rfl rfl ?_
    refine v_extract_c rfl rfl ?_
    refine v_assign rfl ?_
    refine v_assign rfl ?_
    refine v_nil ?_
    refine q_n ?_
    refine w_seq ?_
    refine w_reg rfl ?_
    refine v_move rfl ?_
    refine v_live1 (N := 0) (H' := [_]) (c22l _ (by omega)) (sc_flat te_sc _) rfl rfl rfl rfl rfl rfl (.cons vw_sl .nil) ?_
    refine v_assign rfl ?_
    refine v_nil ?_
    refine q_n ?_
    refine w_seq ?_
    refine w_reg rfl ?_
    refine v_move rfl ?_
    refine v_move rfl ?_
    refine v_live1 (N := 1) (H' := [_, _]) (c23l _ _ (by omega) (by assumption) (by assumption)) (sc_flat fe_sc _) rfl rfl rfl rfl rfl rfl (.cons (vw_mu2 te_sc te_len rfl (by simp)) (.cons vw_f .nil)) ?_
    refine v_move_t rfl ?_
    refine v_extract_c rfl rfl ?_
    refine v_extract_c rfl rfl ?_
    refine v_assign rfl ?_
    refine v_assign rfl ?_
    refine v_nil ?_
    refine q_n ?_
    refine w_seq ?_
    refine w_seq ?_
    refine w_reg rfl ?_
    refine v_move rfl ?_
    refine v_move rfl ?_
    refine v_callb (c24 _ (by omega) (sm_ok _ _)) rfl rfl (.cons (vw_mu2 fe_sc fe_len rfl (by simp)) (.cons vw_sl .nil)) (fun h2 => ?_) (fun h2 => ?_)
    · skip
      refine v_not false rfl rfl ?_
      refine v_move rfl ?_
      refine v_guard_on rfl rfl ?_
      refine v_move rfl ?_
      refine v_guard_on rfl rfl ?_
      refine v_move rfl ?_
      refine v_guard_on rfl rfl ?_
      refine v_neq lay2 rfl rfl (fun h3 => ?_) (fun h3 => ?_)
      · skip
        exact absurd rfl h3
      · skip
        refine v_pick_f rfl rfl ?_
        refine v_nil ?_
        refine q_n ?_
        refine w_f rfl ?_
        refine w_skip ?_
        refine q_n ?_
        refine w_seq ?_
        refine w_seq ?_
        refine w_reg rfl ?_
        refine v_move rfl ?_
        refine v_move rfl ?_
        refine v_call (c22 _ (by omega)) rfl rfl rfl (.cons vw_sl .nil) ?_
        refine v_callb (c25 _ _ (by omega)) rfl rfl (.cons (vw_mu2 te_sc te_len rfl (by simp)) (.cons vw_sl .nil)) (fun h4 => ?_) (fun h4 => ?_)
        · skip
          refine v_not false rfl rfl ?_
          refine v_nil ?_
          refine q_n ?_
          refine w_f rfl ?_
          refine w_skip ?_
          refine q_n ?_
          refine w_seq ?_
          refine w_reg rfl ?_
          refine v_assign (c := .v (.int .i64 1)) rfl ?_
          refine v_nil ?_
          refine q_n ?_
          refine w_seq ?_
          refine w_reg rfl ?_
          refine v_move rfl ?_
          refine v_move rfl ?_
          refine v_mark (H' := [_, _]) (c26 _ _ (by omega) (by omega)) rfl (sc_flat te_sc _) (sc_flat te_sc _) rfl rfl rfl rfl ?_
          refine v_assign rfl ?_
          refine v_nil ?_
          refine q_n ?_
          refine w_seq ?_
          refine w_seq ?_
          refine w_reg rfl ?_
          refine v_move rfl ?_
          refine v_lss lay3 rfl rfl (fun h5 => ?_) (fun h5 => ?_)
          · skip
            exact absurd h5 (by omega)
          · skip
            refine v_move rfl ?_
            refine v_guard_on rfl rfl ?_
            refine v_move rfl ?_
            refine v_guard_on rfl rfl ?_
            refine v_move rfl ?_
            refine v_guard_on rfl rfl ?_
            refine v_callb (c24 _ (by omega) (sm_ok _ _)) rfl rfl (.cons (vw_mu2 fe_sc fe_len rfl (by simp)) (.cons vw_sl .nil)) (fun h6 => ?_) (fun h6 => ?_)
            · skip
              refine v_guard_on rfl rfl ?_
              refine v_not false rfl rfl ?_
              refine v_pick_f rfl rfl ?_
              refine v_move rfl ?_
              refine v_guard_on rfl rfl ?_
              refine v_move rfl ?_
              refine v_guard_on rfl rfl ?_
              refine v_move rfl ?_
              refine v_guard_on rfl rfl ?_
              refine v_neq lay2 rfl rfl (fun h7 => ?_) (fun h7 => ?_)
              · skip
                exact absurd rfl h7
              · skip
                refine v_pick_f rfl rfl ?_
                refine v_nil ?_
                refine q_n ?_
                refine w_f rfl ?_
                refine w_skip ?_
                refine q_n ?_
                refine w_seq ?_
                refine w_reg rfl ?_
                refine v_assign (c := .v (.int .i64 1)) rfl ?_
                refine v_nil ?_
                refine q_n ?_
                refine w_seq ?_
                refine w_reg rfl ?_
                refine v_move rfl ?_
                refine v_move rfl ?_
                refine v_mark (H' := [_, _]) (c27 _ _ (by omega) (by omega)) rfl (sc_flat fe_sc _) (sc_flat fe_sc _) rfl rfl rfl rfl ?_
                refine v_assign rfl ?_
                refine v_nil ?_
                refine q_n ?_
                refine w_seq ?_
                refine w_reg rfl ?_
                refine v_assign (c := .v (.int .i64 1)) rfl ?_
                refine v_nil ?_
                refine q_n ?_
                refine w_seq ?_
                refine w_reg rfl ?_
                refine v_move rfl ?_
                refine v_move rfl ?_
                refine v_call (c28 _ _ (by omega) (by omega)) rfl rfl rfl (.cons (vw_mu2 fe_sc fe_len rfl (by simp)) (.cons vw_v .nil)) ?_
                refine v_assign rfl ?_
                refine v_nil ?_
                refine q_n ?_
                refine w_seq ?_
                refine w_seq ?_
                refine w_reg rfl ?_
                refine v_move rfl ?_
                refine v_lss lay3 rfl rfl (fun h8 => ?_) (fun h8 => ?_)
                · skip
                  exact absurd h8 (by omega)
                · skip
                  refine v_nil ?_
                  refine q_n ?_
                  refine w_f rfl ?_
                  refine w_skip ?_
                  refine q_n ?_
                  refine w_seq ?_
                  refine w_seq ?_
                  refine w_reg rfl ?_
                  refine v_move rfl ?_
                  refine v_move rfl ?_
                  refine v_neq lay3 rfl rfl (fun h9 => ?_) (fun h9 => ?_)
                  · skip
                    exact absurd rfl h9
                  · skip
                    refine v_nil ?_
                    refine q_n ?_
                    refine w_f rfl ?_
                    refine w_skip ?_
                    refine q_n ?_
                    refine w_seq ?_
                    refine w_reg rfl ?_
                    refine v_move rfl ?_
                    refine v_call (c22 _ (by omega)) rfl rfl rfl (.cons vw_sl .nil) ?_
                    refine v_move rfl ?_
                    refine v_call (c23 _ _ (by omega) (by assumption) (by assumption)) rfl rfl rfl (.cons vw_sl (.cons vw_f .nil)) ?_
                    refine v_move_t rfl ?_
                    refine v_extract_c rfl rfl ?_
                    refine v_extract_c rfl rfl ?_
                    refine v_assign rfl ?_
                    refine v_assign rfl ?_
                    refine v_nil ?_
                    refine q_n ?_
                    refine w_seq ?_
                    refine w_seq ?_
                    refine w_reg rfl ?_
                    refine v_move rfl ?_
                    refine v_move rfl ?_
                    refine v_callb (c24 _ (by omega) (sm_ok _ _)) rfl rfl (.cons vw_sl (.cons vw_sl .nil)) (fun h10 => ?_) (fun h10 => ?_)
                    · skip
                      refine v_not false rfl rfl ?_
                      refine v_move rfl ?_
                      refine v_guard_on rfl rfl ?_
                      refine v_move rfl ?_
                      refine v_guard_on rfl rfl ?_
                      refine v_move rfl ?_
                      refine v_guard_on rfl rfl ?_
                      refine v_neq lay2 rfl rfl (fun h11 => ?_) (fun h11 => ?_)
                      · skip
                        exact absurd rfl h11
                      · skip
                        refine v_pick_f rfl rfl ?_
                        refine v_nil ?_
                        refine q_n ?_
                        refine w_f rfl ?_
                        refine w_skip ?_
                        refine q_n ?_
                        refine w_seq ?_
                        refine w_reg rfl ?_
                        refine v_assign (c := .v (.int .i64 1)) rfl ?_
                        refine v_nil ?_
                        refine q_n ?_
                        refine w_seq ?_
                        refine w_reg rfl ?_
                        refine v_move rfl ?_
                        refine v_move rfl ?_
                        refine v_call (c28 _ _ (by omega) (by omega)) rfl rfl rfl (.cons (vw_mu2 fe_sc fe_len rfl (by simp)) (.cons vw_v .nil)) ?_
                        refine v_assign rfl ?_
                        refine v_nil ?_
                        refine q_n ?_
                        refine w_seq ?_
                        refine w_seq ?_
                        refine w_reg rfl ?_
                        refine v_move rfl ?_
                        refine v_lss lay3 rfl rfl (fun h12 => ?_) (fun h12 => ?_)
                        · skip
                          exact absurd h12 (by omega)
                        · skip
                          refine v_nil ?_
                          refine q_n ?_
                          refine w_f rfl ?_
                          refine w_skip ?_
                          refine q_n ?_
                          refine w_seq ?_
                          refine w_seq ?_
                          refine w_reg rfl ?_
                          refine v_move rfl ?_
                          refine v_move rfl ?_
                          refine v_neq lay3 rfl rfl (fun h13 => ?_) (fun h13 => ?_)
                          · skip
                            exact absurd rfl h13
                          · skip
                            refine v_nil ?_
                            refine q_n ?_
                            refine w_f rfl ?_
                            refine w_skip ?_
                            refine q_n ?_
                            refine w_seq ?_
                            refine w_reg rfl ?_
                            refine v_assign (c := .v (.bool true)) rfl ?_
                            refine v_nil ?_
                            refine q_n ?_
                            refine w_ret ?_
                            refine r_r rfl ?_
                            exact tr_v
                    · skip
                      exact absurd trivial h10
            · skip
              exact absurd trivial h6
        · skip
          exact absurd rfl h4
    · skip
      exact absurd trivial h2
end Go.VL
