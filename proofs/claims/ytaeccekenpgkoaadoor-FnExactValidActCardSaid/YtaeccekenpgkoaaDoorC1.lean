/- Walks: what the functions behind the law come to, on data. -/
import Derived.Test.YtaeccekenpgkoaaDoorX0
import Derived.Test.YtaeccekenpgkoaaDoorV36
namespace Go.VL
open Go.RowKit
set_option maxRecDepth 20000
set_option maxHeartbeats 4000000
abbrev cI (a : Int) : V := .c (.v (.int .i64 a))
abbrev cB (b : Bool) : V := .c (.v (.bool b))
inductive TrVL (H : List Ob) (g : List (Option Nat)) : List V → List V → Prop
  | nil : TrVL H g [] []
  | cons {v v' : V} {vs vs' : List V} (h : TrV H g v v') (hs : TrVL H g vs vs') : TrVL H g (v :: vs) (v' :: vs')
theorem TrVL.spec {H : List Ob} {g : List (Option Nat)} {vs vs' : List V} (h : TrVL H g vs vs') : vs'.length = vs.length ∧ ∀ (j : Nat) (v v' : V), vs[j]? = some v → vs'[j]? = some v' → TrV H g v v' := by
  induction h with
  | nil => exact ⟨rfl, fun j c c' h => by simp at h⟩
  | cons h hs ih =>
    refine ⟨by simp [ih.1], fun j x x' hj hj' => ?_⟩
    cases j with
    | zero => simp at hj hj'; subst hj hj'; exact h
    | succ j => exact ih.2 j x x' (by simpa using hj) (by simpa using hj')
theorem a_tup {H : List Ob} {g : List (Option Nat)} {vs vs' : List V} (h : TrVL H g vs vs') : TrV H g (.tup vs) (.tup vs') := .tup h.spec.1 h.spec.2
theorem of_in {p : Prop} (h : p) : p := h
def int (a : Int) : List C := [.v (.int .i64 a)]
theorem int_len (a : Int) : (int a).length = 1 := rfl
theorem int_sc (a : Int) : (int a).all sc = true := rfl
theorem i64r {a : Int} (h : -9223372036854775808 ≤ a ∧ a ≤ 9223372036854775807) : IntKind.i64.min ≤ a ∧ a ≤ IntKind.i64.max := h
abbrev act (k a b c : Int) (x : Option Nat) : List C := [.v (.int .i64 k), .v (.int .i64 a), .v (.int .i64 b), .v (.int .i64 c), .f .f32 x]
def sts (s : ByteArray) : List C := [.v (.string s)]
theorem sts_len (a : ByteArray) : (sts a).length = 1 := rfl
theorem sts_sc (a : ByteArray) : (sts a).all sc = true := rfl
def bo (b : Bool) : List C := [.v (.bool b)]
theorem bo_len (a : Bool) : (bo a).length = 1 := rfl
theorem bo_sc (a : Bool) : (bo a).all sc = true := rfl
def wordL : List ByteArray := str [] :: formL.map (·.1)
def wholeL : List Int := [0, 1, 2, 2, 1, 3, 1]
def fracL : List Bool := [false, true, true, false, false, true, false]
/-- How many whole numbers a kind has, and whether it has a fraction. -/
abbrev wh (k : Int) : Int := wholeL.getD k.toNat default
abbrev fr (k : Int) : Bool := fracL.getD k.toNat default
theorem ix_at {α : Type} [Inhabited α] {xs : List α} {q : Nat} {k : Int} (hq : q < xs.length) (e : k = (q : Int)) : xs[q] = xs.getD k.toNat default := by
  subst e
  simp [hq]
theorem form_at : ∀ (q : Nat) (hq : q < 6), (formL[q]'hq).2.1 = wh (q + 1) ∧ (formL[q]'hq).2.2 = fr (q + 1) ∧ 1 ≤ wh (q + 1)
  | 0, _ => ⟨rfl, rfl, by decide⟩
  | 1, _ => ⟨rfl, rfl, by decide⟩
  | 2, _ => ⟨rfl, rfl, by decide⟩
  | 3, _ => ⟨rfl, rfl, by decide⟩
  | 4, _ => ⟨rfl, rfl, by decide⟩
  | 5, _ => ⟨rfl, rfl, by decide⟩
  | q + 6, h => absurd h (by omega)
theorem form_at2 {q : Nat} {k : Int} (hq : q < 6) (e : k - 1 = (q : Int)) : (formL[q]'hq).2.1 = wh k ∧ (formL[q]'hq).2.2 = fr k ∧ 1 ≤ wh k := by
  obtain rfl : k = (q : Int) + 1 := by omega
  exact form_at q hq
/-- An act that is valid. -/
def actOk (k a b c : Int) (x : Option Nat) : Prop :=
  (1 ≤ k ∧ k ≤ 6) ∧ (0 ≤ a ∧ a ≤ 999) ∧ (0 ≤ b ∧ b ≤ 999) ∧ (0 ≤ c ∧ c ≤ 999) ∧ fin x = true ∧ x ≠ some 2147483648 ∧ (1 < wh k ∨ b = 0) ∧ (2 < wh k ∨ c = 0) ∧ (fr k = true ∨ (ford .f32 x (fOf .f32 0) == some .eq) = true)
instance (k a b c : Int) (x : Option Nat) : Decidable (actOk k a b c x) := by unfold actOk; infer_instance
theorem neg_zero_bits {b : Nat} (hb : b < 2 ^ 32) {s : Bool} {m : Nat} {e : Int} (h : FloatKind.f32.format.read b = .number s m e) : b = 2147483648 ↔ s = true ∧ m = 0 := by
  unfold Ieee.Format.read at h
  have hs : (FloatKind.f32.format).signWeight = 2147483648 := by decide
  have hbn : (FloatKind.f32.format).binade = 8388608 := by decide
  have hi : (FloatKind.f32.format).infRung = 2139095040 := by decide
  simp only [hs, hbn, hi] at h
  split at h
  · simp only [Ieee.Datum.number.injEq] at h
    obtain ⟨h1, h2, -⟩ := h
    constructor
    · rintro rfl; simp at h1 h2; exact ⟨h1, h2.symm⟩
    · rintro ⟨rfl, rfl⟩
      have : b / 2147483648 % 2 = 1 := by simpa using h1
      omega
  · split at h
    · simp only [Ieee.Datum.number.injEq] at h
      constructor
      · rintro rfl; simp at *
      · rintro ⟨-, rfl⟩; omega
    · split at h <;> cases h
theorem neg_zero {b w : Nat} (hb : b < 2 ^ 32) (hw : convF .f32 .f64 (some b) = some (some w)) (h : fin (some b) = true) : ((ford .f32 (some b) (fOf .f32 0) == some .eq) = true ∧ IntKind.i64.wrap (w : Int) < 0) ↔ b = 2147483648 := by
  obtain ⟨s, m, e, hr⟩ := num_of_fin h
  rw [convF_wide hr] at hw
  simp only [Option.some.injEq] at hw
  subst hw
  obtain ⟨hm, he⟩ := read_single hr
  rw [wide_sign hm he, neg_zero_bits hb hr, order_zero hr]
  cases s <;> by_cases hm : m = 0 <;> simp [hm]
theorem c24 (b : Nat) : PureC X 24 [.c (.f .f64 (some b))] (.c (.v (.int .u64 b))) := pure_f64bits Go.Proofs.Tryd.func24 (by kernel_rfl) rfl (by kernel_rfl) (by kernel_rfl) b
theorem c22 (b : Nat) : PureC X 22 [.c (.f .f32 (some b))] (.c (.v (.int .u32 b))) := pure_f32bits Go.Proofs.Tryd.func22 (by kernel_rfl) rfl (by kernel_rfl) (by kernel_rfl) b
theorem trc_act {H : List Ob} {g : List (Option Nat)} {k a b c : Int} {x : Option Nat} : TrC H g (act k a b c x) (act k a b c x) := .cons tr_v (.cons tr_v (.cons tr_v (.cons tr_v (.cons tr_f .nil))))
theorem trc_form {H : List Ob} {g : List (Option Nat)} {f : ByteArray × Int × Bool} : TrC H g (fenc f) (fenc f) := .cons tr_v (.cons tr_v (.cons tr_v .nil))
theorem c12 (a lo hi : Int) : PureC X 12 [cI a, cI lo, cI hi] (cB (decide (lo ≤ a ∧ a ≤ hi))) := by
  refine PureC.of_body (drawD_ok X) (fun _ _ => Go.Proofs.Tryd.call12 _ _) Go.Proofs.Tryd.func12 rfl (n := 15) rfl ?_
  refine w_seq ?_
  refine w_reg rfl ?_
  refine v_assign (c := .v (.bool false)) rfl ?_
  refine v_nil ?_
  refine q_n ?_
  refine w_seq ?_
  refine w_reg rfl ?_
  refine v_move rfl ?_
  refine v_move rfl ?_
  refine v_leq lay2 rfl rfl (fun h1 => ?_) (fun h1 => ?_)
  · skip
    refine v_move rfl ?_
    refine v_guard_on rfl rfl ?_
    refine v_move rfl ?_
    refine v_guard_on rfl rfl ?_
    refine v_move rfl ?_
    refine v_guard_on rfl rfl ?_
    refine v_leq lay2 rfl rfl (fun h2 => ?_) (fun h2 => ?_)
    · skip
      refine v_pick_t rfl rfl ?_
      refine v_assign rfl ?_
      refine v_nil ?_
      refine q_n ?_
      refine w_ret ?_
      refine r_r rfl ?_
      exact a_b (by simp only [Bool.false_eq_true, false_iff, true_iff]; omega)
    · skip
      refine v_pick_t rfl rfl ?_
      refine v_assign rfl ?_
      refine v_nil ?_
      refine q_n ?_
      refine w_ret ?_
      refine r_r rfl ?_
      exact a_b (by simp only [Bool.false_eq_true, false_iff, true_iff]; omega)
  · skip
    refine v_move rfl ?_
    refine v_guard_off rfl rfl rfl ?_
    refine v_guard_off rfl rfl rfl ?_
    refine v_guard_off rfl rfl rfl ?_
    refine v_pick_f (v := .v (.bool false)) rfl rfl ?_
    refine v_assign rfl ?_
    refine v_nil ?_
    refine q_n ?_
    refine w_ret ?_
    refine r_r rfl ?_
    exact a_b (by simp only [Bool.false_eq_true, false_iff, true_iff]; omega)

theorem c20 (a lo hi : Int) : PureC X 20 [cI a, cI lo, cI hi] (cB (decide (lo ≤ a ∧ a ≤ hi))) := by
  refine PureC.of_body (drawD_ok X) (fun _ _ => Go.Proofs.Tryd.call20 _ _) Go.Proofs.Tryd.func20 rfl (n := 15) rfl ?_
  refine w_seq ?_
  refine w_reg rfl ?_
  refine v_assign (c := .v (.bool false)) rfl ?_
  refine v_nil ?_
  refine q_n ?_
  refine w_seq ?_
  refine w_reg rfl ?_
  refine v_move rfl ?_
  refine v_move rfl ?_
  refine v_geq lay2 rfl rfl (fun h1 => ?_) (fun h1 => ?_)
  · skip
    refine v_move rfl ?_
    refine v_guard_on rfl rfl ?_
    refine v_move rfl ?_
    refine v_guard_on rfl rfl ?_
    refine v_move rfl ?_
    refine v_guard_on rfl rfl ?_
    refine v_leq lay2 rfl rfl (fun h2 => ?_) (fun h2 => ?_)
    · skip
      refine v_pick_t rfl rfl ?_
      refine v_assign rfl ?_
      refine v_nil ?_
      refine q_n ?_
      refine w_ret ?_
      refine r_r rfl ?_
      exact a_b (by simp only [Bool.false_eq_true, false_iff, true_iff]; omega)
    · skip
      refine v_pick_t rfl rfl ?_
      refine v_assign rfl ?_
      refine v_nil ?_
      refine q_n ?_
      refine w_ret ?_
      refine r_r rfl ?_
      exact a_b (by simp only [Bool.false_eq_true, false_iff, true_iff]; omega)
  · skip
    refine v_move rfl ?_
    refine v_guard_off rfl rfl rfl ?_
    refine v_guard_off rfl rfl rfl ?_
    refine v_guard_off rfl rfl rfl ?_
    refine v_pick_f (v := .v (.bool false)) rfl rfl ?_
    refine v_assign rfl ?_
    refine v_nil ?_
    refine q_n ?_
    refine w_ret ?_
    refine r_r rfl ?_
    exact a_b (by simp only [Bool.false_eq_true, false_iff, true_iff]; omega)

theorem c13 (x : Option Nat) : PureC X 13 [.c (.f .f32 x)] (cB (decide (fin x = true))) := by
  refine PureC.of_body (drawD_ok X) (fun _ _ => Go.Proofs.Tryd.call13 _ _) Go.Proofs.Tryd.func13 rfl (n := 7) rfl ?_
  refine w_seq ?_
  refine w_reg rfl ?_
  refine v_assign (c := .v (.bool false)) rfl ?_
  refine v_nil ?_
  refine q_n ?_
  refine w_seq ?_
  refine w_reg rfl ?_
  refine v_move rfl ?_
  refine v_move rfl ?_
  refine v_bin (c := .f _ _) lay22 rfl rfl rfl ?_
  refine v_binb lay22 rfl rfl rfl (fun h1 => ?_) (fun h1 => ?_)
  · skip
    refine v_assign rfl ?_
    refine v_nil ?_
    refine q_n ?_
    refine w_ret ?_
    refine r_r rfl ?_
    exact a_b ⟨fun _ => h1, fun _ => rfl⟩
  · skip
    refine v_assign rfl ?_
    refine v_nil ?_
    refine q_n ?_
    refine w_ret ?_
    refine r_r rfl ?_
    exact a_b ⟨fun h => (by cases h), fun h => absurd (h1.symm.trans h) (by simp)⟩

theorem c21 (x : Option Nat) : PureC X 21 [.c (.f .f32 x)] (cB (decide (fin x = true))) := by
  refine PureC.of_body (drawD_ok X) (fun _ _ => Go.Proofs.Tryd.call21 _ _) Go.Proofs.Tryd.func21 rfl (n := 7) rfl ?_
  refine w_seq ?_
  refine w_reg rfl ?_
  refine v_assign (c := .v (.bool false)) rfl ?_
  refine v_nil ?_
  refine q_n ?_
  refine w_seq ?_
  refine w_reg rfl ?_
  refine v_move rfl ?_
  refine v_move rfl ?_
  refine v_bin (c := .f _ _) lay22 rfl rfl rfl ?_
  refine v_binb lay22 rfl rfl rfl (fun h1 => ?_) (fun h1 => ?_)
  · skip
    refine v_assign rfl ?_
    refine v_nil ?_
    refine q_n ?_
    refine w_ret ?_
    refine r_r rfl ?_
    exact a_b ⟨fun _ => h1, fun _ => rfl⟩
  · skip
    refine v_assign rfl ?_
    refine v_nil ?_
    refine q_n ?_
    refine w_ret ?_
    refine r_r rfl ?_
    exact a_b ⟨fun h => (by cases h), fun h => absurd (h1.symm.trans h) (by simp)⟩

theorem c14 (b : Nat) : PureC X 14 [.c (.f .f64 (some b))] (cB (decide (IntKind.i64.wrap (b : Int) < 0))) := by
  refine PureC.of_body (drawD_ok X) (fun _ _ => Go.Proofs.Tryd.call14 _ _) Go.Proofs.Tryd.func14 rfl (n := 7) rfl ?_
  refine w_seq ?_
  refine w_reg rfl ?_
  refine v_assign (c := .v (.bool false)) rfl ?_
  refine v_nil ?_
  refine q_n ?_
  refine w_seq ?_
  refine w_reg rfl ?_
  refine v_move rfl ?_
  refine v_call (c24 _) rfl rfl rfl (.cons vw_f .nil) ?_
  refine v_conv_iw lay57 lay2 rfl ?_
  refine v_lss lay2 rfl rfl (fun h1 => ?_) (fun h1 => ?_)
  · skip
    refine v_assign rfl ?_
    refine v_nil ?_
    refine q_n ?_
    refine w_ret ?_
    refine r_r rfl ?_
    exact a_b (by simp_all)
  · skip
    refine v_assign rfl ?_
    refine v_nil ?_
    refine q_n ?_
    refine w_ret ?_
    refine r_r rfl ?_
    exact a_b (by simp_all)

theorem c6 (k a b c : Int) (x : Option Nat) : PureC X 6 [.agg (act k a b c x)] (.agg (act k a b c x)) := by
  refine PureC.of_body (drawD_ok X) (fun _ _ => Go.Proofs.Tryd.call6 _ _) Go.Proofs.Tryd.func6 rfl (n := 20) rfl ?_
  refine w_seq ?_
  refine w_reg rfl ?_
  refine v_box (m := 0) (H' := [_]) lay24 rfl rfl rfl ?_
  refine v_alloc (m := 1) (H' := [_, ⟨[.v _, .v _, .v _, .v _, .f _ _], 26, true⟩]) lay26 rfl rfl ?_
  refine v_nil ?_
  refine q_n ?_
  refine w_seq ?_
  refine w_reg rfl ?_
  refine v_alloc (m := 2) (H' := [_, _, ⟨[.v _, .v _, .v _, .v _, .f _ _], 26, true⟩]) lay26 rfl rfl ?_
  refine v_nil ?_
  refine q_n ?_
  refine w_seq ?_
  refine w_reg rfl ?_
  refine v_fa_pt (off' := 0) lay24 rfl rfl rfl ?_
  refine v_load_pt (.c _) lay2 rfl rfl rfl rfl ?_
  refine v_fa_pt (off' := 0) lay26 rfl rfl rfl ?_
  refine v_store (H' := [_, _, ⟨[_, _, _, _, _], 26, true⟩]) lay2 rfl rfl rfl rfl rfl rfl ?_
  refine v_nil ?_
  refine q_n ?_
  refine w_seq ?_
  refine w_reg rfl ?_
  refine v_fa_pt (off' := 1) lay24 rfl rfl rfl ?_
  refine v_load_pt (.c _) lay2 rfl rfl rfl rfl ?_
  refine v_fa_pt (off' := 1) lay26 rfl rfl rfl ?_
  refine v_store (H' := [_, _, ⟨[_, _, _, _, _], 26, true⟩]) lay2 rfl rfl rfl rfl rfl rfl ?_
  refine v_nil ?_
  refine q_n ?_
  refine w_seq ?_
  refine w_reg rfl ?_
  refine v_fa_pt (off' := 2) lay24 rfl rfl rfl ?_
  refine v_load_pt (.c _) lay2 rfl rfl rfl rfl ?_
  refine v_fa_pt (off' := 2) lay26 rfl rfl rfl ?_
  refine v_store (H' := [_, _, ⟨[_, _, _, _, _], 26, true⟩]) lay2 rfl rfl rfl rfl rfl rfl ?_
  refine v_nil ?_
  refine q_n ?_
  refine w_seq ?_
  refine w_reg rfl ?_
  refine v_fa_pt (off' := 3) lay24 rfl rfl rfl ?_
  refine v_load_pt (.c _) lay2 rfl rfl rfl rfl ?_
  refine v_fa_pt (off' := 3) lay26 rfl rfl rfl ?_
  refine v_store (H' := [_, _, ⟨[_, _, _, _, _], 26, true⟩]) lay2 rfl rfl rfl rfl rfl rfl ?_
  refine v_nil ?_
  refine q_n ?_
  refine w_seq ?_
  refine w_reg rfl ?_
  refine v_fa_pt (off' := 4) lay24 rfl rfl rfl ?_
  refine v_load_pt (.c _) lay22 rfl rfl rfl rfl ?_
  refine v_fa_pt (off' := 4) lay26 rfl rfl rfl ?_
  refine v_store (H' := [_, _, ⟨[_, _, _, _, _], 26, true⟩]) lay22 rfl rfl rfl rfl rfl rfl ?_
  refine v_nil ?_
  refine q_n ?_
  refine w_seq ?_
  refine w_reg rfl ?_
  refine v_load_pt (.agg [_, _, _, _, _]) lay26 rfl rfl rfl rfl ?_
  refine v_store (H' := [_, ⟨[_, _, _, _, _], 26, true⟩, _]) lay26 rfl rfl rfl rfl rfl rfl ?_
  refine v_nil ?_
  refine q_n ?_
  refine w_ret ?_
  refine r_r rfl ?_
  exact a_agg (.cons tr_v (.cons tr_v (.cons tr_v (.cons tr_v (.cons tr_f .nil)))))

theorem c23 : PureC X 23 [] (.tup [.c (.sl true 7 1 (flat sts wordL)), .c (.sl true 7 1 (flat int wholeL)), .c (.sl true 7 1 (flat bo fracL))]) := by
  refine PureC.of_body (drawD_ok X) (fun _ _ => Go.Proofs.Tryd.call23 _ _) Go.Proofs.Tryd.func23 rfl (n := 6) rfl ?_
  refine w_seq ?_
  refine w_reg rfl ?_
  refine v_assign rfl ?_
  refine v_assign rfl ?_
  refine v_assign rfl ?_
  refine v_nil ?_
  refine q_n ?_
  refine w_seq ?_
  refine w_reg rfl ?_
  refine v_lit (flat sts [_, _, _, _, _, _, _]) (H' := [_]) lay46 lay9 rfl rfl ⟨by decide, by decide⟩ rfl rfl ?_
  refine v_lit (flat int [_, _, _, _, _, _, _]) (H' := [_, _]) lay47 lay3 rfl rfl ⟨by decide, by decide⟩ rfl rfl ?_
  refine v_lit (flat bo [_, _, _, _, _, _, _]) (H' := [_, _, _]) lay54 lay4 rfl rfl ⟨by decide, by decide⟩ rfl rfl ?_
  refine v_assign rfl ?_
  refine v_assign rfl ?_
  refine v_assign rfl ?_
  refine v_nil ?_
  refine q_n ?_
  refine w_ret ?_
  refine r_r rfl ?_
  exact a_tup (.cons (a_flat (xs := wordL) sts_sc sts_len rfl rfl) (.cons (a_flat (xs := wholeL) int_sc int_len rfl rfl) (.cons (a_flat (xs := fracL) bo_sc bo_len rfl rfl) .nil)))

theorem c11s (kd a b c : Int) (x : Nat) : PureC X 11 [.c (.vw false (act kd a b c (some x)) 0)] (cB (decide (actOk kd a b c (some x)))) := by
  refine PureC.of_body (drawD_ok X) (fun _ _ => Go.Proofs.Tryd.call11 _ _) Go.Proofs.Tryd.func11 rfl (n := 105) rfl ?_
  refine w_seq ?_
  refine w_reg rfl ?_
  refine v_assign (c := .v (.bool false)) rfl ?_
  refine v_nil ?_
  refine q_n ?_
  refine w_seq ?_
  refine w_seq ?_
  refine w_reg rfl ?_
  refine v_move rfl ?_
  refine v_nil_vw rfl ?_
  refine v_fa_vw (off' := 0) lay26 rfl rfl rfl ?_
  refine v_load_vw (.c (.v _)) lay2 rfl rfl rfl ?_
  refine v_callb (c20 _ _ _) rfl rfl (.cons vw_v (.cons vw_v (.cons vw_v .nil))) (fun h1 => ?_) (fun h1 => ?_)
  · skip
    refine v_not false rfl rfl ?_
    refine v_move rfl ?_
    refine v_guard_on rfl rfl ?_
    refine v_move rfl ?_
    refine v_guard_on rfl rfl ?_
    refine v_nil_vw rfl ?_
    refine v_guard_on rfl rfl ?_
    refine v_fa_vw (off' := 1) lay26 rfl rfl rfl ?_
    refine v_guard_on rfl rfl ?_
    refine v_load_vw (.c (.v _)) lay2 rfl rfl rfl ?_
    refine v_guard_on rfl rfl ?_
    refine v_callb (c20 _ _ _) rfl rfl (.cons vw_v (.cons vw_v (.cons vw_v .nil))) (fun h2 => ?_) (fun h2 => ?_)
    · skip
      refine v_guard_on rfl rfl ?_
      refine v_not false rfl rfl ?_
      refine v_pick_f rfl rfl ?_
      refine v_move rfl ?_
      refine v_guard_on rfl rfl ?_
      refine v_move rfl ?_
      refine v_guard_on rfl rfl ?_
      refine v_nil_vw rfl ?_
      refine v_guard_on rfl rfl ?_
      refine v_fa_vw (off' := 2) lay26 rfl rfl rfl ?_
      refine v_guard_on rfl rfl ?_
      refine v_load_vw (.c (.v _)) lay2 rfl rfl rfl ?_
      refine v_guard_on rfl rfl ?_
      refine v_callb (c20 _ _ _) rfl rfl (.cons vw_v (.cons vw_v (.cons vw_v .nil))) (fun h3 => ?_) (fun h3 => ?_)
      · skip
        refine v_guard_on rfl rfl ?_
        refine v_not false rfl rfl ?_
        refine v_pick_f rfl rfl ?_
        refine v_move rfl ?_
        refine v_guard_on rfl rfl ?_
        refine v_move rfl ?_
        refine v_guard_on rfl rfl ?_
        refine v_nil_vw rfl ?_
        refine v_guard_on rfl rfl ?_
        refine v_fa_vw (off' := 3) lay26 rfl rfl rfl ?_
        refine v_guard_on rfl rfl ?_
        refine v_load_vw (.c (.v _)) lay2 rfl rfl rfl ?_
        refine v_guard_on rfl rfl ?_
        refine v_callb (c20 _ _ _) rfl rfl (.cons vw_v (.cons vw_v (.cons vw_v .nil))) (fun h4 => ?_) (fun h4 => ?_)
        · skip
          refine v_guard_on rfl rfl ?_
          refine v_not false rfl rfl ?_
          refine v_pick_f rfl rfl ?_
          refine v_move rfl ?_
          refine v_guard_on rfl rfl ?_
          refine v_move rfl ?_
          refine v_guard_on rfl rfl ?_
          refine v_nil_vw rfl ?_
          refine v_guard_on rfl rfl ?_
          refine v_fa_vw (off' := 4) lay26 rfl rfl rfl ?_
          refine v_guard_on rfl rfl ?_
          refine v_load_vw (.c (.f _ _)) lay22 rfl rfl rfl ?_
          refine v_guard_on rfl rfl ?_
          refine v_callb (c21 _) rfl rfl (.cons vw_f .nil) (fun h5 => ?_) (fun h5 => ?_)
          · skip
            refine v_guard_on rfl rfl ?_
            refine v_not false rfl rfl ?_
            refine v_pick_f rfl rfl ?_
            refine v_move rfl ?_
            refine v_guard_on rfl rfl ?_
            refine v_move rfl ?_
            refine v_guard_on rfl rfl ?_
            refine v_nil_vw rfl ?_
            refine v_guard_on rfl rfl ?_
            refine v_fa_vw (off' := 4) lay26 rfl rfl rfl ?_
            refine v_guard_on rfl rfl ?_
            refine v_load_vw (.c (.f _ _)) lay22 rfl rfl rfl ?_
            refine v_guard_on rfl rfl ?_
            refine v_call (c22 _) rfl rfl rfl (.cons vw_f .nil) ?_
            refine v_guard_on rfl rfl ?_
            refine v_eql lay52 rfl rfl (fun h6 => ?_) (fun h6 => ?_)
            · skip
              refine v_pick_f rfl rfl ?_
              refine v_nil ?_
              refine q_n ?_
              refine w_t rfl ?_
              refine w_seq ?_
              refine w_reg rfl ?_
              refine v_assign (c := .v (.bool false)) rfl ?_
              refine v_nil ?_
              refine q_n ?_
              refine w_ret (q_r ?_)
              refine r_r rfl ?_
              exact a_b (by unfold actOk; grind)
            · skip
              refine v_pick_f rfl rfl ?_
              refine v_nil ?_
              refine q_n ?_
              refine w_f rfl ?_
              refine w_skip ?_
              refine q_n ?_
              refine w_seq ?_
              refine w_reg rfl ?_
              refine v_call (c23) rfl rfl rfl .nil ?_
              refine v_move_t rfl ?_
              refine v_extract_c rfl rfl ?_
              refine v_extract_c rfl rfl ?_
              refine v_extract_c rfl rfl ?_
              refine v_assign rfl ?_
              refine v_assign rfl ?_
              refine v_assign rfl ?_
              refine v_nil ?_
              refine q_n ?_
              refine w_seq ?_
              refine w_reg rfl ?_
              refine v_move rfl ?_
              refine v_move rfl ?_
              refine v_nil_vw rfl ?_
              refine v_fa_vw (off' := 0) lay26 rfl rfl rfl ?_
              refine v_load_vw (.c (.v _)) lay2 rfl rfl rfl ?_
              refine v_idx (k := 1) int_len lay47 lay3 rfl rfl rfl (rfl) rfl (by show 0 ≤ kd ∧ kd < 7; omega) (fun q7 hq7 e7 => ?_)
              have w7 := ix_at hq7 e7
              refine v_load_vw (.c (.v _)) lay3 rfl rfl rfl ?_
              refine v_gtr lay3 rfl rfl (fun h8 => ?_) (fun h8 => ?_)
              · skip
                refine v_move rfl ?_
                refine v_guard_off rfl rfl rfl ?_
                refine v_guard_off rfl rfl rfl ?_
                refine v_guard_off rfl rfl rfl ?_
                refine v_guard_off rfl rfl rfl ?_
                refine v_guard_off rfl rfl rfl ?_
                refine v_pick_t (v := .v (.bool true)) rfl rfl ?_
                refine v_move rfl ?_
                refine v_guard_on rfl rfl ?_
                refine v_move rfl ?_
                refine v_guard_on rfl rfl ?_
                refine v_move rfl ?_
                refine v_guard_on rfl rfl ?_
                refine v_nil_vw rfl ?_
                refine v_guard_on rfl rfl ?_
                refine v_fa_vw (off' := 0) lay26 rfl rfl rfl ?_
                refine v_guard_on rfl rfl ?_
                refine v_load_vw (.c (.v _)) lay2 rfl rfl rfl ?_
                refine v_guard_on rfl rfl ?_
                refine v_idx (k := 1) int_len lay47 lay3 rfl rfl rfl (rfl) rfl (by show 0 ≤ kd ∧ kd < 7; omega) (fun q9 hq9 e9 => ?_)
                have w9 := ix_at hq9 e9
                refine v_guard_on rfl rfl ?_
                refine v_load_vw (.c (.v _)) lay3 rfl rfl rfl ?_
                refine v_guard_on rfl rfl ?_
                refine v_gtr lay3 rfl rfl (fun h10 => ?_) (fun h10 => ?_)
                · skip
                  refine v_guard_on rfl rfl ?_
                  refine v_move rfl ?_
                  refine v_guard_off rfl rfl rfl ?_
                  refine v_guard_off rfl rfl rfl ?_
                  refine v_guard_off rfl rfl rfl ?_
                  refine v_guard_off rfl rfl rfl ?_
                  refine v_guard_off rfl rfl rfl ?_
                  refine v_guard_on rfl rfl ?_
                  refine v_pick_t (v := .v (.bool true)) rfl rfl ?_
                  refine v_pick_t rfl rfl ?_
                  refine v_move rfl ?_
                  refine v_guard_on rfl rfl ?_
                  refine v_move rfl ?_
                  refine v_guard_on rfl rfl ?_
                  refine v_move rfl ?_
                  refine v_guard_on rfl rfl ?_
                  refine v_nil_vw rfl ?_
                  refine v_guard_on rfl rfl ?_
                  refine v_fa_vw (off' := 0) lay26 rfl rfl rfl ?_
                  refine v_guard_on rfl rfl ?_
                  refine v_load_vw (.c (.v _)) lay2 rfl rfl rfl ?_
                  refine v_guard_on rfl rfl ?_
                  refine v_idx (k := 1) bo_len lay54 lay4 rfl rfl rfl (rfl) rfl (by show 0 ≤ kd ∧ kd < 7; omega) (fun q11 hq11 e11 => ?_)
                  have w11 := ix_at hq11 e11
                  refine v_guard_on rfl rfl ?_
                  refine v_load_vwb lay4 rfl rfl rfl (fun h12 => ?_) (fun h12 => ?_)
                  · skip
                    refine v_guard_on rfl rfl ?_
                    refine v_move rfl ?_
                    refine v_guard_off rfl rfl rfl ?_
                    refine v_guard_off rfl rfl rfl ?_
                    refine v_guard_off rfl rfl rfl ?_
                    refine v_guard_off rfl rfl rfl ?_
                    refine v_guard_off rfl rfl rfl ?_
                    refine v_guard_on rfl rfl ?_
                    refine v_pick_t (v := .v (.bool true)) rfl rfl ?_
                    refine v_pick_t rfl rfl ?_
                    refine v_assign rfl ?_
                    refine v_nil ?_
                    refine q_n ?_
                    refine w_ret ?_
                    refine r_r rfl ?_
                    exact a_b (by unfold actOk; grind)
                  · skip
                    refine v_guard_on rfl rfl ?_
                    refine v_move rfl ?_
                    refine v_guard_on rfl rfl ?_
                    refine v_move rfl ?_
                    refine v_guard_on rfl rfl ?_
                    refine v_nil_vw rfl ?_
                    refine v_guard_on rfl rfl ?_
                    refine v_fa_vw (off' := 4) lay26 rfl rfl rfl ?_
                    refine v_guard_on rfl rfl ?_
                    refine v_load_vw (.c (.f _ _)) lay22 rfl rfl rfl ?_
                    refine v_guard_on rfl rfl ?_
                    refine v_binb lay22 rfl rfl rfl (fun h13 => ?_) (fun h13 => ?_)
                    · skip
                      have g13 : (ford .f32 (some x) (fOf .f32 0) == some .eq) = true := h13
                      refine v_guard_on rfl rfl ?_
                      refine v_pick_f rfl rfl ?_
                      refine v_pick_t rfl rfl ?_
                      refine v_assign rfl ?_
                      refine v_nil ?_
                      refine q_n ?_
                      refine w_ret ?_
                      refine r_r rfl ?_
                      exact a_b (by unfold actOk; grind)
                    · skip
                      have g13 : (ford .f32 (some x) (fOf .f32 0) == some .eq) = false := h13
                      refine v_guard_on rfl rfl ?_
                      refine v_pick_f rfl rfl ?_
                      refine v_pick_t rfl rfl ?_
                      refine v_assign rfl ?_
                      refine v_nil ?_
                      refine q_n ?_
                      refine w_ret ?_
                      refine r_r rfl ?_
                      exact a_b (by unfold actOk; grind)
                · skip
                  refine v_guard_on rfl rfl ?_
                  refine v_move rfl ?_
                  refine v_guard_on rfl rfl ?_
                  refine v_move rfl ?_
                  refine v_guard_on rfl rfl ?_
                  refine v_nil_vw rfl ?_
                  refine v_guard_on rfl rfl ?_
                  refine v_fa_vw (off' := 3) lay26 rfl rfl rfl ?_
                  refine v_guard_on rfl rfl ?_
                  refine v_load_vw (.c (.v _)) lay2 rfl rfl rfl ?_
                  refine v_guard_on rfl rfl ?_
                  refine v_eql lay2 rfl rfl (fun h14 => ?_) (fun h14 => ?_)
                  · skip
                    refine v_guard_on rfl rfl ?_
                    refine v_pick_f rfl rfl ?_
                    refine v_pick_t rfl rfl ?_
                    refine v_move rfl ?_
                    refine v_guard_on rfl rfl ?_
                    refine v_move rfl ?_
                    refine v_guard_on rfl rfl ?_
                    refine v_move rfl ?_
                    refine v_guard_on rfl rfl ?_
                    refine v_nil_vw rfl ?_
                    refine v_guard_on rfl rfl ?_
                    refine v_fa_vw (off' := 0) lay26 rfl rfl rfl ?_
                    refine v_guard_on rfl rfl ?_
                    refine v_load_vw (.c (.v _)) lay2 rfl rfl rfl ?_
                    refine v_guard_on rfl rfl ?_
                    refine v_idx (k := 1) bo_len lay54 lay4 rfl rfl rfl (rfl) rfl (by show 0 ≤ kd ∧ kd < 7; omega) (fun q15 hq15 e15 => ?_)
                    have w15 := ix_at hq15 e15
                    refine v_guard_on rfl rfl ?_
                    refine v_load_vwb lay4 rfl rfl rfl (fun h16 => ?_) (fun h16 => ?_)
                    · skip
                      refine v_guard_on rfl rfl ?_
                      refine v_move rfl ?_
                      refine v_guard_off rfl rfl rfl ?_
                      refine v_guard_off rfl rfl rfl ?_
                      refine v_guard_off rfl rfl rfl ?_
                      refine v_guard_off rfl rfl rfl ?_
                      refine v_guard_off rfl rfl rfl ?_
                      refine v_guard_on rfl rfl ?_
                      refine v_pick_t (v := .v (.bool true)) rfl rfl ?_
                      refine v_pick_t rfl rfl ?_
                      refine v_assign rfl ?_
                      refine v_nil ?_
                      refine q_n ?_
                      refine w_ret ?_
                      refine r_r rfl ?_
                      exact a_b (by unfold actOk; grind)
                    · skip
                      refine v_guard_on rfl rfl ?_
                      refine v_move rfl ?_
                      refine v_guard_on rfl rfl ?_
                      refine v_move rfl ?_
                      refine v_guard_on rfl rfl ?_
                      refine v_nil_vw rfl ?_
                      refine v_guard_on rfl rfl ?_
                      refine v_fa_vw (off' := 4) lay26 rfl rfl rfl ?_
                      refine v_guard_on rfl rfl ?_
                      refine v_load_vw (.c (.f _ _)) lay22 rfl rfl rfl ?_
                      refine v_guard_on rfl rfl ?_
                      refine v_binb lay22 rfl rfl rfl (fun h17 => ?_) (fun h17 => ?_)
                      · skip
                        have g17 : (ford .f32 (some x) (fOf .f32 0) == some .eq) = true := h17
                        refine v_guard_on rfl rfl ?_
                        refine v_pick_f rfl rfl ?_
                        refine v_pick_t rfl rfl ?_
                        refine v_assign rfl ?_
                        refine v_nil ?_
                        refine q_n ?_
                        refine w_ret ?_
                        refine r_r rfl ?_
                        exact a_b (by unfold actOk; grind)
                      · skip
                        have g17 : (ford .f32 (some x) (fOf .f32 0) == some .eq) = false := h17
                        refine v_guard_on rfl rfl ?_
                        refine v_pick_f rfl rfl ?_
                        refine v_pick_t rfl rfl ?_
                        refine v_assign rfl ?_
                        refine v_nil ?_
                        refine q_n ?_
                        refine w_ret ?_
                        refine r_r rfl ?_
                        exact a_b (by unfold actOk; grind)
                  · skip
                    refine v_guard_on rfl rfl ?_
                    refine v_pick_f rfl rfl ?_
                    refine v_pick_t rfl rfl ?_
                    refine v_move rfl ?_
                    refine v_guard_off rfl rfl rfl ?_
                    refine v_guard_off rfl rfl rfl ?_
                    refine v_guard_off rfl rfl rfl ?_
                    refine v_guard_off rfl rfl rfl ?_
                    refine v_guard_off rfl rfl rfl ?_
                    refine v_guard_off rfl rfl rfl ?_
                    refine v_guard_off rfl rfl rfl ?_
                    refine v_guard_off rfl rfl rfl ?_
                    refine v_guard_un rfl rfl ?_
                    refine v_guard_un rfl rfl ?_
                    refine v_guard_un rfl rfl ?_
                    refine v_guard_un rfl rfl ?_
                    refine v_guard_un rfl rfl ?_
                    refine v_guard_off rfl rfl rfl ?_
                    refine v_pick_f (v := .v (.bool false)) rfl rfl ?_
                    refine v_assign rfl ?_
                    refine v_nil ?_
                    refine q_n ?_
                    refine w_ret ?_
                    refine r_r rfl ?_
                    exact a_b (by unfold actOk; grind)
              · skip
                refine v_move rfl ?_
                refine v_guard_on rfl rfl ?_
                refine v_move rfl ?_
                refine v_guard_on rfl rfl ?_
                refine v_nil_vw rfl ?_
                refine v_guard_on rfl rfl ?_
                refine v_fa_vw (off' := 2) lay26 rfl rfl rfl ?_
                refine v_guard_on rfl rfl ?_
                refine v_load_vw (.c (.v _)) lay2 rfl rfl rfl ?_
                refine v_guard_on rfl rfl ?_
                refine v_eql lay2 rfl rfl (fun h18 => ?_) (fun h18 => ?_)
                · skip
                  refine v_pick_f rfl rfl ?_
                  refine v_move rfl ?_
                  refine v_guard_on rfl rfl ?_
                  refine v_move rfl ?_
                  refine v_guard_on rfl rfl ?_
                  refine v_move rfl ?_
                  refine v_guard_on rfl rfl ?_
                  refine v_nil_vw rfl ?_
                  refine v_guard_on rfl rfl ?_
                  refine v_fa_vw (off' := 0) lay26 rfl rfl rfl ?_
                  refine v_guard_on rfl rfl ?_
                  refine v_load_vw (.c (.v _)) lay2 rfl rfl rfl ?_
                  refine v_guard_on rfl rfl ?_
                  refine v_idx (k := 1) int_len lay47 lay3 rfl rfl rfl (rfl) rfl (by show 0 ≤ kd ∧ kd < 7; omega) (fun q19 hq19 e19 => ?_)
                  have w19 := ix_at hq19 e19
                  refine v_guard_on rfl rfl ?_
                  refine v_load_vw (.c (.v _)) lay3 rfl rfl rfl ?_
                  refine v_guard_on rfl rfl ?_
                  refine v_gtr lay3 rfl rfl (fun h20 => ?_) (fun h20 => ?_)
                  · skip
                    refine v_guard_on rfl rfl ?_
                    refine v_move rfl ?_
                    refine v_guard_off rfl rfl rfl ?_
                    refine v_guard_off rfl rfl rfl ?_
                    refine v_guard_off rfl rfl rfl ?_
                    refine v_guard_off rfl rfl rfl ?_
                    refine v_guard_off rfl rfl rfl ?_
                    refine v_guard_on rfl rfl ?_
                    refine v_pick_t (v := .v (.bool true)) rfl rfl ?_
                    refine v_pick_t rfl rfl ?_
                    refine v_move rfl ?_
                    refine v_guard_on rfl rfl ?_
                    refine v_move rfl ?_
                    refine v_guard_on rfl rfl ?_
                    refine v_move rfl ?_
                    refine v_guard_on rfl rfl ?_
                    refine v_nil_vw rfl ?_
                    refine v_guard_on rfl rfl ?_
                    refine v_fa_vw (off' := 0) lay26 rfl rfl rfl ?_
                    refine v_guard_on rfl rfl ?_
                    refine v_load_vw (.c (.v _)) lay2 rfl rfl rfl ?_
                    refine v_guard_on rfl rfl ?_
                    refine v_idx (k := 1) bo_len lay54 lay4 rfl rfl rfl (rfl) rfl (by show 0 ≤ kd ∧ kd < 7; omega) (fun q21 hq21 e21 => ?_)
                    have w21 := ix_at hq21 e21
                    refine v_guard_on rfl rfl ?_
                    refine v_load_vwb lay4 rfl rfl rfl (fun h22 => ?_) (fun h22 => ?_)
                    · skip
                      refine v_guard_on rfl rfl ?_
                      refine v_move rfl ?_
                      refine v_guard_off rfl rfl rfl ?_
                      refine v_guard_off rfl rfl rfl ?_
                      refine v_guard_off rfl rfl rfl ?_
                      refine v_guard_off rfl rfl rfl ?_
                      refine v_guard_off rfl rfl rfl ?_
                      refine v_guard_on rfl rfl ?_
                      refine v_pick_t (v := .v (.bool true)) rfl rfl ?_
                      refine v_pick_t rfl rfl ?_
                      refine v_assign rfl ?_
                      refine v_nil ?_
                      refine q_n ?_
                      refine w_ret ?_
                      refine r_r rfl ?_
                      exact a_b (by unfold actOk; grind)
                    · skip
                      refine v_guard_on rfl rfl ?_
                      refine v_move rfl ?_
                      refine v_guard_on rfl rfl ?_
                      refine v_move rfl ?_
                      refine v_guard_on rfl rfl ?_
                      refine v_nil_vw rfl ?_
                      refine v_guard_on rfl rfl ?_
                      refine v_fa_vw (off' := 4) lay26 rfl rfl rfl ?_
                      refine v_guard_on rfl rfl ?_
                      refine v_load_vw (.c (.f _ _)) lay22 rfl rfl rfl ?_
                      refine v_guard_on rfl rfl ?_
                      refine v_binb lay22 rfl rfl rfl (fun h23 => ?_) (fun h23 => ?_)
                      · skip
                        have g23 : (ford .f32 (some x) (fOf .f32 0) == some .eq) = true := h23
                        refine v_guard_on rfl rfl ?_
                        refine v_pick_f rfl rfl ?_
                        refine v_pick_t rfl rfl ?_
                        refine v_assign rfl ?_
                        refine v_nil ?_
                        refine q_n ?_
                        refine w_ret ?_
                        refine r_r rfl ?_
                        exact a_b (by unfold actOk; grind)
                      · skip
                        have g23 : (ford .f32 (some x) (fOf .f32 0) == some .eq) = false := h23
                        refine v_guard_on rfl rfl ?_
                        refine v_pick_f rfl rfl ?_
                        refine v_pick_t rfl rfl ?_
                        refine v_assign rfl ?_
                        refine v_nil ?_
                        refine q_n ?_
                        refine w_ret ?_
                        refine r_r rfl ?_
                        exact a_b (by unfold actOk; grind)
                  · skip
                    refine v_guard_on rfl rfl ?_
                    refine v_move rfl ?_
                    refine v_guard_on rfl rfl ?_
                    refine v_move rfl ?_
                    refine v_guard_on rfl rfl ?_
                    refine v_nil_vw rfl ?_
                    refine v_guard_on rfl rfl ?_
                    refine v_fa_vw (off' := 3) lay26 rfl rfl rfl ?_
                    refine v_guard_on rfl rfl ?_
                    refine v_load_vw (.c (.v _)) lay2 rfl rfl rfl ?_
                    refine v_guard_on rfl rfl ?_
                    refine v_eql lay2 rfl rfl (fun h24 => ?_) (fun h24 => ?_)
                    · skip
                      refine v_guard_on rfl rfl ?_
                      refine v_pick_f rfl rfl ?_
                      refine v_pick_t rfl rfl ?_
                      refine v_move rfl ?_
                      refine v_guard_on rfl rfl ?_
                      refine v_move rfl ?_
                      refine v_guard_on rfl rfl ?_
                      refine v_move rfl ?_
                      refine v_guard_on rfl rfl ?_
                      refine v_nil_vw rfl ?_
                      refine v_guard_on rfl rfl ?_
                      refine v_fa_vw (off' := 0) lay26 rfl rfl rfl ?_
                      refine v_guard_on rfl rfl ?_
                      refine v_load_vw (.c (.v _)) lay2 rfl rfl rfl ?_
                      refine v_guard_on rfl rfl ?_
                      refine v_idx (k := 1) bo_len lay54 lay4 rfl rfl rfl (rfl) rfl (by show 0 ≤ kd ∧ kd < 7; omega) (fun q25 hq25 e25 => ?_)
                      have w25 := ix_at hq25 e25
                      refine v_guard_on rfl rfl ?_
                      refine v_load_vwb lay4 rfl rfl rfl (fun h26 => ?_) (fun h26 => ?_)
                      · skip
                        refine v_guard_on rfl rfl ?_
                        refine v_move rfl ?_
                        refine v_guard_off rfl rfl rfl ?_
                        refine v_guard_off rfl rfl rfl ?_
                        refine v_guard_off rfl rfl rfl ?_
                        refine v_guard_off rfl rfl rfl ?_
                        refine v_guard_off rfl rfl rfl ?_
                        refine v_guard_on rfl rfl ?_
                        refine v_pick_t (v := .v (.bool true)) rfl rfl ?_
                        refine v_pick_t rfl rfl ?_
                        refine v_assign rfl ?_
                        refine v_nil ?_
                        refine q_n ?_
                        refine w_ret ?_
                        refine r_r rfl ?_
                        exact a_b (by unfold actOk; grind)
                      · skip
                        refine v_guard_on rfl rfl ?_
                        refine v_move rfl ?_
                        refine v_guard_on rfl rfl ?_
                        refine v_move rfl ?_
                        refine v_guard_on rfl rfl ?_
                        refine v_nil_vw rfl ?_
                        refine v_guard_on rfl rfl ?_
                        refine v_fa_vw (off' := 4) lay26 rfl rfl rfl ?_
                        refine v_guard_on rfl rfl ?_
                        refine v_load_vw (.c (.f _ _)) lay22 rfl rfl rfl ?_
                        refine v_guard_on rfl rfl ?_
                        refine v_binb lay22 rfl rfl rfl (fun h27 => ?_) (fun h27 => ?_)
                        · skip
                          have g27 : (ford .f32 (some x) (fOf .f32 0) == some .eq) = true := h27
                          refine v_guard_on rfl rfl ?_
                          refine v_pick_f rfl rfl ?_
                          refine v_pick_t rfl rfl ?_
                          refine v_assign rfl ?_
                          refine v_nil ?_
                          refine q_n ?_
                          refine w_ret ?_
                          refine r_r rfl ?_
                          exact a_b (by unfold actOk; grind)
                        · skip
                          have g27 : (ford .f32 (some x) (fOf .f32 0) == some .eq) = false := h27
                          refine v_guard_on rfl rfl ?_
                          refine v_pick_f rfl rfl ?_
                          refine v_pick_t rfl rfl ?_
                          refine v_assign rfl ?_
                          refine v_nil ?_
                          refine q_n ?_
                          refine w_ret ?_
                          refine r_r rfl ?_
                          exact a_b (by unfold actOk; grind)
                    · skip
                      refine v_guard_on rfl rfl ?_
                      refine v_pick_f rfl rfl ?_
                      refine v_pick_t rfl rfl ?_
                      refine v_move rfl ?_
                      refine v_guard_off rfl rfl rfl ?_
                      refine v_guard_off rfl rfl rfl ?_
                      refine v_guard_off rfl rfl rfl ?_
                      refine v_guard_off rfl rfl rfl ?_
                      refine v_guard_off rfl rfl rfl ?_
                      refine v_guard_off rfl rfl rfl ?_
                      refine v_guard_off rfl rfl rfl ?_
                      refine v_guard_off rfl rfl rfl ?_
                      refine v_guard_un rfl rfl ?_
                      refine v_guard_un rfl rfl ?_
                      refine v_guard_un rfl rfl ?_
                      refine v_guard_un rfl rfl ?_
                      refine v_guard_un rfl rfl ?_
                      refine v_guard_off rfl rfl rfl ?_
                      refine v_pick_f (v := .v (.bool false)) rfl rfl ?_
                      refine v_assign rfl ?_
                      refine v_nil ?_
                      refine q_n ?_
                      refine w_ret ?_
                      refine r_r rfl ?_
                      exact a_b (by unfold actOk; grind)
                · skip
                  refine v_pick_f rfl rfl ?_
                  refine v_move rfl ?_
                  refine v_guard_off rfl rfl rfl ?_
                  refine v_guard_off rfl rfl rfl ?_
                  refine v_guard_off rfl rfl rfl ?_
                  refine v_guard_off rfl rfl rfl ?_
                  refine v_guard_off rfl rfl rfl ?_
                  refine v_guard_off rfl rfl rfl ?_
                  refine v_guard_off rfl rfl rfl ?_
                  refine v_guard_off rfl rfl rfl ?_
                  refine v_guard_off rfl rfl rfl ?_
                  refine v_guard_un rfl rfl ?_
                  refine v_guard_un rfl rfl ?_
                  refine v_guard_un rfl rfl ?_
                  refine v_guard_un rfl rfl ?_
                  refine v_guard_un rfl rfl ?_
                  refine v_guard_off rfl rfl rfl ?_
                  refine v_pick_f (v := .v (.bool false)) rfl rfl ?_
                  refine v_move rfl ?_
                  refine v_guard_off rfl rfl rfl ?_
                  refine v_guard_off rfl rfl rfl ?_
                  refine v_guard_off rfl rfl rfl ?_
                  refine v_guard_off rfl rfl rfl ?_
                  refine v_guard_off rfl rfl rfl ?_
                  refine v_guard_off rfl rfl rfl ?_
                  refine v_guard_off rfl rfl rfl ?_
                  refine v_guard_off rfl rfl rfl ?_
                  refine v_guard_un rfl rfl ?_
                  refine v_guard_un rfl rfl ?_
                  refine v_guard_un rfl rfl ?_
                  refine v_guard_un rfl rfl ?_
                  refine v_guard_un rfl rfl ?_
                  refine v_guard_off rfl rfl rfl ?_
                  refine v_pick_f (v := .v (.bool false)) rfl rfl ?_
                  refine v_assign rfl ?_
                  refine v_nil ?_
                  refine q_n ?_
                  refine w_ret ?_
                  refine r_r rfl ?_
                  exact a_b (by unfold actOk; grind)
          · skip
            refine v_guard_on rfl rfl ?_
            refine v_not true rfl rfl ?_
            refine v_pick_f rfl rfl ?_
            refine v_move rfl ?_
            refine v_guard_off rfl rfl rfl ?_
            refine v_guard_off rfl rfl rfl ?_
            refine v_guard_off rfl rfl rfl ?_
            refine v_guard_off rfl rfl rfl ?_
            refine v_guard_off rfl rfl rfl ?_
            refine v_guard_off rfl rfl rfl ?_
            refine v_pick_t (v := .v (.bool true)) rfl rfl ?_
            refine v_nil ?_
            refine q_n ?_
            refine w_t rfl ?_
            refine w_seq ?_
            refine w_reg rfl ?_
            refine v_assign (c := .v (.bool false)) rfl ?_
            refine v_nil ?_
            refine q_n ?_
            refine w_ret (q_r ?_)
            refine r_r rfl ?_
            exact a_b (by unfold actOk; grind)
        · skip
          refine v_guard_on rfl rfl ?_
          refine v_not true rfl rfl ?_
          refine v_pick_f rfl rfl ?_
          refine v_move rfl ?_
          refine v_guard_off rfl rfl rfl ?_
          refine v_guard_off rfl rfl rfl ?_
          refine v_guard_off rfl rfl rfl ?_
          refine v_guard_off rfl rfl rfl ?_
          refine v_guard_off rfl rfl rfl ?_
          refine v_guard_off rfl rfl rfl ?_
          refine v_pick_t (v := .v (.bool true)) rfl rfl ?_
          refine v_move rfl ?_
          refine v_guard_off rfl rfl rfl ?_
          refine v_guard_off rfl rfl rfl ?_
          refine v_guard_off rfl rfl rfl ?_
          refine v_guard_off rfl rfl rfl ?_
          refine v_guard_off rfl rfl rfl ?_
          refine v_guard_off rfl rfl rfl ?_
          refine v_pick_t (v := .v (.bool true)) rfl rfl ?_
          refine v_nil ?_
          refine q_n ?_
          refine w_t rfl ?_
          refine w_seq ?_
          refine w_reg rfl ?_
          refine v_assign (c := .v (.bool false)) rfl ?_
          refine v_nil ?_
          refine q_n ?_
          refine w_ret (q_r ?_)
          refine r_r rfl ?_
          exact a_b (by unfold actOk; grind)
      · skip
        refine v_guard_on rfl rfl ?_
        refine v_not true rfl rfl ?_
        refine v_pick_f rfl rfl ?_
        refine v_move rfl ?_
        refine v_guard_off rfl rfl rfl ?_
        refine v_guard_off rfl rfl rfl ?_
        refine v_guard_off rfl rfl rfl ?_
        refine v_guard_off rfl rfl rfl ?_
        refine v_guard_off rfl rfl rfl ?_
        refine v_guard_off rfl rfl rfl ?_
        refine v_pick_t (v := .v (.bool true)) rfl rfl ?_
        refine v_move rfl ?_
        refine v_guard_off rfl rfl rfl ?_
        refine v_guard_off rfl rfl rfl ?_
        refine v_guard_off rfl rfl rfl ?_
        refine v_guard_off rfl rfl rfl ?_
        refine v_guard_off rfl rfl rfl ?_
        refine v_guard_off rfl rfl rfl ?_
        refine v_pick_t (v := .v (.bool true)) rfl rfl ?_
        refine v_move rfl ?_
        refine v_guard_off rfl rfl rfl ?_
        refine v_guard_off rfl rfl rfl ?_
        refine v_guard_off rfl rfl rfl ?_
        refine v_guard_off rfl rfl rfl ?_
        refine v_guard_off rfl rfl rfl ?_
        refine v_guard_off rfl rfl rfl ?_
        refine v_pick_t (v := .v (.bool true)) rfl rfl ?_
        refine v_nil ?_
        refine q_n ?_
        refine w_t rfl ?_
        refine w_seq ?_
        refine w_reg rfl ?_
        refine v_assign (c := .v (.bool false)) rfl ?_
        refine v_nil ?_
        refine q_n ?_
        refine w_ret (q_r ?_)
        refine r_r rfl ?_
        exact a_b (by unfold actOk; grind)
    · skip
      refine v_guard_on rfl rfl ?_
      refine v_not true rfl rfl ?_
      refine v_pick_f rfl rfl ?_
      refine v_move rfl ?_
      refine v_guard_off rfl rfl rfl ?_
      refine v_guard_off rfl rfl rfl ?_
      refine v_guard_off rfl rfl rfl ?_
      refine v_guard_off rfl rfl rfl ?_
      refine v_guard_off rfl rfl rfl ?_
      refine v_guard_off rfl rfl rfl ?_
      refine v_pick_t (v := .v (.bool true)) rfl rfl ?_
      refine v_move rfl ?_
      refine v_guard_off rfl rfl rfl ?_
      refine v_guard_off rfl rfl rfl ?_
      refine v_guard_off rfl rfl rfl ?_
      refine v_guard_off rfl rfl rfl ?_
      refine v_guard_off rfl rfl rfl ?_
      refine v_guard_off rfl rfl rfl ?_
      refine v_pick_t (v := .v (.bool true)) rfl rfl ?_
      refine v_move rfl ?_
      refine v_guard_off rfl rfl rfl ?_
      refine v_guard_off rfl rfl rfl ?_
      refine v_guard_off rfl rfl rfl ?_
      refine v_guard_off rfl rfl rfl ?_
      refine v_guard_off rfl rfl rfl ?_
      refine v_guard_off rfl rfl rfl ?_
      refine v_pick_t (v := .v (.bool true)) rfl rfl ?_
      refine v_move rfl ?_
      refine v_guard_off rfl rfl rfl ?_
      refine v_guard_off rfl rfl rfl ?_
      refine v_guard_off rfl rfl rfl ?_
      refine v_guard_off rfl rfl rfl ?_
      refine v_guard_off rfl rfl rfl ?_
      refine v_guard_off rfl rfl rfl ?_
      refine v_pick_t (v := .v (.bool true)) rfl rfl ?_
      refine v_nil ?_
      refine q_n ?_
      refine w_t rfl ?_
      refine w_seq ?_
      refine w_reg rfl ?_
      refine v_assign (c := .v (.bool false)) rfl ?_
      refine v_nil ?_
      refine q_n ?_
      refine w_ret (q_r ?_)
      refine r_r rfl ?_
      exact a_b (by unfold actOk; grind)
  · skip
    refine v_not true rfl rfl ?_
    refine v_move rfl ?_
    refine v_guard_off rfl rfl rfl ?_
    refine v_guard_off rfl rfl rfl ?_
    refine v_guard_off rfl rfl rfl ?_
    refine v_guard_off rfl rfl rfl ?_
    refine v_guard_off rfl rfl rfl ?_
    refine v_guard_off rfl rfl rfl ?_
    refine v_pick_t (v := .v (.bool true)) rfl rfl ?_
    refine v_move rfl ?_
    refine v_guard_off rfl rfl rfl ?_
    refine v_guard_off rfl rfl rfl ?_
    refine v_guard_off rfl rfl rfl ?_
    refine v_guard_off rfl rfl rfl ?_
    refine v_guard_off rfl rfl rfl ?_
    refine v_guard_off rfl rfl rfl ?_
    refine v_pick_t (v := .v (.bool true)) rfl rfl ?_
    refine v_move rfl ?_
    refine v_guard_off rfl rfl rfl ?_
    refine v_guard_off rfl rfl rfl ?_
    refine v_guard_off rfl rfl rfl ?_
    refine v_guard_off rfl rfl rfl ?_
    refine v_guard_off rfl rfl rfl ?_
    refine v_guard_off rfl rfl rfl ?_
    refine v_pick_t (v := .v (.bool true)) rfl rfl ?_
    refine v_move rfl ?_
    refine v_guard_off rfl rfl rfl ?_
    refine v_guard_off rfl rfl rfl ?_
    refine v_guard_off rfl rfl rfl ?_
    refine v_guard_off rfl rfl rfl ?_
    refine v_guard_off rfl rfl rfl ?_
    refine v_guard_off rfl rfl rfl ?_
    refine v_pick_t (v := .v (.bool true)) rfl rfl ?_
    refine v_move rfl ?_
    refine v_guard_off rfl rfl rfl ?_
    refine v_guard_off rfl rfl rfl ?_
    refine v_guard_off rfl rfl rfl ?_
    refine v_guard_off rfl rfl rfl ?_
    refine v_guard_off rfl rfl rfl ?_
    refine v_guard_off rfl rfl rfl ?_
    refine v_pick_t (v := .v (.bool true)) rfl rfl ?_
    refine v_nil ?_
    refine q_n ?_
    refine w_t rfl ?_
    refine w_seq ?_
    refine w_reg rfl ?_
    refine v_assign (c := .v (.bool false)) rfl ?_
    refine v_nil ?_
    refine q_n ?_
    refine w_ret (q_r ?_)
    refine r_r rfl ?_
    exact a_b (by unfold actOk; grind)

theorem c11n (kd a b c : Int) : PureC X 11 [.c (.vw false (act kd a b c none) 0)] (cB (decide (actOk kd a b c none))) := by
  refine PureC.of_body (drawD_ok X) (fun _ _ => Go.Proofs.Tryd.call11 _ _) Go.Proofs.Tryd.func11 rfl (n := 105) rfl ?_
  refine w_seq ?_
  refine w_reg rfl ?_
  refine v_assign (c := .v (.bool false)) rfl ?_
  refine v_nil ?_
  refine q_n ?_
  refine w_seq ?_
  refine w_seq ?_
  refine w_reg rfl ?_
  refine v_move rfl ?_
  refine v_nil_vw rfl ?_
  refine v_fa_vw (off' := 0) lay26 rfl rfl rfl ?_
  refine v_load_vw (.c (.v _)) lay2 rfl rfl rfl ?_
  refine v_callb (c20 _ _ _) rfl rfl (.cons vw_v (.cons vw_v (.cons vw_v .nil))) (fun h1 => ?_) (fun h1 => ?_)
  · skip
    refine v_not false rfl rfl ?_
    refine v_move rfl ?_
    refine v_guard_on rfl rfl ?_
    refine v_move rfl ?_
    refine v_guard_on rfl rfl ?_
    refine v_nil_vw rfl ?_
    refine v_guard_on rfl rfl ?_
    refine v_fa_vw (off' := 1) lay26 rfl rfl rfl ?_
    refine v_guard_on rfl rfl ?_
    refine v_load_vw (.c (.v _)) lay2 rfl rfl rfl ?_
    refine v_guard_on rfl rfl ?_
    refine v_callb (c20 _ _ _) rfl rfl (.cons vw_v (.cons vw_v (.cons vw_v .nil))) (fun h2 => ?_) (fun h2 => ?_)
    · skip
      refine v_guard_on rfl rfl ?_
      refine v_not false rfl rfl ?_
      refine v_pick_f rfl rfl ?_
      refine v_move rfl ?_
      refine v_guard_on rfl rfl ?_
      refine v_move rfl ?_
      refine v_guard_on rfl rfl ?_
      refine v_nil_vw rfl ?_
      refine v_guard_on rfl rfl ?_
      refine v_fa_vw (off' := 2) lay26 rfl rfl rfl ?_
      refine v_guard_on rfl rfl ?_
      refine v_load_vw (.c (.v _)) lay2 rfl rfl rfl ?_
      refine v_guard_on rfl rfl ?_
      refine v_callb (c20 _ _ _) rfl rfl (.cons vw_v (.cons vw_v (.cons vw_v .nil))) (fun h3 => ?_) (fun h3 => ?_)
      · skip
        refine v_guard_on rfl rfl ?_
        refine v_not false rfl rfl ?_
        refine v_pick_f rfl rfl ?_
        refine v_move rfl ?_
        refine v_guard_on rfl rfl ?_
        refine v_move rfl ?_
        refine v_guard_on rfl rfl ?_
        refine v_nil_vw rfl ?_
        refine v_guard_on rfl rfl ?_
        refine v_fa_vw (off' := 3) lay26 rfl rfl rfl ?_
        refine v_guard_on rfl rfl ?_
        refine v_load_vw (.c (.v _)) lay2 rfl rfl rfl ?_
        refine v_guard_on rfl rfl ?_
        refine v_callb (c20 _ _ _) rfl rfl (.cons vw_v (.cons vw_v (.cons vw_v .nil))) (fun h4 => ?_) (fun h4 => ?_)
        · skip
          refine v_guard_on rfl rfl ?_
          refine v_not false rfl rfl ?_
          refine v_pick_f rfl rfl ?_
          refine v_move rfl ?_
          refine v_guard_on rfl rfl ?_
          refine v_move rfl ?_
          refine v_guard_on rfl rfl ?_
          refine v_nil_vw rfl ?_
          refine v_guard_on rfl rfl ?_
          refine v_fa_vw (off' := 4) lay26 rfl rfl rfl ?_
          refine v_guard_on rfl rfl ?_
          refine v_load_vw (.c (.f _ _)) lay22 rfl rfl rfl ?_
          refine v_guard_on rfl rfl ?_
          refine v_callb (c21 _) rfl rfl (.cons vw_f .nil) (fun h5 => ?_) (fun h5 => ?_)
          · skip
            exact absurd h5 (by decide)
          · skip
            refine v_guard_on rfl rfl ?_
            refine v_not true rfl rfl ?_
            refine v_pick_f rfl rfl ?_
            refine v_move rfl ?_
            refine v_guard_off rfl rfl rfl ?_
            refine v_guard_off rfl rfl rfl ?_
            refine v_guard_off rfl rfl rfl ?_
            refine v_guard_off rfl rfl rfl ?_
            refine v_guard_off rfl rfl rfl ?_
            refine v_guard_off rfl rfl rfl ?_
            refine v_pick_t (v := .v (.bool true)) rfl rfl ?_
            refine v_nil ?_
            refine q_n ?_
            refine w_t rfl ?_
            refine w_seq ?_
            refine w_reg rfl ?_
            refine v_assign (c := .v (.bool false)) rfl ?_
            refine v_nil ?_
            refine q_n ?_
            refine w_ret (q_r ?_)
            refine r_r rfl ?_
            exact a_b (by unfold actOk; first | grind | (constructor <;> intro hh <;> first | (cases hh; done) | exact absurd hh.2.2.2.2.1 (by decide)))
        · skip
          refine v_guard_on rfl rfl ?_
          refine v_not true rfl rfl ?_
          refine v_pick_f rfl rfl ?_
          refine v_move rfl ?_
          refine v_guard_off rfl rfl rfl ?_
          refine v_guard_off rfl rfl rfl ?_
          refine v_guard_off rfl rfl rfl ?_
          refine v_guard_off rfl rfl rfl ?_
          refine v_guard_off rfl rfl rfl ?_
          refine v_guard_off rfl rfl rfl ?_
          refine v_pick_t (v := .v (.bool true)) rfl rfl ?_
          refine v_move rfl ?_
          refine v_guard_off rfl rfl rfl ?_
          refine v_guard_off rfl rfl rfl ?_
          refine v_guard_off rfl rfl rfl ?_
          refine v_guard_off rfl rfl rfl ?_
          refine v_guard_off rfl rfl rfl ?_
          refine v_guard_off rfl rfl rfl ?_
          refine v_pick_t (v := .v (.bool true)) rfl rfl ?_
          refine v_nil ?_
          refine q_n ?_
          refine w_t rfl ?_
          refine w_seq ?_
          refine w_reg rfl ?_
          refine v_assign (c := .v (.bool false)) rfl ?_
          refine v_nil ?_
          refine q_n ?_
          refine w_ret (q_r ?_)
          refine r_r rfl ?_
          exact a_b (by unfold actOk; first | grind | (constructor <;> intro hh <;> first | (cases hh; done) | exact absurd hh.2.2.2.2.1 (by decide)))
      · skip
        refine v_guard_on rfl rfl ?_
        refine v_not true rfl rfl ?_
        refine v_pick_f rfl rfl ?_
        refine v_move rfl ?_
        refine v_guard_off rfl rfl rfl ?_
        refine v_guard_off rfl rfl rfl ?_
        refine v_guard_off rfl rfl rfl ?_
        refine v_guard_off rfl rfl rfl ?_
        refine v_guard_off rfl rfl rfl ?_
        refine v_guard_off rfl rfl rfl ?_
        refine v_pick_t (v := .v (.bool true)) rfl rfl ?_
        refine v_move rfl ?_
        refine v_guard_off rfl rfl rfl ?_
        refine v_guard_off rfl rfl rfl ?_
        refine v_guard_off rfl rfl rfl ?_
        refine v_guard_off rfl rfl rfl ?_
        refine v_guard_off rfl rfl rfl ?_
        refine v_guard_off rfl rfl rfl ?_
        refine v_pick_t (v := .v (.bool true)) rfl rfl ?_
        refine v_move rfl ?_
        refine v_guard_off rfl rfl rfl ?_
        refine v_guard_off rfl rfl rfl ?_
        refine v_guard_off rfl rfl rfl ?_
        refine v_guard_off rfl rfl rfl ?_
        refine v_guard_off rfl rfl rfl ?_
        refine v_guard_off rfl rfl rfl ?_
        refine v_pick_t (v := .v (.bool true)) rfl rfl ?_
        refine v_nil ?_
        refine q_n ?_
        refine w_t rfl ?_
        refine w_seq ?_
        refine w_reg rfl ?_
        refine v_assign (c := .v (.bool false)) rfl ?_
        refine v_nil ?_
        refine q_n ?_
        refine w_ret (q_r ?_)
        refine r_r rfl ?_
        exact a_b (by unfold actOk; first | grind | (constructor <;> intro hh <;> first | (cases hh; done) | exact absurd hh.2.2.2.2.1 (by decide)))
    · skip
      refine v_guard_on rfl rfl ?_
      refine v_not true rfl rfl ?_
      refine v_pick_f rfl rfl ?_
      refine v_move rfl ?_
      refine v_guard_off rfl rfl rfl ?_
      refine v_guard_off rfl rfl rfl ?_
      refine v_guard_off rfl rfl rfl ?_
      refine v_guard_off rfl rfl rfl ?_
      refine v_guard_off rfl rfl rfl ?_
      refine v_guard_off rfl rfl rfl ?_
      refine v_pick_t (v := .v (.bool true)) rfl rfl ?_
      refine v_move rfl ?_
      refine v_guard_off rfl rfl rfl ?_
      refine v_guard_off rfl rfl rfl ?_
      refine v_guard_off rfl rfl rfl ?_
      refine v_guard_off rfl rfl rfl ?_
      refine v_guard_off rfl rfl rfl ?_
      refine v_guard_off rfl rfl rfl ?_
      refine v_pick_t (v := .v (.bool true)) rfl rfl ?_
      refine v_move rfl ?_
      refine v_guard_off rfl rfl rfl ?_
      refine v_guard_off rfl rfl rfl ?_
      refine v_guard_off rfl rfl rfl ?_
      refine v_guard_off rfl rfl rfl ?_
      refine v_guard_off rfl rfl rfl ?_
      refine v_guard_off rfl rfl rfl ?_
      refine v_pick_t (v := .v (.bool true)) rfl rfl ?_
      refine v_move rfl ?_
      refine v_guard_off rfl rfl rfl ?_
      refine v_guard_off rfl rfl rfl ?_
      refine v_guard_off rfl rfl rfl ?_
      refine v_guard_off rfl rfl rfl ?_
      refine v_guard_off rfl rfl rfl ?_
      refine v_guard_off rfl rfl rfl ?_
      refine v_pick_t (v := .v (.bool true)) rfl rfl ?_
      refine v_nil ?_
      refine q_n ?_
      refine w_t rfl ?_
      refine w_seq ?_
      refine w_reg rfl ?_
      refine v_assign (c := .v (.bool false)) rfl ?_
      refine v_nil ?_
      refine q_n ?_
      refine w_ret (q_r ?_)
      refine r_r rfl ?_
      exact a_b (by unfold actOk; first | grind | (constructor <;> intro hh <;> first | (cases hh; done) | exact absurd hh.2.2.2.2.1 (by decide)))
  · skip
    refine v_not true rfl rfl ?_
    refine v_move rfl ?_
    refine v_guard_off rfl rfl rfl ?_
    refine v_guard_off rfl rfl rfl ?_
    refine v_guard_off rfl rfl rfl ?_
    refine v_guard_off rfl rfl rfl ?_
    refine v_guard_off rfl rfl rfl ?_
    refine v_guard_off rfl rfl rfl ?_
    refine v_pick_t (v := .v (.bool true)) rfl rfl ?_
    refine v_move rfl ?_
    refine v_guard_off rfl rfl rfl ?_
    refine v_guard_off rfl rfl rfl ?_
    refine v_guard_off rfl rfl rfl ?_
    refine v_guard_off rfl rfl rfl ?_
    refine v_guard_off rfl rfl rfl ?_
    refine v_guard_off rfl rfl rfl ?_
    refine v_pick_t (v := .v (.bool true)) rfl rfl ?_
    refine v_move rfl ?_
    refine v_guard_off rfl rfl rfl ?_
    refine v_guard_off rfl rfl rfl ?_
    refine v_guard_off rfl rfl rfl ?_
    refine v_guard_off rfl rfl rfl ?_
    refine v_guard_off rfl rfl rfl ?_
    refine v_guard_off rfl rfl rfl ?_
    refine v_pick_t (v := .v (.bool true)) rfl rfl ?_
    refine v_move rfl ?_
    refine v_guard_off rfl rfl rfl ?_
    refine v_guard_off rfl rfl rfl ?_
    refine v_guard_off rfl rfl rfl ?_
    refine v_guard_off rfl rfl rfl ?_
    refine v_guard_off rfl rfl rfl ?_
    refine v_guard_off rfl rfl rfl ?_
    refine v_pick_t (v := .v (.bool true)) rfl rfl ?_
    refine v_move rfl ?_
    refine v_guard_off rfl rfl rfl ?_
    refine v_guard_off rfl rfl rfl ?_
    refine v_guard_off rfl rfl rfl ?_
    refine v_guard_off rfl rfl rfl ?_
    refine v_guard_off rfl rfl rfl ?_
    refine v_guard_off rfl rfl rfl ?_
    refine v_pick_t (v := .v (.bool true)) rfl rfl ?_
    refine v_nil ?_
    refine q_n ?_
    refine w_t rfl ?_
    refine w_seq ?_
    refine w_reg rfl ?_
    refine v_assign (c := .v (.bool false)) rfl ?_
    refine v_nil ?_
    refine q_n ?_
    refine w_ret (q_r ?_)
    refine r_r rfl ?_
    exact a_b (by unfold actOk; first | grind | (constructor <;> intro hh <;> first | (cases hh; done) | exact absurd hh.2.2.2.2.1 (by decide)))

theorem c11 (kd a b c : Int) (x : Option Nat) : PureC X 11 [.c (.vw false (act kd a b c x) 0)] (cB (decide (actOk kd a b c x))) := by
  cases x with
  | none => exact c11n kd a b c
  | some x => exact c11s kd a b c x

theorem c5 (kd a b c : Int) (x : Option Nat) : PureC X 5 [.agg (act kd a b c x)] (cB (decide (actOk kd a b c x))) := by
  refine PureC.of_body (drawD_ok X) (fun _ _ => Go.Proofs.Tryd.call5 _ _) Go.Proofs.Tryd.func5 rfl (n := 4) rfl ?_
  refine w_seq ?_
  refine w_reg rfl ?_
  refine v_box (m := 0) (H' := [_]) lay26 rfl rfl rfl ?_
  refine v_assign (c := .v (.bool false)) rfl ?_
  refine v_nil ?_
  refine q_n ?_
  refine w_seq ?_
  refine w_reg rfl ?_
  refine v_callb (c11 _ _ _ _ _) rfl rfl (.cons (vw_pt rfl (.cons .v (.cons .v (.cons .v (.cons .v (.cons .f .nil)))))) .nil) (fun h1 => ?_) (fun h1 => ?_)
  · skip
    refine v_assign rfl ?_
    refine v_nil ?_
    refine q_n ?_
    refine w_ret ?_
    refine r_r rfl ?_
    exact a_b (by simp_all)
  · skip
    refine v_assign rfl ?_
    refine v_nil ?_
    refine q_n ?_
    refine w_ret ?_
    refine r_r rfl ?_
    exact a_b (by simp_all)

theorem c7s (kd a b c : Int) (x w : Nat) (hb : x < 2 ^ 32) (hw : convF .f32 .f64 (some x) = some (some w)) : PureC X 7 [.agg (act kd a b c (some x))] (cB (decide (actOk kd a b c (some x)))) := by
  refine PureC.of_body (drawD_ok X) (fun _ _ => Go.Proofs.Tryd.call7 _ _) Go.Proofs.Tryd.func7 rfl (n := 64) rfl ?_
  refine w_seq ?_
  refine w_reg rfl ?_
  refine v_box (m := 0) (H' := [_]) lay26 rfl rfl rfl ?_
  refine v_assign (c := .v (.bool false)) rfl ?_
  refine v_nil ?_
  refine q_n ?_
  refine w_seq ?_
  refine w_seq ?_
  refine w_reg rfl ?_
  refine v_fa_pt (off' := 0) lay26 rfl rfl rfl ?_
  refine v_load_pt (.c _) lay2 rfl rfl rfl rfl ?_
  refine v_callb (c12 _ _ _) rfl rfl (.cons vw_v (.cons vw_v (.cons vw_v .nil))) (fun h1 => ?_) (fun h1 => ?_)
  · skip
    refine v_not false rfl rfl ?_
    refine v_move rfl ?_
    refine v_guard_on rfl rfl ?_
    refine v_fa_pt (off' := 4) lay26 rfl rfl rfl ?_
    refine v_guard_on rfl rfl ?_
    refine v_load_pt (.c _) lay22 rfl rfl rfl rfl ?_
    refine v_guard_on rfl rfl ?_
    refine v_callb (c13 _) rfl rfl (.cons vw_f .nil) (fun h2 => ?_) (fun h2 => ?_)
    · skip
      have nz := neg_zero hb hw h2
      refine v_guard_on rfl rfl ?_
      refine v_not false rfl rfl ?_
      refine v_pick_f rfl rfl ?_
      refine v_move rfl ?_
      refine v_guard_on rfl rfl ?_
      refine v_fa_pt (off' := 4) lay26 rfl rfl rfl ?_
      refine v_guard_on rfl rfl ?_
      refine v_load_pt (.c _) lay22 rfl rfl rfl rfl ?_
      refine v_guard_on rfl rfl ?_
      refine v_binb lay22 rfl rfl rfl (fun h3 => ?_) (fun h3 => ?_)
      · skip
        have g3 : (ford .f32 (some x) (fOf .f32 0) == some .eq) = true := h3
        refine v_guard_on rfl rfl ?_
        refine v_move rfl ?_
        refine v_guard_on rfl rfl ?_
        refine v_fa_pt (off' := 4) lay26 rfl rfl rfl ?_
        refine v_guard_on rfl rfl ?_
        refine v_load_pt (.c _) lay22 rfl rfl rfl rfl ?_
        refine v_guard_on rfl rfl ?_
        refine v_conv_ff _ lay22 lay40 rfl (hw) ?_
        refine v_guard_on rfl rfl ?_
        refine v_callb (c14 _) rfl rfl (.cons vw_f .nil) (fun h4 => ?_) (fun h4 => ?_)
        · skip
          refine v_guard_on rfl rfl ?_
          refine v_pick_t rfl rfl ?_
          refine v_pick_f rfl rfl ?_
          refine v_nil ?_
          refine q_n ?_
          refine w_t rfl ?_
          refine w_seq ?_
          refine w_reg rfl ?_
          refine v_assign (c := .v (.bool false)) rfl ?_
          refine v_nil ?_
          refine q_n ?_
          refine w_ret (q_r ?_)
          refine r_r rfl ?_
          exact a_b (by unfold actOk; grind)
        · skip
          refine v_guard_on rfl rfl ?_
          refine v_pick_t rfl rfl ?_
          refine v_pick_f rfl rfl ?_
          refine v_nil ?_
          refine q_n ?_
          refine w_f rfl ?_
          refine w_skip ?_
          refine q_n ?_
          refine w_seq ?_
          refine w_reg rfl ?_
          refine v_fa_pt (off' := 0) lay26 rfl rfl rfl ?_
          refine v_load_pt (.c _) lay2 rfl rfl rfl rfl ?_
          refine v_sub lay2 rfl rfl (i64r (by omega)) ?_
          refine v_idx_av (k := 3) lay43 lay42 rfl rfl rfl (by omega) (fun qZ hqZ eZ => ?_)
          have fZ := form_at2 hqZ eZ
          refine v_load_av (q := qZ) formL (.agg [.v _, .v _, .v _]) fenc_len lay42 rfl rfl rfl (by show qZ < 6; omega) rfl ?_
          refine v_alloc (m := 1) (H' := [_, ⟨[.v _, .v _, .v _], 42, true⟩]) lay42 rfl rfl ?_
          refine v_store (H' := [_, ⟨[_, _, _], 42, true⟩]) lay42 rfl rfl rfl rfl rfl rfl ?_
          refine v_nil ?_
          refine q_n ?_
          refine w_seq ?_
          refine w_seq ?_
          refine w_reg rfl ?_
          refine v_fa_pt (off' := 1) lay26 rfl rfl rfl ?_
          refine v_load_pt (.c _) lay2 rfl rfl rfl rfl ?_
          refine v_fa_pt (off' := 2) lay26 rfl rfl rfl ?_
          refine v_load_pt (.c _) lay2 rfl rfl rfl rfl ?_
          refine v_fa_pt (off' := 3) lay26 rfl rfl rfl ?_
          refine v_load_pt (.c _) lay2 rfl rfl rfl rfl ?_
          refine v_build_a [.v _, .v _, .v _] lay44 lay2 rfl ?_
          refine v_move (c := .v (.int .i64 0)) rfl ?_
          refine v_nil ?_
          refine q_n ?_
          refine w_block ?_
          refine w_loop (fun k sl H => ∃ i : Nat, k = 3 - i ∧ i ≤ 3 ∧ (1 ≤ i → 0 ≤ a ∧ a ≤ 999) ∧ (2 ≤ i → (0 ≤ b ∧ b ≤ 999) ∧ (1 < formL[qZ].2.1 ∨ b = 0)) ∧ (3 ≤ i → (0 ≤ c ∧ c ≤ 999) ∧ (2 < formL[qZ].2.1 ∨ c = 0)) ∧ sl = sls [(1, .c (.pt 0 0)), (3, .c (.pt 1 0)), (38, .agg [.v (.int .i64 a), .v (.int .i64 b), .v (.int .i64 c)]), (39, cI i)] ∧ H = [⟨act kd a b c (some x), 26, true⟩, ⟨fenc formL[qZ], 42, true⟩]) ?_ ?_
          · refine ⟨_, _, _, ?_, 0, rfl, by omega, by intro; omega, by intro; omega, by intro; omega, rfl, rfl⟩
            exact turn [some 0, some 1] rfl rfl rfl ⟨⟨_, rfl, trc_act⟩, ⟨_, rfl, trc_form⟩, trivial⟩ ⟨tr_pt rfl, tr_pt rfl, tr_agg (.cons tr_v (.cons tr_v (.cons tr_v .nil))), tr_v, trivial⟩
          · rintro k sl H ⟨i, rfl, hi, p1, p2, p3, rfl, rfl⟩
            rcases (by omega : i = 0 ∨ i = 1 ∨ i = 2 ∨ i = 3) with rfl | rfl | rfl | rfl
            · skip
              refine w_seq ?_
              refine w_reg rfl ?_
              refine v_lss lay3 rfl rfl (fun h6 => ?_) (fun h6 => ?_)
              · skip
                refine v_nil ?_
                refine q_n ?_
                refine w_seq ?_
                refine w_t rfl ?_
                refine w_skip ?_
                refine q_n ?_
                refine w_seq ?_
                refine w_block ?_
                refine w_seq ?_
                refine w_reg rfl ?_
                refine v_move rfl ?_
                refine v_index (.c _) lay44 lay2 rfl rfl ⟨by decide, by decide, Nat.le_of_ble_eq_true rfl⟩ rfl ?_
                refine v_assign rfl ?_
                refine v_assign rfl ?_
                refine v_nil ?_
                refine q_n ?_
                refine w_seq ?_
                refine w_reg rfl ?_
                refine v_move rfl ?_
                refine v_callb (c12 _ _ _) rfl rfl (.cons vw_v (.cons vw_v (.cons vw_v .nil))) (fun h7 => ?_) (fun h7 => ?_)
                · skip
                  refine v_not false rfl rfl ?_
                  refine v_move rfl ?_
                  refine v_guard_on rfl rfl ?_
                  refine v_move rfl ?_
                  refine v_guard_on rfl rfl ?_
                  refine v_fa_pt (off' := 1) lay42 rfl rfl rfl ?_
                  refine v_guard_on rfl rfl ?_
                  refine v_load_pt (.c _) lay3 rfl rfl rfl rfl ?_
                  refine v_guard_on rfl rfl ?_
                  refine v_geq lay3 rfl rfl (fun h8 => ?_) (fun h8 => ?_)
                  · skip
                    refine v_guard_on rfl rfl ?_
                    refine v_move rfl ?_
                    refine v_guard_on rfl rfl ?_
                    refine v_move rfl ?_
                    refine v_guard_on rfl rfl ?_
                    refine v_neq lay2 rfl rfl (fun h9 => ?_) (fun h9 => ?_)
                    · skip
                      refine v_guard_on rfl rfl ?_
                      refine v_pick_t rfl rfl ?_
                      refine v_pick_f rfl rfl ?_
                      refine v_nil ?_
                      refine q_n ?_
                      refine w_t rfl ?_
                      refine w_seq ?_
                      refine w_reg rfl ?_
                      refine v_assign (c := .v (.bool false)) rfl ?_
                      refine v_nil ?_
                      refine q_n ?_
                      refine w_ret (q_br (q_r (q_r (q_br (q_r ?_)))))
                      refine r_r rfl ?_
                      exact a_b (by unfold actOk; grind)
                    · skip
                      refine v_guard_on rfl rfl ?_
                      refine v_pick_t rfl rfl ?_
                      refine v_pick_f rfl rfl ?_
                      refine v_nil ?_
                      refine q_n ?_
                      refine w_f rfl ?_
                      refine w_skip ?_
                      refine q_bn ?_
                      refine q_n ?_
                      refine w_reg rfl ?_
                      refine v_add lay3 rfl rfl (i64r (by omega)) ?_
                      refine v_move rfl ?_
                      refine v_nil ?_
                      refine q_n ?_
                      refine ⟨_, _, _, ?_, ⟨1, rfl, by omega, by intro; omega, by intro; first | (exfalso; omega) | grind, by intro; first | (exfalso; omega) | grind, rfl, rfl⟩, by omega⟩
                      exact turn [some 0, some 1] rfl rfl rfl ⟨⟨_, rfl, trc_act⟩, ⟨_, rfl, trc_form⟩, trivial⟩ ⟨tr_pt rfl, tr_pt rfl, tr_agg (.cons tr_v (.cons tr_v (.cons tr_v .nil))), tr_v, trivial⟩
                  · skip
                    refine v_guard_on rfl rfl ?_
                    refine v_move rfl ?_
                    refine v_guard_off rfl rfl rfl ?_
                    refine v_guard_off rfl rfl rfl ?_
                    refine v_guard_on rfl rfl ?_
                    refine v_pick_f (v := .v (.bool false)) rfl rfl ?_
                    refine v_pick_f rfl rfl ?_
                    refine v_nil ?_
                    refine q_n ?_
                    refine w_f rfl ?_
                    refine w_skip ?_
                    refine q_bn ?_
                    refine q_n ?_
                    refine w_reg rfl ?_
                    refine v_add lay3 rfl rfl (i64r (by omega)) ?_
                    refine v_move rfl ?_
                    refine v_nil ?_
                    refine q_n ?_
                    refine ⟨_, _, _, ?_, ⟨1, rfl, by omega, by intro; omega, by intro; first | (exfalso; omega) | grind, by intro; first | (exfalso; omega) | grind, rfl, rfl⟩, by omega⟩
                    exact turn [some 0, some 1] rfl rfl rfl ⟨⟨_, rfl, trc_act⟩, ⟨_, rfl, trc_form⟩, trivial⟩ ⟨tr_pt rfl, tr_pt rfl, tr_agg (.cons tr_v (.cons tr_v (.cons tr_v .nil))), tr_v, trivial⟩
                · skip
                  refine v_not true rfl rfl ?_
                  refine v_move rfl ?_
                  refine v_guard_off rfl rfl rfl ?_
                  refine v_guard_off rfl rfl rfl ?_
                  refine v_guard_off rfl rfl rfl ?_
                  refine v_guard_off rfl rfl rfl ?_
                  refine v_guard_off rfl rfl rfl ?_
                  refine v_guard_un rfl rfl ?_
                  refine v_guard_un rfl rfl ?_
                  refine v_guard_off rfl rfl rfl ?_
                  refine v_pick_t (v := .v (.bool true)) rfl rfl ?_
                  refine v_nil ?_
                  refine q_n ?_
                  refine w_t rfl ?_
                  refine w_seq ?_
                  refine w_reg rfl ?_
                  refine v_assign (c := .v (.bool false)) rfl ?_
                  refine v_nil ?_
                  refine q_n ?_
                  refine w_ret (q_br (q_r (q_r (q_br (q_r ?_)))))
                  refine r_r rfl ?_
                  exact a_b (by unfold actOk; grind)
              · skip
                exact absurd (by decide) h6
            · skip
              refine w_seq ?_
              refine w_reg rfl ?_
              refine v_lss lay3 rfl rfl (fun h10 => ?_) (fun h10 => ?_)
              · skip
                refine v_nil ?_
                refine q_n ?_
                refine w_seq ?_
                refine w_t rfl ?_
                refine w_skip ?_
                refine q_n ?_
                refine w_seq ?_
                refine w_block ?_
                refine w_seq ?_
                refine w_reg rfl ?_
                refine v_move rfl ?_
                refine v_index (.c _) lay44 lay2 rfl rfl ⟨by decide, by decide, Nat.le_of_ble_eq_true rfl⟩ rfl ?_
                refine v_assign rfl ?_
                refine v_assign rfl ?_
                refine v_nil ?_
                refine q_n ?_
                refine w_seq ?_
                refine w_reg rfl ?_
                refine v_move rfl ?_
                refine v_callb (c12 _ _ _) rfl rfl (.cons vw_v (.cons vw_v (.cons vw_v .nil))) (fun h11 => ?_) (fun h11 => ?_)
                · skip
                  refine v_not false rfl rfl ?_
                  refine v_move rfl ?_
                  refine v_guard_on rfl rfl ?_
                  refine v_move rfl ?_
                  refine v_guard_on rfl rfl ?_
                  refine v_fa_pt (off' := 1) lay42 rfl rfl rfl ?_
                  refine v_guard_on rfl rfl ?_
                  refine v_load_pt (.c _) lay3 rfl rfl rfl rfl ?_
                  refine v_guard_on rfl rfl ?_
                  refine v_geq lay3 rfl rfl (fun h12 => ?_) (fun h12 => ?_)
                  · skip
                    refine v_guard_on rfl rfl ?_
                    refine v_move rfl ?_
                    refine v_guard_on rfl rfl ?_
                    refine v_move rfl ?_
                    refine v_guard_on rfl rfl ?_
                    refine v_neq lay2 rfl rfl (fun h13 => ?_) (fun h13 => ?_)
                    · skip
                      refine v_guard_on rfl rfl ?_
                      refine v_pick_t rfl rfl ?_
                      refine v_pick_f rfl rfl ?_
                      refine v_nil ?_
                      refine q_n ?_
                      refine w_t rfl ?_
                      refine w_seq ?_
                      refine w_reg rfl ?_
                      refine v_assign (c := .v (.bool false)) rfl ?_
                      refine v_nil ?_
                      refine q_n ?_
                      refine w_ret (q_br (q_r (q_r (q_br (q_r ?_)))))
                      refine r_r rfl ?_
                      exact a_b (by unfold actOk; grind)
                    · skip
                      refine v_guard_on rfl rfl ?_
                      refine v_pick_t rfl rfl ?_
                      refine v_pick_f rfl rfl ?_
                      refine v_nil ?_
                      refine q_n ?_
                      refine w_f rfl ?_
                      refine w_skip ?_
                      refine q_bn ?_
                      refine q_n ?_
                      refine w_reg rfl ?_
                      refine v_add lay3 rfl rfl (i64r (by omega)) ?_
                      refine v_move rfl ?_
                      refine v_nil ?_
                      refine q_n ?_
                      refine ⟨_, _, _, ?_, ⟨2, rfl, by omega, by intro; omega, by intro; first | (exfalso; omega) | grind, by intro; first | (exfalso; omega) | grind, rfl, rfl⟩, by omega⟩
                      exact turn [some 0, some 1] rfl rfl rfl ⟨⟨_, rfl, trc_act⟩, ⟨_, rfl, trc_form⟩, trivial⟩ ⟨tr_pt rfl, tr_pt rfl, tr_agg (.cons tr_v (.cons tr_v (.cons tr_v .nil))), tr_v, trivial⟩
                  · skip
                    refine v_guard_on rfl rfl ?_
                    refine v_move rfl ?_
                    refine v_guard_off rfl rfl rfl ?_
                    refine v_guard_off rfl rfl rfl ?_
                    refine v_guard_on rfl rfl ?_
                    refine v_pick_f (v := .v (.bool false)) rfl rfl ?_
                    refine v_pick_f rfl rfl ?_
                    refine v_nil ?_
                    refine q_n ?_
                    refine w_f rfl ?_
                    refine w_skip ?_
                    refine q_bn ?_
                    refine q_n ?_
                    refine w_reg rfl ?_
                    refine v_add lay3 rfl rfl (i64r (by omega)) ?_
                    refine v_move rfl ?_
                    refine v_nil ?_
                    refine q_n ?_
                    refine ⟨_, _, _, ?_, ⟨2, rfl, by omega, by intro; omega, by intro; first | (exfalso; omega) | grind, by intro; first | (exfalso; omega) | grind, rfl, rfl⟩, by omega⟩
                    exact turn [some 0, some 1] rfl rfl rfl ⟨⟨_, rfl, trc_act⟩, ⟨_, rfl, trc_form⟩, trivial⟩ ⟨tr_pt rfl, tr_pt rfl, tr_agg (.cons tr_v (.cons tr_v (.cons tr_v .nil))), tr_v, trivial⟩
                · skip
                  refine v_not true rfl rfl ?_
                  refine v_move rfl ?_
                  refine v_guard_off rfl rfl rfl ?_
                  refine v_guard_off rfl rfl rfl ?_
                  refine v_guard_off rfl rfl rfl ?_
                  refine v_guard_off rfl rfl rfl ?_
                  refine v_guard_off rfl rfl rfl ?_
                  refine v_guard_un rfl rfl ?_
                  refine v_guard_un rfl rfl ?_
                  refine v_guard_off rfl rfl rfl ?_
                  refine v_pick_t (v := .v (.bool true)) rfl rfl ?_
                  refine v_nil ?_
                  refine q_n ?_
                  refine w_t rfl ?_
                  refine w_seq ?_
                  refine w_reg rfl ?_
                  refine v_assign (c := .v (.bool false)) rfl ?_
                  refine v_nil ?_
                  refine q_n ?_
                  refine w_ret (q_br (q_r (q_r (q_br (q_r ?_)))))
                  refine r_r rfl ?_
                  exact a_b (by unfold actOk; grind)
              · skip
                exact absurd (by decide) h10
            · skip
              refine w_seq ?_
              refine w_reg rfl ?_
              refine v_lss lay3 rfl rfl (fun h14 => ?_) (fun h14 => ?_)
              · skip
                refine v_nil ?_
                refine q_n ?_
                refine w_seq ?_
                refine w_t rfl ?_
                refine w_skip ?_
                refine q_n ?_
                refine w_seq ?_
                refine w_block ?_
                refine w_seq ?_
                refine w_reg rfl ?_
                refine v_move rfl ?_
                refine v_index (.c _) lay44 lay2 rfl rfl ⟨by decide, by decide, Nat.le_of_ble_eq_true rfl⟩ rfl ?_
                refine v_assign rfl ?_
                refine v_assign rfl ?_
                refine v_nil ?_
                refine q_n ?_
                refine w_seq ?_
                refine w_reg rfl ?_
                refine v_move rfl ?_
                refine v_callb (c12 _ _ _) rfl rfl (.cons vw_v (.cons vw_v (.cons vw_v .nil))) (fun h15 => ?_) (fun h15 => ?_)
                · skip
                  refine v_not false rfl rfl ?_
                  refine v_move rfl ?_
                  refine v_guard_on rfl rfl ?_
                  refine v_move rfl ?_
                  refine v_guard_on rfl rfl ?_
                  refine v_fa_pt (off' := 1) lay42 rfl rfl rfl ?_
                  refine v_guard_on rfl rfl ?_
                  refine v_load_pt (.c _) lay3 rfl rfl rfl rfl ?_
                  refine v_guard_on rfl rfl ?_
                  refine v_geq lay3 rfl rfl (fun h16 => ?_) (fun h16 => ?_)
                  · skip
                    refine v_guard_on rfl rfl ?_
                    refine v_move rfl ?_
                    refine v_guard_on rfl rfl ?_
                    refine v_move rfl ?_
                    refine v_guard_on rfl rfl ?_
                    refine v_neq lay2 rfl rfl (fun h17 => ?_) (fun h17 => ?_)
                    · skip
                      refine v_guard_on rfl rfl ?_
                      refine v_pick_t rfl rfl ?_
                      refine v_pick_f rfl rfl ?_
                      refine v_nil ?_
                      refine q_n ?_
                      refine w_t rfl ?_
                      refine w_seq ?_
                      refine w_reg rfl ?_
                      refine v_assign (c := .v (.bool false)) rfl ?_
                      refine v_nil ?_
                      refine q_n ?_
                      refine w_ret (q_br (q_r (q_r (q_br (q_r ?_)))))
                      refine r_r rfl ?_
                      exact a_b (by unfold actOk; grind)
                    · skip
                      refine v_guard_on rfl rfl ?_
                      refine v_pick_t rfl rfl ?_
                      refine v_pick_f rfl rfl ?_
                      refine v_nil ?_
                      refine q_n ?_
                      refine w_f rfl ?_
                      refine w_skip ?_
                      refine q_bn ?_
                      refine q_n ?_
                      refine w_reg rfl ?_
                      refine v_add lay3 rfl rfl (i64r (by omega)) ?_
                      refine v_move rfl ?_
                      refine v_nil ?_
                      refine q_n ?_
                      refine ⟨_, _, _, ?_, ⟨3, rfl, by omega, by intro; omega, by intro; first | (exfalso; omega) | grind, by intro; first | (exfalso; omega) | grind, rfl, rfl⟩, by omega⟩
                      exact turn [some 0, some 1] rfl rfl rfl ⟨⟨_, rfl, trc_act⟩, ⟨_, rfl, trc_form⟩, trivial⟩ ⟨tr_pt rfl, tr_pt rfl, tr_agg (.cons tr_v (.cons tr_v (.cons tr_v .nil))), tr_v, trivial⟩
                  · skip
                    refine v_guard_on rfl rfl ?_
                    refine v_move rfl ?_
                    refine v_guard_off rfl rfl rfl ?_
                    refine v_guard_off rfl rfl rfl ?_
                    refine v_guard_on rfl rfl ?_
                    refine v_pick_f (v := .v (.bool false)) rfl rfl ?_
                    refine v_pick_f rfl rfl ?_
                    refine v_nil ?_
                    refine q_n ?_
                    refine w_f rfl ?_
                    refine w_skip ?_
                    refine q_bn ?_
                    refine q_n ?_
                    refine w_reg rfl ?_
                    refine v_add lay3 rfl rfl (i64r (by omega)) ?_
                    refine v_move rfl ?_
                    refine v_nil ?_
                    refine q_n ?_
                    refine ⟨_, _, _, ?_, ⟨3, rfl, by omega, by intro; omega, by intro; first | (exfalso; omega) | grind, by intro; first | (exfalso; omega) | grind, rfl, rfl⟩, by omega⟩
                    exact turn [some 0, some 1] rfl rfl rfl ⟨⟨_, rfl, trc_act⟩, ⟨_, rfl, trc_form⟩, trivial⟩ ⟨tr_pt rfl, tr_pt rfl, tr_agg (.cons tr_v (.cons tr_v (.cons tr_v .nil))), tr_v, trivial⟩
                · skip
                  refine v_not true rfl rfl ?_
                  refine v_move rfl ?_
                  refine v_guard_off rfl rfl rfl ?_
                  refine v_guard_off rfl rfl rfl ?_
                  refine v_guard_off rfl rfl rfl ?_
                  refine v_guard_off rfl rfl rfl ?_
                  refine v_guard_off rfl rfl rfl ?_
                  refine v_guard_un rfl rfl ?_
                  refine v_guard_un rfl rfl ?_
                  refine v_guard_off rfl rfl rfl ?_
                  refine v_pick_t (v := .v (.bool true)) rfl rfl ?_
                  refine v_nil ?_
                  refine q_n ?_
                  refine w_t rfl ?_
                  refine w_seq ?_
                  refine w_reg rfl ?_
                  refine v_assign (c := .v (.bool false)) rfl ?_
                  refine v_nil ?_
                  refine q_n ?_
                  refine w_ret (q_br (q_r (q_r (q_br (q_r ?_)))))
                  refine r_r rfl ?_
                  exact a_b (by unfold actOk; grind)
              · skip
                exact absurd (by decide) h14
            · skip
              refine w_seq ?_
              refine w_reg rfl ?_
              refine v_lss lay3 rfl rfl (fun h18 => ?_) (fun h18 => ?_)
              · skip
                exact absurd h18 (by decide)
              · skip
                refine v_nil ?_
                refine q_n ?_
                refine w_seq ?_
                refine w_f rfl ?_
                refine w_exit ?_
                refine q_e ?_
                refine q_e ?_
                refine q_hit ?_
                refine q_n ?_
                refine w_seq ?_
                refine w_reg rfl ?_
                refine v_fa_pt (off' := 2) lay42 rfl rfl rfl ?_
                refine v_load_ptb lay4 rfl rfl rfl rfl (fun h19 => ?_) (fun h19 => ?_)
                · skip
                  refine v_move rfl ?_
                  refine v_guard_off rfl rfl rfl ?_
                  refine v_guard_off rfl rfl rfl ?_
                  refine v_guard_off rfl rfl rfl ?_
                  refine v_pick_t (v := .v (.bool true)) rfl rfl ?_
                  refine v_assign rfl ?_
                  refine v_nil ?_
                  refine q_n ?_
                  refine w_ret ?_
                  refine r_r rfl ?_
                  exact a_b (by unfold actOk; grind)
                · skip
                  refine v_move rfl ?_
                  refine v_guard_on rfl rfl ?_
                  refine v_fa_pt (off' := 4) lay26 rfl rfl rfl ?_
                  refine v_guard_on rfl rfl ?_
                  refine v_load_pt (.c _) lay22 rfl rfl rfl rfl ?_
                  refine v_guard_on rfl rfl ?_
                  refine v_binb lay22 rfl rfl rfl (fun h20 => ?_) (fun h20 => ?_)
                  · skip
                    have g20 : (ford .f32 (some x) (fOf .f32 0) == some .eq) = true := h20
                    refine v_pick_f rfl rfl ?_
                    refine v_assign rfl ?_
                    refine v_nil ?_
                    refine q_n ?_
                    refine w_ret ?_
                    refine r_r rfl ?_
                    exact a_b (by unfold actOk; grind)
                  · skip
                    have g20 : (ford .f32 (some x) (fOf .f32 0) == some .eq) = false := h20
                    refine v_pick_f rfl rfl ?_
                    refine v_assign rfl ?_
                    refine v_nil ?_
                    refine q_n ?_
                    refine w_ret ?_
                    refine r_r rfl ?_
                    exact a_b (by unfold actOk; grind)
      · skip
        have g3 : (ford .f32 (some x) (fOf .f32 0) == some .eq) = false := h3
        refine v_guard_on rfl rfl ?_
        refine v_move rfl ?_
        refine v_guard_off rfl rfl rfl ?_
        refine v_guard_off rfl rfl rfl ?_
        refine v_guard_off rfl rfl rfl ?_
        refine v_guard_off rfl rfl rfl ?_
        refine v_guard_on rfl rfl ?_
        refine v_pick_f (v := .v (.bool false)) rfl rfl ?_
        refine v_pick_f rfl rfl ?_
        refine v_nil ?_
        refine q_n ?_
        refine w_f rfl ?_
        refine w_skip ?_
        refine q_n ?_
        refine w_seq ?_
        refine w_reg rfl ?_
        refine v_fa_pt (off' := 0) lay26 rfl rfl rfl ?_
        refine v_load_pt (.c _) lay2 rfl rfl rfl rfl ?_
        refine v_sub lay2 rfl rfl (i64r (by omega)) ?_
        refine v_idx_av (k := 3) lay43 lay42 rfl rfl rfl (by omega) (fun qZ hqZ eZ => ?_)
        have fZ := form_at2 hqZ eZ
        refine v_load_av (q := qZ) formL (.agg [.v _, .v _, .v _]) fenc_len lay42 rfl rfl rfl (by show qZ < 6; omega) rfl ?_
        refine v_alloc (m := 1) (H' := [_, ⟨[.v _, .v _, .v _], 42, true⟩]) lay42 rfl rfl ?_
        refine v_store (H' := [_, ⟨[_, _, _], 42, true⟩]) lay42 rfl rfl rfl rfl rfl rfl ?_
        refine v_nil ?_
        refine q_n ?_
        refine w_seq ?_
        refine w_seq ?_
        refine w_reg rfl ?_
        refine v_fa_pt (off' := 1) lay26 rfl rfl rfl ?_
        refine v_load_pt (.c _) lay2 rfl rfl rfl rfl ?_
        refine v_fa_pt (off' := 2) lay26 rfl rfl rfl ?_
        refine v_load_pt (.c _) lay2 rfl rfl rfl rfl ?_
        refine v_fa_pt (off' := 3) lay26 rfl rfl rfl ?_
        refine v_load_pt (.c _) lay2 rfl rfl rfl rfl ?_
        refine v_build_a [.v _, .v _, .v _] lay44 lay2 rfl ?_
        refine v_move (c := .v (.int .i64 0)) rfl ?_
        refine v_nil ?_
        refine q_n ?_
        refine w_block ?_
        refine w_loop (fun k sl H => ∃ i : Nat, k = 3 - i ∧ i ≤ 3 ∧ (1 ≤ i → 0 ≤ a ∧ a ≤ 999) ∧ (2 ≤ i → (0 ≤ b ∧ b ≤ 999) ∧ (1 < formL[qZ].2.1 ∨ b = 0)) ∧ (3 ≤ i → (0 ≤ c ∧ c ≤ 999) ∧ (2 < formL[qZ].2.1 ∨ c = 0)) ∧ sl = sls [(1, .c (.pt 0 0)), (3, .c (.pt 1 0)), (38, .agg [.v (.int .i64 a), .v (.int .i64 b), .v (.int .i64 c)]), (39, cI i)] ∧ H = [⟨act kd a b c (some x), 26, true⟩, ⟨fenc formL[qZ], 42, true⟩]) ?_ ?_
        · refine ⟨_, _, _, ?_, 0, rfl, by omega, by intro; omega, by intro; omega, by intro; omega, rfl, rfl⟩
          exact turn [some 0, some 1] rfl rfl rfl ⟨⟨_, rfl, trc_act⟩, ⟨_, rfl, trc_form⟩, trivial⟩ ⟨tr_pt rfl, tr_pt rfl, tr_agg (.cons tr_v (.cons tr_v (.cons tr_v .nil))), tr_v, trivial⟩
        · rintro k sl H ⟨i, rfl, hi, p1, p2, p3, rfl, rfl⟩
          rcases (by omega : i = 0 ∨ i = 1 ∨ i = 2 ∨ i = 3) with rfl | rfl | rfl | rfl
          · skip
            refine w_seq ?_
            refine w_reg rfl ?_
            refine v_lss lay3 rfl rfl (fun h22 => ?_) (fun h22 => ?_)
            · skip
              refine v_nil ?_
              refine q_n ?_
              refine w_seq ?_
              refine w_t rfl ?_
              refine w_skip ?_
              refine q_n ?_
              refine w_seq ?_
              refine w_block ?_
              refine w_seq ?_
              refine w_reg rfl ?_
              refine v_move rfl ?_
              refine v_index (.c _) lay44 lay2 rfl rfl ⟨by decide, by decide, Nat.le_of_ble_eq_true rfl⟩ rfl ?_
              refine v_assign rfl ?_
              refine v_assign rfl ?_
              refine v_nil ?_
              refine q_n ?_
              refine w_seq ?_
              refine w_reg rfl ?_
              refine v_move rfl ?_
              refine v_callb (c12 _ _ _) rfl rfl (.cons vw_v (.cons vw_v (.cons vw_v .nil))) (fun h23 => ?_) (fun h23 => ?_)
              · skip
                refine v_not false rfl rfl ?_
                refine v_move rfl ?_
                refine v_guard_on rfl rfl ?_
                refine v_move rfl ?_
                refine v_guard_on rfl rfl ?_
                refine v_fa_pt (off' := 1) lay42 rfl rfl rfl ?_
                refine v_guard_on rfl rfl ?_
                refine v_load_pt (.c _) lay3 rfl rfl rfl rfl ?_
                refine v_guard_on rfl rfl ?_
                refine v_geq lay3 rfl rfl (fun h24 => ?_) (fun h24 => ?_)
                · skip
                  refine v_guard_on rfl rfl ?_
                  refine v_move rfl ?_
                  refine v_guard_on rfl rfl ?_
                  refine v_move rfl ?_
                  refine v_guard_on rfl rfl ?_
                  refine v_neq lay2 rfl rfl (fun h25 => ?_) (fun h25 => ?_)
                  · skip
                    refine v_guard_on rfl rfl ?_
                    refine v_pick_t rfl rfl ?_
                    refine v_pick_f rfl rfl ?_
                    refine v_nil ?_
                    refine q_n ?_
                    refine w_t rfl ?_
                    refine w_seq ?_
                    refine w_reg rfl ?_
                    refine v_assign (c := .v (.bool false)) rfl ?_
                    refine v_nil ?_
                    refine q_n ?_
                    refine w_ret (q_br (q_r (q_r (q_br (q_r ?_)))))
                    refine r_r rfl ?_
                    exact a_b (by unfold actOk; grind)
                  · skip
                    refine v_guard_on rfl rfl ?_
                    refine v_pick_t rfl rfl ?_
                    refine v_pick_f rfl rfl ?_
                    refine v_nil ?_
                    refine q_n ?_
                    refine w_f rfl ?_
                    refine w_skip ?_
                    refine q_bn ?_
                    refine q_n ?_
                    refine w_reg rfl ?_
                    refine v_add lay3 rfl rfl (i64r (by omega)) ?_
                    refine v_move rfl ?_
                    refine v_nil ?_
                    refine q_n ?_
                    refine ⟨_, _, _, ?_, ⟨1, rfl, by omega, by intro; omega, by intro; first | (exfalso; omega) | grind, by intro; first | (exfalso; omega) | grind, rfl, rfl⟩, by omega⟩
                    exact turn [some 0, some 1] rfl rfl rfl ⟨⟨_, rfl, trc_act⟩, ⟨_, rfl, trc_form⟩, trivial⟩ ⟨tr_pt rfl, tr_pt rfl, tr_agg (.cons tr_v (.cons tr_v (.cons tr_v .nil))), tr_v, trivial⟩
                · skip
                  refine v_guard_on rfl rfl ?_
                  refine v_move rfl ?_
                  refine v_guard_off rfl rfl rfl ?_
                  refine v_guard_off rfl rfl rfl ?_
                  refine v_guard_on rfl rfl ?_
                  refine v_pick_f (v := .v (.bool false)) rfl rfl ?_
                  refine v_pick_f rfl rfl ?_
                  refine v_nil ?_
                  refine q_n ?_
                  refine w_f rfl ?_
                  refine w_skip ?_
                  refine q_bn ?_
                  refine q_n ?_
                  refine w_reg rfl ?_
                  refine v_add lay3 rfl rfl (i64r (by omega)) ?_
                  refine v_move rfl ?_
                  refine v_nil ?_
                  refine q_n ?_
                  refine ⟨_, _, _, ?_, ⟨1, rfl, by omega, by intro; omega, by intro; first | (exfalso; omega) | grind, by intro; first | (exfalso; omega) | grind, rfl, rfl⟩, by omega⟩
                  exact turn [some 0, some 1] rfl rfl rfl ⟨⟨_, rfl, trc_act⟩, ⟨_, rfl, trc_form⟩, trivial⟩ ⟨tr_pt rfl, tr_pt rfl, tr_agg (.cons tr_v (.cons tr_v (.cons tr_v .nil))), tr_v, trivial⟩
              · skip
                refine v_not true rfl rfl ?_
                refine v_move rfl ?_
                refine v_guard_off rfl rfl rfl ?_
                refine v_guard_off rfl rfl rfl ?_
                refine v_guard_off rfl rfl rfl ?_
                refine v_guard_off rfl rfl rfl ?_
                refine v_guard_off rfl rfl rfl ?_
                refine v_guard_un rfl rfl ?_
                refine v_guard_un rfl rfl ?_
                refine v_guard_off rfl rfl rfl ?_
                refine v_pick_t (v := .v (.bool true)) rfl rfl ?_
                refine v_nil ?_
                refine q_n ?_
                refine w_t rfl ?_
                refine w_seq ?_
                refine w_reg rfl ?_
                refine v_assign (c := .v (.bool false)) rfl ?_
                refine v_nil ?_
                refine q_n ?_
                refine w_ret (q_br (q_r (q_r (q_br (q_r ?_)))))
                refine r_r rfl ?_
                exact a_b (by unfold actOk; grind)
            · skip
              exact absurd (by decide) h22
          · skip
            refine w_seq ?_
            refine w_reg rfl ?_
            refine v_lss lay3 rfl rfl (fun h26 => ?_) (fun h26 => ?_)
            · skip
              refine v_nil ?_
              refine q_n ?_
              refine w_seq ?_
              refine w_t rfl ?_
              refine w_skip ?_
              refine q_n ?_
              refine w_seq ?_
              refine w_block ?_
              refine w_seq ?_
              refine w_reg rfl ?_
              refine v_move rfl ?_
              refine v_index (.c _) lay44 lay2 rfl rfl ⟨by decide, by decide, Nat.le_of_ble_eq_true rfl⟩ rfl ?_
              refine v_assign rfl ?_
              refine v_assign rfl ?_
              refine v_nil ?_
              refine q_n ?_
              refine w_seq ?_
              refine w_reg rfl ?_
              refine v_move rfl ?_
              refine v_callb (c12 _ _ _) rfl rfl (.cons vw_v (.cons vw_v (.cons vw_v .nil))) (fun h27 => ?_) (fun h27 => ?_)
              · skip
                refine v_not false rfl rfl ?_
                refine v_move rfl ?_
                refine v_guard_on rfl rfl ?_
                refine v_move rfl ?_
                refine v_guard_on rfl rfl ?_
                refine v_fa_pt (off' := 1) lay42 rfl rfl rfl ?_
                refine v_guard_on rfl rfl ?_
                refine v_load_pt (.c _) lay3 rfl rfl rfl rfl ?_
                refine v_guard_on rfl rfl ?_
                refine v_geq lay3 rfl rfl (fun h28 => ?_) (fun h28 => ?_)
                · skip
                  refine v_guard_on rfl rfl ?_
                  refine v_move rfl ?_
                  refine v_guard_on rfl rfl ?_
                  refine v_move rfl ?_
                  refine v_guard_on rfl rfl ?_
                  refine v_neq lay2 rfl rfl (fun h29 => ?_) (fun h29 => ?_)
                  · skip
                    refine v_guard_on rfl rfl ?_
                    refine v_pick_t rfl rfl ?_
                    refine v_pick_f rfl rfl ?_
                    refine v_nil ?_
                    refine q_n ?_
                    refine w_t rfl ?_
                    refine w_seq ?_
                    refine w_reg rfl ?_
                    refine v_assign (c := .v (.bool false)) rfl ?_
                    refine v_nil ?_
                    refine q_n ?_
                    refine w_ret (q_br (q_r (q_r (q_br (q_r ?_)))))
                    refine r_r rfl ?_
                    exact a_b (by unfold actOk; grind)
                  · skip
                    refine v_guard_on rfl rfl ?_
                    refine v_pick_t rfl rfl ?_
                    refine v_pick_f rfl rfl ?_
                    refine v_nil ?_
                    refine q_n ?_
                    refine w_f rfl ?_
                    refine w_skip ?_
                    refine q_bn ?_
                    refine q_n ?_
                    refine w_reg rfl ?_
                    refine v_add lay3 rfl rfl (i64r (by omega)) ?_
                    refine v_move rfl ?_
                    refine v_nil ?_
                    refine q_n ?_
                    refine ⟨_, _, _, ?_, ⟨2, rfl, by omega, by intro; omega, by intro; first | (exfalso; omega) | grind, by intro; first | (exfalso; omega) | grind, rfl, rfl⟩, by omega⟩
                    exact turn [some 0, some 1] rfl rfl rfl ⟨⟨_, rfl, trc_act⟩, ⟨_, rfl, trc_form⟩, trivial⟩ ⟨tr_pt rfl, tr_pt rfl, tr_agg (.cons tr_v (.cons tr_v (.cons tr_v .nil))), tr_v, trivial⟩
                · skip
                  refine v_guard_on rfl rfl ?_
                  refine v_move rfl ?_
                  refine v_guard_off rfl rfl rfl ?_
                  refine v_guard_off rfl rfl rfl ?_
                  refine v_guard_on rfl rfl ?_
                  refine v_pick_f (v := .v (.bool false)) rfl rfl ?_
                  refine v_pick_f rfl rfl ?_
                  refine v_nil ?_
                  refine q_n ?_
                  refine w_f rfl ?_
                  refine w_skip ?_
                  refine q_bn ?_
                  refine q_n ?_
                  refine w_reg rfl ?_
                  refine v_add lay3 rfl rfl (i64r (by omega)) ?_
                  refine v_move rfl ?_
                  refine v_nil ?_
                  refine q_n ?_
                  refine ⟨_, _, _, ?_, ⟨2, rfl, by omega, by intro; omega, by intro; first | (exfalso; omega) | grind, by intro; first | (exfalso; omega) | grind, rfl, rfl⟩, by omega⟩
                  exact turn [some 0, some 1] rfl rfl rfl ⟨⟨_, rfl, trc_act⟩, ⟨_, rfl, trc_form⟩, trivial⟩ ⟨tr_pt rfl, tr_pt rfl, tr_agg (.cons tr_v (.cons tr_v (.cons tr_v .nil))), tr_v, trivial⟩
              · skip
                refine v_not true rfl rfl ?_
                refine v_move rfl ?_
                refine v_guard_off rfl rfl rfl ?_
                refine v_guard_off rfl rfl rfl ?_
                refine v_guard_off rfl rfl rfl ?_
                refine v_guard_off rfl rfl rfl ?_
                refine v_guard_off rfl rfl rfl ?_
                refine v_guard_un rfl rfl ?_
                refine v_guard_un rfl rfl ?_
                refine v_guard_off rfl rfl rfl ?_
                refine v_pick_t (v := .v (.bool true)) rfl rfl ?_
                refine v_nil ?_
                refine q_n ?_
                refine w_t rfl ?_
                refine w_seq ?_
                refine w_reg rfl ?_
                refine v_assign (c := .v (.bool false)) rfl ?_
                refine v_nil ?_
                refine q_n ?_
                refine w_ret (q_br (q_r (q_r (q_br (q_r ?_)))))
                refine r_r rfl ?_
                exact a_b (by unfold actOk; grind)
            · skip
              exact absurd (by decide) h26
          · skip
            refine w_seq ?_
            refine w_reg rfl ?_
            refine v_lss lay3 rfl rfl (fun h30 => ?_) (fun h30 => ?_)
            · skip
              refine v_nil ?_
              refine q_n ?_
              refine w_seq ?_
              refine w_t rfl ?_
              refine w_skip ?_
              refine q_n ?_
              refine w_seq ?_
              refine w_block ?_
              refine w_seq ?_
              refine w_reg rfl ?_
              refine v_move rfl ?_
              refine v_index (.c _) lay44 lay2 rfl rfl ⟨by decide, by decide, Nat.le_of_ble_eq_true rfl⟩ rfl ?_
              refine v_assign rfl ?_
              refine v_assign rfl ?_
              refine v_nil ?_
              refine q_n ?_
              refine w_seq ?_
              refine w_reg rfl ?_
              refine v_move rfl ?_
              refine v_callb (c12 _ _ _) rfl rfl (.cons vw_v (.cons vw_v (.cons vw_v .nil))) (fun h31 => ?_) (fun h31 => ?_)
              · skip
                refine v_not false rfl rfl ?_
                refine v_move rfl ?_
                refine v_guard_on rfl rfl ?_
                refine v_move rfl ?_
                refine v_guard_on rfl rfl ?_
                refine v_fa_pt (off' := 1) lay42 rfl rfl rfl ?_
                refine v_guard_on rfl rfl ?_
                refine v_load_pt (.c _) lay3 rfl rfl rfl rfl ?_
                refine v_guard_on rfl rfl ?_
                refine v_geq lay3 rfl rfl (fun h32 => ?_) (fun h32 => ?_)
                · skip
                  refine v_guard_on rfl rfl ?_
                  refine v_move rfl ?_
                  refine v_guard_on rfl rfl ?_
                  refine v_move rfl ?_
                  refine v_guard_on rfl rfl ?_
                  refine v_neq lay2 rfl rfl (fun h33 => ?_) (fun h33 => ?_)
                  · skip
                    refine v_guard_on rfl rfl ?_
                    refine v_pick_t rfl rfl ?_
                    refine v_pick_f rfl rfl ?_
                    refine v_nil ?_
                    refine q_n ?_
                    refine w_t rfl ?_
                    refine w_seq ?_
                    refine w_reg rfl ?_
                    refine v_assign (c := .v (.bool false)) rfl ?_
                    refine v_nil ?_
                    refine q_n ?_
                    refine w_ret (q_br (q_r (q_r (q_br (q_r ?_)))))
                    refine r_r rfl ?_
                    exact a_b (by unfold actOk; grind)
                  · skip
                    refine v_guard_on rfl rfl ?_
                    refine v_pick_t rfl rfl ?_
                    refine v_pick_f rfl rfl ?_
                    refine v_nil ?_
                    refine q_n ?_
                    refine w_f rfl ?_
                    refine w_skip ?_
                    refine q_bn ?_
                    refine q_n ?_
                    refine w_reg rfl ?_
                    refine v_add lay3 rfl rfl (i64r (by omega)) ?_
                    refine v_move rfl ?_
                    refine v_nil ?_
                    refine q_n ?_
                    refine ⟨_, _, _, ?_, ⟨3, rfl, by omega, by intro; omega, by intro; first | (exfalso; omega) | grind, by intro; first | (exfalso; omega) | grind, rfl, rfl⟩, by omega⟩
                    exact turn [some 0, some 1] rfl rfl rfl ⟨⟨_, rfl, trc_act⟩, ⟨_, rfl, trc_form⟩, trivial⟩ ⟨tr_pt rfl, tr_pt rfl, tr_agg (.cons tr_v (.cons tr_v (.cons tr_v .nil))), tr_v, trivial⟩
                · skip
                  refine v_guard_on rfl rfl ?_
                  refine v_move rfl ?_
                  refine v_guard_off rfl rfl rfl ?_
                  refine v_guard_off rfl rfl rfl ?_
                  refine v_guard_on rfl rfl ?_
                  refine v_pick_f (v := .v (.bool false)) rfl rfl ?_
                  refine v_pick_f rfl rfl ?_
                  refine v_nil ?_
                  refine q_n ?_
                  refine w_f rfl ?_
                  refine w_skip ?_
                  refine q_bn ?_
                  refine q_n ?_
                  refine w_reg rfl ?_
                  refine v_add lay3 rfl rfl (i64r (by omega)) ?_
                  refine v_move rfl ?_
                  refine v_nil ?_
                  refine q_n ?_
                  refine ⟨_, _, _, ?_, ⟨3, rfl, by omega, by intro; omega, by intro; first | (exfalso; omega) | grind, by intro; first | (exfalso; omega) | grind, rfl, rfl⟩, by omega⟩
                  exact turn [some 0, some 1] rfl rfl rfl ⟨⟨_, rfl, trc_act⟩, ⟨_, rfl, trc_form⟩, trivial⟩ ⟨tr_pt rfl, tr_pt rfl, tr_agg (.cons tr_v (.cons tr_v (.cons tr_v .nil))), tr_v, trivial⟩
              · skip
                refine v_not true rfl rfl ?_
                refine v_move rfl ?_
                refine v_guard_off rfl rfl rfl ?_
                refine v_guard_off rfl rfl rfl ?_
                refine v_guard_off rfl rfl rfl ?_
                refine v_guard_off rfl rfl rfl ?_
                refine v_guard_off rfl rfl rfl ?_
                refine v_guard_un rfl rfl ?_
                refine v_guard_un rfl rfl ?_
                refine v_guard_off rfl rfl rfl ?_
                refine v_pick_t (v := .v (.bool true)) rfl rfl ?_
                refine v_nil ?_
                refine q_n ?_
                refine w_t rfl ?_
                refine w_seq ?_
                refine w_reg rfl ?_
                refine v_assign (c := .v (.bool false)) rfl ?_
                refine v_nil ?_
                refine q_n ?_
                refine w_ret (q_br (q_r (q_r (q_br (q_r ?_)))))
                refine r_r rfl ?_
                exact a_b (by unfold actOk; grind)
            · skip
              exact absurd (by decide) h30
          · skip
            refine w_seq ?_
            refine w_reg rfl ?_
            refine v_lss lay3 rfl rfl (fun h34 => ?_) (fun h34 => ?_)
            · skip
              exact absurd h34 (by decide)
            · skip
              refine v_nil ?_
              refine q_n ?_
              refine w_seq ?_
              refine w_f rfl ?_
              refine w_exit ?_
              refine q_e ?_
              refine q_e ?_
              refine q_hit ?_
              refine q_n ?_
              refine w_seq ?_
              refine w_reg rfl ?_
              refine v_fa_pt (off' := 2) lay42 rfl rfl rfl ?_
              refine v_load_ptb lay4 rfl rfl rfl rfl (fun h35 => ?_) (fun h35 => ?_)
              · skip
                refine v_move rfl ?_
                refine v_guard_off rfl rfl rfl ?_
                refine v_guard_off rfl rfl rfl ?_
                refine v_guard_off rfl rfl rfl ?_
                refine v_pick_t (v := .v (.bool true)) rfl rfl ?_
                refine v_assign rfl ?_
                refine v_nil ?_
                refine q_n ?_
                refine w_ret ?_
                refine r_r rfl ?_
                exact a_b (by unfold actOk; grind)
              · skip
                refine v_move rfl ?_
                refine v_guard_on rfl rfl ?_
                refine v_fa_pt (off' := 4) lay26 rfl rfl rfl ?_
                refine v_guard_on rfl rfl ?_
                refine v_load_pt (.c _) lay22 rfl rfl rfl rfl ?_
                refine v_guard_on rfl rfl ?_
                refine v_binb lay22 rfl rfl rfl (fun h36 => ?_) (fun h36 => ?_)
                · skip
                  have g36 : (ford .f32 (some x) (fOf .f32 0) == some .eq) = true := h36
                  refine v_pick_f rfl rfl ?_
                  refine v_assign rfl ?_
                  refine v_nil ?_
                  refine q_n ?_
                  refine w_ret ?_
                  refine r_r rfl ?_
                  exact a_b (by unfold actOk; grind)
                · skip
                  have g36 : (ford .f32 (some x) (fOf .f32 0) == some .eq) = false := h36
                  refine v_pick_f rfl rfl ?_
                  refine v_assign rfl ?_
                  refine v_nil ?_
                  refine q_n ?_
                  refine w_ret ?_
                  refine r_r rfl ?_
                  exact a_b (by unfold actOk; grind)
    · skip
      refine v_guard_on rfl rfl ?_
      refine v_not true rfl rfl ?_
      refine v_pick_f rfl rfl ?_
      refine v_move rfl ?_
      refine v_guard_off rfl rfl rfl ?_
      refine v_guard_off rfl rfl rfl ?_
      refine v_guard_off rfl rfl rfl ?_
      refine v_guard_off rfl rfl rfl ?_
      refine v_guard_un rfl rfl ?_
      refine v_guard_un rfl rfl ?_
      refine v_guard_un rfl rfl ?_
      refine v_guard_un rfl rfl ?_
      refine v_guard_off rfl rfl rfl ?_
      refine v_pick_t (v := .v (.bool true)) rfl rfl ?_
      refine v_nil ?_
      refine q_n ?_
      refine w_t rfl ?_
      refine w_seq ?_
      refine w_reg rfl ?_
      refine v_assign (c := .v (.bool false)) rfl ?_
      refine v_nil ?_
      refine q_n ?_
      refine w_ret (q_r ?_)
      refine r_r rfl ?_
      exact a_b (by unfold actOk; grind)
  · skip
    refine v_not true rfl rfl ?_
    refine v_move rfl ?_
    refine v_guard_off rfl rfl rfl ?_
    refine v_guard_off rfl rfl rfl ?_
    refine v_guard_off rfl rfl rfl ?_
    refine v_guard_off rfl rfl rfl ?_
    refine v_pick_t (v := .v (.bool true)) rfl rfl ?_
    refine v_move rfl ?_
    refine v_guard_off rfl rfl rfl ?_
    refine v_guard_off rfl rfl rfl ?_
    refine v_guard_off rfl rfl rfl ?_
    refine v_guard_off rfl rfl rfl ?_
    refine v_guard_un rfl rfl ?_
    refine v_guard_un rfl rfl ?_
    refine v_guard_un rfl rfl ?_
    refine v_guard_un rfl rfl ?_
    refine v_guard_off rfl rfl rfl ?_
    refine v_pick_t (v := .v (.bool true)) rfl rfl ?_
    refine v_nil ?_
    refine q_n ?_
    refine w_t rfl ?_
    refine w_seq ?_
    refine w_reg rfl ?_
    refine v_assign (c := .v (.bool false)) rfl ?_
    refine v_nil ?_
    refine q_n ?_
    refine w_ret (q_r ?_)
    refine r_r rfl ?_
    exact a_b (by unfold actOk; grind)

theorem c7n (kd a b c : Int) : PureC X 7 [.agg (act kd a b c none)] (cB (decide (actOk kd a b c none))) := by
  refine PureC.of_body (drawD_ok X) (fun _ _ => Go.Proofs.Tryd.call7 _ _) Go.Proofs.Tryd.func7 rfl (n := 64) rfl ?_
  refine w_seq ?_
  refine w_reg rfl ?_
  refine v_box (m := 0) (H' := [_]) lay26 rfl rfl rfl ?_
  refine v_assign (c := .v (.bool false)) rfl ?_
  refine v_nil ?_
  refine q_n ?_
  refine w_seq ?_
  refine w_seq ?_
  refine w_reg rfl ?_
  refine v_fa_pt (off' := 0) lay26 rfl rfl rfl ?_
  refine v_load_pt (.c _) lay2 rfl rfl rfl rfl ?_
  refine v_callb (c12 _ _ _) rfl rfl (.cons vw_v (.cons vw_v (.cons vw_v .nil))) (fun h1 => ?_) (fun h1 => ?_)
  · skip
    refine v_not false rfl rfl ?_
    refine v_move rfl ?_
    refine v_guard_on rfl rfl ?_
    refine v_fa_pt (off' := 4) lay26 rfl rfl rfl ?_
    refine v_guard_on rfl rfl ?_
    refine v_load_pt (.c _) lay22 rfl rfl rfl rfl ?_
    refine v_guard_on rfl rfl ?_
    refine v_callb (c13 _) rfl rfl (.cons vw_f .nil) (fun h2 => ?_) (fun h2 => ?_)
    · skip
      exact absurd h2 (by decide)
    · skip
      refine v_guard_on rfl rfl ?_
      refine v_not true rfl rfl ?_
      refine v_pick_f rfl rfl ?_
      refine v_move rfl ?_
      refine v_guard_off rfl rfl rfl ?_
      refine v_guard_off rfl rfl rfl ?_
      refine v_guard_off rfl rfl rfl ?_
      refine v_guard_off rfl rfl rfl ?_
      refine v_guard_un rfl rfl ?_
      refine v_guard_un rfl rfl ?_
      refine v_guard_un rfl rfl ?_
      refine v_guard_un rfl rfl ?_
      refine v_guard_off rfl rfl rfl ?_
      refine v_pick_t (v := .v (.bool true)) rfl rfl ?_
      refine v_nil ?_
      refine q_n ?_
      refine w_t rfl ?_
      refine w_seq ?_
      refine w_reg rfl ?_
      refine v_assign (c := .v (.bool false)) rfl ?_
      refine v_nil ?_
      refine q_n ?_
      refine w_ret (q_r ?_)
      refine r_r rfl ?_
      exact a_b ⟨fun hh => (by cases hh), fun hh => absurd hh.2.2.2.2.1 (by decide)⟩
  · skip
    refine v_not true rfl rfl ?_
    refine v_move rfl ?_
    refine v_guard_off rfl rfl rfl ?_
    refine v_guard_off rfl rfl rfl ?_
    refine v_guard_off rfl rfl rfl ?_
    refine v_guard_off rfl rfl rfl ?_
    refine v_pick_t (v := .v (.bool true)) rfl rfl ?_
    refine v_move rfl ?_
    refine v_guard_off rfl rfl rfl ?_
    refine v_guard_off rfl rfl rfl ?_
    refine v_guard_off rfl rfl rfl ?_
    refine v_guard_off rfl rfl rfl ?_
    refine v_guard_un rfl rfl ?_
    refine v_guard_un rfl rfl ?_
    refine v_guard_un rfl rfl ?_
    refine v_guard_un rfl rfl ?_
    refine v_guard_off rfl rfl rfl ?_
    refine v_pick_t (v := .v (.bool true)) rfl rfl ?_
    refine v_nil ?_
    refine q_n ?_
    refine w_t rfl ?_
    refine w_seq ?_
    refine w_reg rfl ?_
    refine v_assign (c := .v (.bool false)) rfl ?_
    refine v_nil ?_
    refine q_n ?_
    refine w_ret (q_r ?_)
    refine r_r rfl ?_
    exact a_b ⟨fun hh => (by cases hh), fun hh => absurd hh.2.2.2.2.1 (by decide)⟩

/-- A single as data. -/
def Sg (x : Option Nat) : Prop := okF .f32 x ∧ ∀ b, x = some b → b < 2 ^ 32
theorem c7 (kd a b c : Int) (x : Option Nat) (hx : Sg x) : PureC X 7 [.agg (act kd a b c x)] (cB (decide (actOk kd a b c x))) := by
  cases x with
  | none => exact c7n kd a b c
  | some x =>
    obtain ⟨w, hw, -⟩ := wide_some hx.1
    exact c7s kd a b c x w (hx.2 x rfl) hw

theorem c3 (kd a b c : Int) (x : Option Nat) (hx : Sg x) : PureC X 3 [.agg (act kd a b c x)] (cB true) := by
  refine PureC.of_body (drawD_ok X) (fun _ _ => Go.Proofs.Tryd.call3 _ _) Go.Proofs.Tryd.func3 rfl (n := 14) rfl ?_
  refine w_seq ?_
  refine w_reg rfl ?_
  refine v_box (m := 0) (H' := [_]) lay24 rfl rfl rfl ?_
  refine v_assign (c := .v (.bool false)) rfl ?_
  refine v_nil ?_
  refine q_n ?_
  refine w_seq ?_
  refine w_reg rfl ?_
  refine v_load_pt (.agg [_, _, _, _, _]) lay24 rfl rfl rfl rfl ?_
  refine v_call (c6 _ _ _ _ _) rfl rfl rfl (.cons (vw_agg (.cons vw_v (.cons vw_v (.cons vw_v (.cons vw_v (.cons vw_f .nil)))))) .nil) ?_
  refine v_callb (c5 _ _ _ _ _) rfl rfl (.cons (vw_agg (.cons vw_v (.cons vw_v (.cons vw_v (.cons vw_v (.cons vw_f .nil)))))) .nil) (fun h1 => ?_) (fun h1 => ?_)
  · skip
    refine v_assign rfl ?_
    refine v_nil ?_
    refine q_n ?_
    refine w_seq ?_
    refine w_reg rfl ?_
    refine v_load_pt (.agg [_, _, _, _, _]) lay24 rfl rfl rfl rfl ?_
    refine v_call (c6 _ _ _ _ _) rfl rfl rfl (.cons (vw_agg (.cons vw_v (.cons vw_v (.cons vw_v (.cons vw_v (.cons vw_f .nil)))))) .nil) ?_
    refine v_callb (c7 _ _ _ _ _ (by assumption)) rfl rfl (.cons (vw_agg (.cons vw_v (.cons vw_v (.cons vw_v (.cons vw_v (.cons vw_f .nil)))))) .nil) (fun h2 => ?_) (fun h2 => ?_)
    · skip
      refine v_assign rfl ?_
      refine v_nil ?_
      refine q_n ?_
      refine w_seq ?_
      refine w_seq ?_
      refine w_reg rfl ?_
      refine v_move rfl ?_
      refine v_move rfl ?_
      refine v_bin (c := .v (.bool false)) lay4 rfl rfl rfl ?_
      refine v_nil ?_
      refine q_n ?_
      refine w_f rfl ?_
      refine w_skip ?_
      refine q_n ?_
      refine w_seq ?_
      refine w_reg rfl ?_
      refine v_assign (c := .v (.bool true)) rfl ?_
      refine v_nil ?_
      refine q_n ?_
      refine w_ret ?_
      refine r_r rfl ?_
      exact tr_v
    · skip
      exact absurd h1 h2
  · skip
    refine v_assign rfl ?_
    refine v_nil ?_
    refine q_n ?_
    refine w_seq ?_
    refine w_reg rfl ?_
    refine v_load_pt (.agg [_, _, _, _, _]) lay24 rfl rfl rfl rfl ?_
    refine v_call (c6 _ _ _ _ _) rfl rfl rfl (.cons (vw_agg (.cons vw_v (.cons vw_v (.cons vw_v (.cons vw_v (.cons vw_f .nil)))))) .nil) ?_
    refine v_callb (c7 _ _ _ _ _ (by assumption)) rfl rfl (.cons (vw_agg (.cons vw_v (.cons vw_v (.cons vw_v (.cons vw_v (.cons vw_f .nil)))))) .nil) (fun h3 => ?_) (fun h3 => ?_)
    · skip
      exact absurd h3 h1
    · skip
      refine v_assign rfl ?_
      refine v_nil ?_
      refine q_n ?_
      refine w_seq ?_
      refine w_seq ?_
      refine w_reg rfl ?_
      refine v_move rfl ?_
      refine v_move rfl ?_
      refine v_bin (c := .v (.bool false)) lay4 rfl rfl rfl ?_
      refine v_nil ?_
      refine q_n ?_
      refine w_f rfl ?_
      refine w_skip ?_
      refine q_n ?_
      refine w_seq ?_
      refine w_reg rfl ?_
      refine v_assign (c := .v (.bool true)) rfl ?_
      refine v_nil ?_
      refine q_n ?_
      refine w_ret ?_
      refine r_r rfl ?_
      exact tr_v
end Go.VL
