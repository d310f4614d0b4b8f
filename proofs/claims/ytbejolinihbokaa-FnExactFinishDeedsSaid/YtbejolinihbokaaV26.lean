/- Floats: widened, rounded, counted. Over any program. -/
import Derived.Test.YtbejolinihbokaaV25
namespace Go.VL
open Go.RowKit

/-- A float as data: no NaN's bits. -/
def okF (k : FloatKind) (x : Option Nat) : Prop := ∀ b, x = some b → isNaN k b = false
theorem okF_none {k : FloatKind} : okF k none := fun b h => by cases h
theorem okF_fOf {k : FloatKind} (b : Nat) : okF k (fOf k b) := fun c h => by
  unfold fOf at h
  split at h
  · cases h
  · rename_i hn
    simp only [Option.some.injEq] at h
    subst h
    simpa using hn
theorem fOf_ok {k : FloatKind} {b : Nat} (h : okF k (some b)) : fOf k b = some b := by
  unfold fOf
  rw [h b rfl]; rfl
/-- A number, or an infinity. -/
theorem okF_read {k : FloatKind} {b : Nat} (h : okF k (some b)) : (∃ s m e, k.format.read b = .number s m e) ∨ ∃ s, k.format.read b = .infinity s := by
  have h1 := h b rfl
  rw [isNaN_read] at h1
  rcases read_num k b with ⟨s, t, hr⟩ | ⟨s, hr⟩ | h2
  · rw [hr] at h1; cases h1
  · exact .inr ⟨s, hr⟩
  · exact .inl h2
theorem okF_of_read {k : FloatKind} {b : Nat} (h : (∃ s m e, k.format.read b = .number s m e) ∨ ∃ s, k.format.read b = .infinity s) : okF k (some b) := fun c hc => by
  simp only [Option.some.injEq] at hc
  subst hc
  rw [isNaN_read]
  rcases h with ⟨s, m, e, hr⟩ | ⟨s, hr⟩ <;> rw [hr] <;> rfl
theorem compare_self (a : Int) : compare a a = Ordering.eq := by
  show compareOfLessAndEq a a = _
  unfold compareOfLessAndEq
  simp
theorem compare_selfN (a : Nat) : compare a a = Ordering.eq := by
  show compareOfLessAndEq a a = _
  unfold compareOfLessAndEq
  simp
/-- It is as great as itself. -/
theorem ford_self {k : FloatKind} {b : Nat} (h : okF k (some b)) : ford k (some b) (some b) = some .eq := by
  simp only [ford, Option.bind_some, Ieee.Format.order]
  rcases okF_read h with ⟨s, m, e, hr⟩ | ⟨s, hr⟩ <;> rw [hr] <;> simp only [Ieee.Datum.order]
  · rw [compare_self]
  · rw [compare_selfN]
theorem ford_none {k : FloatKind} : ford k none none = none := rfl

/-- A single as a double. -/
def wide (x : Option Nat) : Option Nat := (convF .f32 .f64 x).getD none
theorem wide_some {b : Nat} (h : okF .f32 (some b)) : ∃ r, convF .f32 .f64 (some b) = some (some r) ∧ okF .f64 (some r) := by
  rcases okF_read h with ⟨s, m, e, hr⟩ | ⟨s, hr⟩
  · refine ⟨_, convF_wide hr, ?_⟩
    obtain ⟨hm, he⟩ := read_single hr
    obtain ⟨r, h1, h2⟩ := nearest_wide (s := s) hm he
    obtain ⟨m', e', h3⟩ := read_word (s := s) h2
    rw [h1]
    exact okF_of_read (.inl ⟨s, m', e', h3⟩)
  · refine ⟨FloatKind.f64.encode (.infinity s), ?_, ?_⟩
    · unfold convF
      rw [if_neg (by decide)]
      have hd : FloatKind.f32.decode b = .infinity s := hr
      simp only [hd]
    · refine okF_of_read (.inr ⟨s, ?_⟩)
      cases s <;> rfl
theorem convF_single {x : Option Nat} (h : okF .f32 x) : convF .f32 .f64 x = some (wide x) := by
  cases x with
  | none => rfl
  | some b =>
    obtain ⟨r, h1, -⟩ := wide_some h
    unfold wide
    rw [h1]; rfl
theorem wide_ok {x : Option Nat} (h : okF .f32 x) : okF .f64 (wide x) := by
  cases x with
  | none => exact okF_none
  | some b =>
    obtain ⟨r, h1, h2⟩ := wide_some h
    unfold wide
    rw [h1]; exact h2
theorem wide_is {b : Nat} (h : okF .f32 (some b)) : ∃ r, wide (some b) = some r := by
  obtain ⟨r, h1, -⟩ := wide_some h
  exact ⟨r, by unfold wide; rw [h1]; rfl⟩
theorem integral_num {b : Nat} (h : okF .f64 (some b)) : ((FloatKind.f64.decode b).integral .even).isNaN = false := by
  have hd : FloatKind.f64.decode b = FloatKind.f64.format.read b := rfl
  rw [hd]
  rcases okF_read h with ⟨s, m, e, hr⟩ | ⟨s, hr⟩ <;> rw [hr] <;> rfl
theorem rte_ok {x : Option Nat} (h : okF .f64 x) : okF .f64 (rte x) := by
  cases x with
  | none => exact okF_none
  | some b =>
    intro c hc
    simp only [rte, Option.map_some, Option.some.injEq] at hc
    subst hc
    exact write_num .f64 _ (integral_num h)
theorem pure_rte_any {X : Cx} {g : FuncId} {fn : Func} (hf : X.P.funcs[g]? = some fn) (hname : (fn.name == "runtime.NumGoroutine") = false) (hb : fn.body.isNone = true) (hn : Extern.findNext fn = none) (he : Extern.find fn = some (Extern.MathFloor.toIntegral "math.RoundToEven" .even)) {x : Option Nat} (h : okF .f64 x) :
    PureC X g [.c (.f .f64 x)] (.c (.f .f64 (rte x))) := by
  cases x with
  | none => exact pure_rte_nan hf hname hb hn he fun b _ s t _ => quiet_nan s t
  | some b => exact pure_rte hf hname hb hn he b (integral_num h)

/-! ### A number within bounds, cut -/
theorem cut_le {s : Bool} {n d A : Nat} (h : n ≤ A * 2 ^ d) : Ieee.Toward.zero.cut s n d ≤ A := by
  unfold Ieee.Toward.cut
  simp only [Bool.toNat_false, Nat.add_zero, Nat.one_shiftLeft]
  by_cases hd : d ≤ n.log2 + 2
  · rw [Nat.min_eq_left hd]
    exact Nat.div_le_of_le_mul (by rw [Nat.mul_comm]; exact h)
  · rw [Nat.min_eq_right (by omega)]
    have h1 : n < 2 ^ (n.log2 + 1) := Nat.lt_log2_self
    have h2 : n / 2 ^ (n.log2 + 2) = 0 := Nat.div_eq_of_lt (Nat.lt_of_lt_of_le h1 (Nat.pow_le_pow_right (by decide) (by omega)))
    rw [h2]; exact Nat.zero_le _
theorem num_le {m A p : Nat} {e : Int} (h : m <<< (e - min e (-(p : Int))).toNat ≤ (A * 2 ^ p) <<< (-(p : Int) - min e (-(p : Int))).toNat) : m <<< e.toNat ≤ A * 2 ^ (-e).toNat := by
  simp only [Nat.shiftLeft_eq] at h ⊢
  by_cases he : -(p : Int) ≤ e
  · rw [show min e (-(p : Int)) = -(p : Int) by omega] at h
    rw [show (-(p : Int) - -(p : Int)).toNat = 0 by omega] at h
    simp only [Nat.pow_zero, Nat.mul_one] at h
    by_cases h0 : 0 ≤ e
    · rw [show (e - -(p : Int)).toNat = e.toNat + p by omega, Nat.pow_add, ← Nat.mul_assoc] at h
      rw [show (-e).toNat = 0 by omega]
      simpa using Nat.le_of_mul_le_mul_right h (Nat.two_pow_pos p)
    · have hp : p = (e - -(p : Int)).toNat + (-e).toNat := by omega
      rw [show e.toNat = 0 by omega]
      generalize (e - -(p : Int)).toNat = x at *
      generalize (-e).toNat = u at *
      subst hp
      rw [Nat.pow_add, ← Nat.mul_assoc, Nat.mul_right_comm] at h
      simpa using Nat.le_of_mul_le_mul_right h (Nat.two_pow_pos x)
  · rw [show min e (-(p : Int)) = e by omega] at h
    rw [show (e - e).toNat = 0 by omega] at h
    simp only [Nat.pow_zero, Nat.mul_one] at h
    rw [show e.toNat = 0 by omega, show (-e).toNat = p + (-(p : Int) - e).toNat by omega, Nat.pow_add, ← Nat.mul_assoc]
    simpa using h
theorem compare_gt {a b : Int} (h : (some (compare a b) == some Ordering.gt) = false) : a ≤ b := by
  have : compare a b ≠ .gt := by simpa using h
  exact Int.not_lt.1 fun h => this (by
    show compareOfLessAndEq a b = _
    unfold compareOfLessAndEq
    rw [if_neg (by omega), if_neg (by omega)])
theorem compare_lt {a b : Int} (h : (some (compare a b) == some Ordering.lt) = false) : b ≤ a := by
  have : compare a b ≠ .lt := by simpa using h
  exact Int.not_lt.1 fun h => this (by
    show compareOfLessAndEq a b = _
    unfold compareOfLessAndEq
    rw [if_pos (by omega)])
/-- A double that is not above A nor below -B, cut. -/
theorem toInt_within {p : Nat} (hp : okF .f64 (some p)) {ca cb A B qa qb : Nat} (hA : FloatKind.f64.format.read ca = .number false (A * 2 ^ qa) (-(qa : Int))) (hB : FloatKind.f64.format.read cb = .number true (B * 2 ^ qb) (-(qb : Int)))
    (h1 : (ford .f64 (some p) (some ca) == some .gt) = false) (h2 : (ford .f64 (some p) (some cb) == some .lt) = false) : ∃ n : Int, (FloatKind.f64.decode p).toInt .zero = some n ∧ -(B : Int) ≤ n ∧ n ≤ A := by
  have hd : FloatKind.f64.decode p = FloatKind.f64.format.read p := rfl
  simp only [ford, Option.bind_some, Ieee.Format.order, hA, hB] at h1 h2
  rw [hd]
  rcases okF_read hp with ⟨s, m, e, hr⟩ | ⟨s, hr⟩
  · rw [hr] at h1 h2 ⊢
    simp only [Ieee.Datum.order] at h1 h2
    have g1 := compare_gt h1
    have g2 := compare_lt h2
    simp only [Ieee.Datum.toInt, Ieee.Datum.integral]
    refine ⟨_, rfl, ?_⟩
    cases s with
    | false =>
      simp only [Ieee.signed, Bool.false_eq_true, if_false] at g1 ⊢
      have := cut_le (s := false) (num_le (A := A) (by omega : m <<< (e - min e (-(qa : Int))).toNat ≤ _))
      simp only [Nat.shiftLeft_zero]
      omega
    | true =>
      simp only [Ieee.signed, if_true] at g2 ⊢
      have := cut_le (s := true) (num_le (A := B) (by omega : m <<< (e - min e (-(qb : Int))).toNat ≤ _))
      simp only [Nat.shiftLeft_zero]
      omega
  · rw [hr] at h1 h2
    simp only [Ieee.Datum.order] at h1 h2
    cases s
    · cases h1
    · cases h2
end Go.VL
