/- Floats as numbers. Over any program. -/
import Derived.Test.YtbejolinihbokaaV24
namespace Go.VL
open Go.RowKit

theorem read_num (k : FloatKind) (b : Nat) : (∃ s t, k.format.read b = .nan s t) ∨ (∃ s, k.format.read b = .infinity s) ∨ ∃ s m e, k.format.read b = .number s m e := by
  cases h : k.format.read b with
  | number s m e => exact .inr (.inr ⟨s, m, e, rfl⟩)
  | infinity s => exact .inr (.inl ⟨s, rfl⟩)
  | nan s t => exact .inl ⟨s, t, rfl⟩
theorem signed_neg (s : Bool) (m u : Nat) : Ieee.signed s m u + Ieee.signed (!s) m u = 0 := by
  cases s <;> simp [Ieee.signed] <;> omega
/-- A number less itself is nought. -/
theorem sub_self_num {k : FloatKind} {b : Nat} {s : Bool} {m : Nat} {e : Int} (h : k.format.read b = .number s m e) : k.format.sub b b = some 0 := by
  unfold Ieee.Format.sub
  rw [h]
  simp only [Ieee.Datum.opposite, Ieee.Datum.sum, signed_neg, if_true]
  cases s <;> rfl
theorem sub_self_inf {k : FloatKind} {b : Nat} {s : Bool} (h : k.format.read b = .infinity s) : k.format.sub b b = none := by
  unfold Ieee.Format.sub
  rw [h]
  cases s <;> rfl

/-- What a single's number is made of. -/
theorem read_single {b : Nat} {s : Bool} {m : Nat} {e : Int} (h : FloatKind.f32.format.read b = .number s m e) : m < 2 ^ 24 ∧ -149 ≤ e ∧ e ≤ 104 := by
  unfold Ieee.Format.read at h
  have hs : (FloatKind.f32.format).signWeight = 2147483648 := by decide
  have hb : (FloatKind.f32.format).binade = 8388608 := by decide
  have hi : (FloatKind.f32.format).infRung = 2139095040 := by decide
  have hl : (FloatKind.f32.format).leastPlace = -149 := by decide
  simp only [hs, hb, hi, hl] at h
  generalize b % 2147483648 = r at h
  split at h
  · simp only [Ieee.Datum.number.injEq] at h
    omega
  · split at h
    · simp only [Ieee.Datum.number.injEq] at h
      omega
    · split at h <;> cases h
theorem cut_zero (s : Bool) (n : Nat) : Ieee.Toward.even.cut s n 0 = n := by
  simp [Ieee.Toward.cut, Nat.mod_one]
/-- A single's number has its double. -/
theorem nearest_wide {s : Bool} {m : Nat} {e : Int} (hm : m < 2 ^ 24) (he : -149 ≤ e ∧ e ≤ 104) : ∃ r, FloatKind.f64.format.nearest s m e = FloatKind.f64.format.word s r ∧ r < 9218868437227405312 := by
  unfold Ieee.Format.nearest
  by_cases h0 : m = 0
  · rw [if_pos h0]; exact ⟨0, rfl, by decide⟩
  · rw [if_neg h0]
    have hfb : (FloatKind.f64.format).fractionBits = 52 := by decide
    have hb : (FloatKind.f64.format).binade = 4503599627370496 := by decide
    have hi : (FloatKind.f64.format).infRung = 9218868437227405312 := by decide
    have hl : (FloatKind.f64.format).leastPlace = -1074 := by decide
    have hlog : m.log2 ≤ 23 := by
      have := (Nat.log2_lt h0).2 hm
      omega
    simp only [hfb, hb, hi, hl]
    have hlast : max (e + (m.log2 : Int) - (52 : Nat)) (-1074) = e + m.log2 - 52 := by omega
    rw [hlast]
    have hdrop : (e + (m.log2 : Int) - 52 - e).toNat = 0 := by omega
    rw [hdrop, cut_zero]
    have hsh : (e - (e + (m.log2 : Int) - 52)).toNat = 52 - m.log2 := by omega
    rw [hsh, Nat.shiftLeft_eq]
    have hlt : m < 2 ^ (m.log2 + 1) := Nat.lt_log2_self
    have hk : m * 2 ^ (52 - m.log2) < 2 ^ 53 := by
      calc m * 2 ^ (52 - m.log2) < 2 ^ (m.log2 + 1) * 2 ^ (52 - m.log2) := Nat.mul_lt_mul_of_pos_right hlt (Nat.two_pow_pos _)
        _ = 2 ^ 53 := by rw [← Nat.pow_add]; congr 1; omega
    refine ⟨_, rfl, ?_⟩
    have h1 : (e + (m.log2 : Int) - 52 - -1074).toNat ≤ 1149 := by omega
    have h2 : (e + (m.log2 : Int) - 52 - -1074).toNat * 4503599627370496 ≤ 1149 * 4503599627370496 := Nat.mul_le_mul_right _ h1
    refine Nat.lt_of_le_of_lt (Nat.min_le_left _ _) ?_
    have : (2 : Nat) ^ 53 = 9007199254740992 := by decide
    omega
/-- A double below infinity reads as a number of its sign. -/
theorem read_word {s : Bool} {r : Nat} (h : r < 9218868437227405312) : ∃ m e, FloatKind.f64.format.read (FloatKind.f64.format.word s r) = .number s m e := by
  have hs : (FloatKind.f64.format).signWeight = 9223372036854775808 := by decide
  have hb : (FloatKind.f64.format).binade = 4503599627370496 := by decide
  have hi : (FloatKind.f64.format).infRung = 9218868437227405312 := by decide
  unfold Ieee.Format.read Ieee.Format.word
  simp only [hs, hb, hi]
  have h1 : (if s then 9223372036854775808 + r else r) % 9223372036854775808 = r := by cases s <;> simp <;> omega
  have h2 : ((if s then 9223372036854775808 + r else r) / 9223372036854775808 % 2 == 1) = s := by
    cases s
    · have : r / 9223372036854775808 = 0 := by omega
      simp [this]
    · have : (9223372036854775808 + r) / 9223372036854775808 = 1 := by omega
      simp [this]
  rw [h1, h2]
  split
  · exact ⟨_, _, rfl⟩
  · exact ⟨_, _, rfl⟩
/-- Is a single a number? (It is nought, less itself.) -/
def fin (x : Option Nat) : Bool := ford .f32 (fop .sub .f32 x x) (fOf .f32 0) == some .eq
theorem isNaN_read {k : FloatKind} {b : Nat} : isNaN k b = (k.format.read b).isNaN := rfl
theorem fin_num {b : Nat} {s : Bool} {m : Nat} {e : Int} (h : FloatKind.f32.format.read b = .number s m e) : fin (fOf .f32 b) = true := by
  have hn : isNaN .f32 b = false := by rw [isNaN_read, h]; rfl
  have h1 : fOf .f32 b = some b := by unfold fOf; rw [hn]; rfl
  unfold fin
  rw [h1]
  simp only [fop, Option.bind_some, sub_self_num h]
  rfl
theorem fin_inf {b : Nat} {s : Bool} (h : FloatKind.f32.format.read b = .infinity s) : fin (fOf .f32 b) = false := by
  have hn : isNaN .f32 b = false := by rw [isNaN_read, h]; rfl
  have h1 : fOf .f32 b = some b := by unfold fOf; rw [hn]; rfl
  unfold fin
  rw [h1]
  simp only [fop, Option.bind_some, sub_self_inf h]
  rfl
theorem fin_none : fin none = false := rfl
/-- A NaN made quiet is a NaN. -/
theorem quiet_nan (s : Bool) (t : Nat) : isNaN .f64 (FloatKind.f64.encode (.nan s (FloatKind.f64.format.quiet t))) = true := by
  have hs : (FloatKind.f64.format).signWeight = 9223372036854775808 := by decide
  have hb : (FloatKind.f64.format).binade = 4503599627370496 := by decide
  have hi : (FloatKind.f64.format).infRung = 9218868437227405312 := by decide
  have hf : (FloatKind.f64.format).fractionBits = 52 := by decide
  have hq : 0 < FloatKind.f64.format.quiet t % 4503599627370496 := by
    unfold Ieee.Format.quiet
    rw [hf]
    have hbit : ((t ||| 2 ^ (52 - 1)) % 2 ^ 52).testBit 51 = true := by
      rw [Nat.testBit_mod_two_pow, Nat.testBit_or, Nat.testBit_two_pow]
      simp
    have hpow : (4503599627370496 : Nat) = 2 ^ 52 := by decide
    rw [hpow]
    rcases Nat.eq_zero_or_pos ((t ||| 2 ^ (52 - 1)) % 2 ^ 52) with h | h
    · rw [h] at hbit; simp at hbit
    · exact h
  have hlt : FloatKind.f64.format.quiet t % 4503599627370496 < 4503599627370496 := Nat.mod_lt _ (by decide)
  generalize hg : FloatKind.f64.format.quiet t % 4503599627370496 = q at hq hlt
  show (FloatKind.f64.format.read (FloatKind.f64.format.write (.nan s (FloatKind.f64.format.quiet t)))).isNaN = true
  unfold Ieee.Format.write Ieee.Format.read Ieee.Format.word
  simp only [hs, hb, hi, hg]
  have h1 : (if s then 9223372036854775808 + (9218868437227405312 + q) else 9218868437227405312 + q) % 9223372036854775808 = 9218868437227405312 + q := by cases s <;> simp <;> omega
  rw [h1, if_neg (by omega), if_neg (by omega), if_neg (by omega)]
  rfl
theorem num_some {b : Nat} {s : Bool} {m : Nat} {e : Int} (h : FloatKind.f32.format.read b = .number s m e) : fOf .f32 b = some b := by
  unfold fOf
  have hn : isNaN .f32 b = false := by rw [isNaN_read, h]; rfl
  rw [hn]; rfl
theorem zero32 : fOf .f32 0 = some 0 := rfl
theorem read_zero32 : FloatKind.f32.format.read 0 = .number false 0 (-149) := by rfl
theorem order_zero {b : Nat} {s : Bool} {m : Nat} {e : Int} (h : FloatKind.f32.format.read b = .number s m e) : ford .f32 (some b) (fOf .f32 0) = some (if m = 0 then .eq else if s then .lt else .gt) := by
  rw [zero32]
  simp only [ford, Option.bind_some, Ieee.Format.order, h, read_zero32, Ieee.Datum.order]
  congr 1
  have h0 : ∀ u, Ieee.signed false 0 u = 0 := fun u => by simp [Ieee.signed]
  rw [h0]
  generalize (e - min e (-149)).toNat = u
  by_cases hm : m = 0
  · subst hm
    have : Ieee.signed s 0 u = 0 := by cases s <;> simp [Ieee.signed]
    rw [this, if_pos rfl]; rfl
  · rw [if_neg hm]
    have hpos : 0 < m <<< u := by rw [Nat.shiftLeft_eq]; exact Nat.mul_pos (by omega) (Nat.two_pow_pos _)
    cases s
    · simp only [Ieee.signed, Bool.false_eq_true, if_false]
      show compareOfLessAndEq ((m <<< u : Nat) : Int) 0 = Ordering.gt
      unfold compareOfLessAndEq
      rw [if_neg (by omega), if_neg (by omega)]
    · simp only [Ieee.signed, if_true]
      show compareOfLessAndEq (-((m <<< u : Nat) : Int)) 0 = Ordering.lt
      unfold compareOfLessAndEq
      rw [if_pos (by omega)]
theorem zero_bits {b : Nat} (hb : b < 2 ^ 32) {s : Bool} {m : Nat} {e : Int} (h : FloatKind.f32.format.read b = .number s m e) : b = 0 ↔ s = false ∧ m = 0 := by
  unfold Ieee.Format.read at h
  have hs : (FloatKind.f32.format).signWeight = 2147483648 := by decide
  have hbn : (FloatKind.f32.format).binade = 8388608 := by decide
  have hi : (FloatKind.f32.format).infRung = 2139095040 := by decide
  simp only [hs, hbn, hi] at h
  split at h
  · simp only [Ieee.Datum.number.injEq] at h
    obtain ⟨h1, h2, -⟩ := h
    constructor
    · rintro rfl; simp at h1 h2; exact ⟨h1, h2.symm⟩
    · rintro ⟨rfl, rfl⟩
      have : b / 2147483648 % 2 ≠ 1 := by simpa using h1
      omega
  · split at h
    · simp only [Ieee.Datum.number.injEq] at h
      constructor
      · rintro rfl; simp at *
      · rintro ⟨-, rfl⟩; omega
    · split at h <;> cases h
/-- The sign of a single's double. -/
theorem wide_sign {s : Bool} {m : Nat} {e : Int} (hm : m < 2 ^ 24) (he : -149 ≤ e ∧ e ≤ 104) : IntKind.i64.wrap ((FloatKind.f64.format.nearest s m e : Nat) : Int) < 0 ↔ s = true := by
  obtain ⟨r, hr, hlt⟩ := nearest_wide (s := s) hm he
  rw [hr]
  have hs : (FloatKind.f64.format).signWeight = 9223372036854775808 := by decide
  unfold Ieee.Format.word
  rw [hs]
  cases s
  · simp only [Bool.false_eq_true, if_false, iff_false]
    rw [wrap_of (k := .i64) ⟨show (-9223372036854775808 : Int) ≤ _ by omega, show _ ≤ (9223372036854775807 : Int) by omega⟩]
    omega
  · simp only [if_true, iff_true]
    simp only [IntKind.wrap, IntKind.bits, IntKind.signed]
    simp
    omega
theorem convF_wide {b : Nat} {s : Bool} {m : Nat} {e : Int} (h : FloatKind.f32.format.read b = .number s m e) : convF .f32 .f64 (some b) = some (some (FloatKind.f64.format.nearest s m e)) := by
  obtain ⟨hm, he⟩ := read_single h
  obtain ⟨r, hr, hlt⟩ := nearest_wide (s := s) hm he
  obtain ⟨m', e', hw⟩ := read_word (s := s) hlt
  have hd : FloatKind.f32.decode b = .number s m e := h
  unfold convF
  rw [if_neg (by decide)]
  simp only [hd]
  have h1 : FloatKind.f64.encode (.number s m e) = FloatKind.f64.format.nearest s m e := rfl
  rw [h1, hr]
  have h2 : FloatKind.f64.decode (FloatKind.f64.format.word s r) = .number s m' e' := hw
  rw [h2]
  rfl
theorem num_of_fin {b : Nat} (h : fin (some b) = true) : ∃ s m e, FloatKind.f32.format.read b = .number s m e := by
  rcases read_num .f32 b with ⟨s, t, hr⟩ | ⟨s, hr⟩ | ⟨s, m, e, hr⟩
  · exfalso
    have hsub : FloatKind.f32.format.sub b b = none := by
      unfold Ieee.Format.sub
      rw [hr]; rfl
    unfold fin at h
    simp only [fop, Option.bind_some, hsub] at h
    cases h
  · exfalso
    unfold fin at h
    simp only [fop, Option.bind_some, sub_self_inf hr] at h
    cases h
  · exact ⟨s, m, e, hr⟩
end Go.VL
