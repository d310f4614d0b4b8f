/- Whole numbers as singles: their differences are told without loss. Over any program. -/
import Derived.Test.YtbejolinihbokaaV29
namespace Go.VL
open Go.RowKit

theorem log2_mul {m k : Nat} (hm : m ≠ 0) : (m * 2 ^ k).log2 = m.log2 + k := by
  have h0 : m * 2 ^ k ≠ 0 := Nat.mul_ne_zero hm (Nat.ne_of_gt (Nat.two_pow_pos k))
  refine (Nat.log2_eq_iff h0).2 ⟨?_, ?_⟩
  · rw [Nat.pow_add]
    exact Nat.mul_le_mul_right _ (Nat.log2_self_le hm)
  · rw [show m.log2 + k + 1 = (m.log2 + 1) + k by omega, Nat.pow_add]
    exact Nat.mul_lt_mul_of_pos_right Nat.lt_log2_self (Nat.two_pow_pos k)
theorem cut_exact {s : Bool} {a d : Nat} (h : d ≤ (a * 2 ^ d).log2 + 2) : Ieee.Toward.even.cut s (a * 2 ^ d) d = a := by
  unfold Ieee.Toward.cut
  rw [Nat.min_eq_left h]
  simp only [Nat.one_shiftLeft, Nat.mul_div_cancel _ (Nat.two_pow_pos d), Nat.mul_mod_left]
  simp
/-- The rung of a whole number of at most twenty-four digits. -/
theorem nearest_form {s : Bool} {m k : Nat} (hm : m ≠ 0) (hl : m.log2 ≤ 23) : FloatKind.f32.format.nearest s (m * 2 ^ k) (-(k : Int)) = FloatKind.f32.format.word s ((m.log2 + 126) * 8388608 + m * 2 ^ (23 - m.log2)) := by
  have h0 : m * 2 ^ k ≠ 0 := Nat.mul_ne_zero hm (Nat.ne_of_gt (Nat.two_pow_pos k))
  unfold Ieee.Format.nearest
  rw [if_neg h0]
  have hfb : (FloatKind.f32.format).fractionBits = 23 := by decide
  have hb : (FloatKind.f32.format).binade = 8388608 := by decide
  have hi : (FloatKind.f32.format).infRung = 2139095040 := by decide
  have hp : (FloatKind.f32.format).leastPlace = -149 := by decide
  simp only [hfb, hb, hi, hp, log2_mul hm]
  have hlast : max (-(k : Int) + ((m.log2 + k : Nat) : Int) - ((23 : Nat) : Int)) (-149) = (m.log2 : Int) - 23 := by omega
  rw [hlast]
  have hr : ((m.log2 : Int) - 23 - -149).toNat = m.log2 + 126 := by omega
  rw [hr]
  have hlt : m < 2 ^ (m.log2 + 1) := Nat.lt_log2_self
  have hK : m * 2 ^ (23 - m.log2) < 2 ^ 24 := by
    calc m * 2 ^ (23 - m.log2) < 2 ^ (m.log2 + 1) * 2 ^ (23 - m.log2) := Nat.mul_lt_mul_of_pos_right hlt (Nat.two_pow_pos _)
      _ = 2 ^ 24 := by rw [← Nat.pow_add]; congr 1; omega
  have hcut : Ieee.Toward.even.cut s ((m * 2 ^ k) <<< (-(k : Int) - ((m.log2 : Int) - 23)).toNat) ((m.log2 : Int) - 23 - -(k : Int)).toNat = m * 2 ^ (23 - m.log2) := by
    by_cases hk : k ≤ 23 - m.log2
    · rw [show ((m.log2 : Int) - 23 - -(k : Int)).toNat = 0 by omega, cut_zero, Nat.shiftLeft_eq, Nat.mul_assoc, ← Nat.pow_add]
      congr 2; omega
    · rw [show (-(k : Int) - ((m.log2 : Int) - 23)).toNat = 0 by omega, Nat.shiftLeft_zero]
      have hd : ((m.log2 : Int) - 23 - -(k : Int)).toNat = k - (23 - m.log2) := by omega
      rw [hd]
      have he : m * 2 ^ k = (m * 2 ^ (23 - m.log2)) * 2 ^ (k - (23 - m.log2)) := by
        rw [Nat.mul_assoc, ← Nat.pow_add]; congr 2; omega
      rw [he]
      refine cut_exact ?_
      rw [← he, log2_mul hm]; omega
  rw [hcut, Nat.min_eq_left (by
    have : (2 : Nat) ^ 24 = 16777216 := by decide
    omega)]
/-- What it reads as. -/
theorem read_form {s : Bool} {m : Nat} (hm : m ≠ 0) (hl : m.log2 ≤ 23) : FloatKind.f32.format.read (FloatKind.f32.format.word s ((m.log2 + 126) * 8388608 + m * 2 ^ (23 - m.log2))) = .number s (m * 2 ^ (23 - m.log2)) ((m.log2 : Int) - 23) := by
  have hs : (FloatKind.f32.format).signWeight = 2147483648 := by decide
  have hb : (FloatKind.f32.format).binade = 8388608 := by decide
  have hi : (FloatKind.f32.format).infRung = 2139095040 := by decide
  have hp : (FloatKind.f32.format).leastPlace = -149 := by decide
  have hlt : m < 2 ^ (m.log2 + 1) := Nat.lt_log2_self
  have hge : 2 ^ m.log2 ≤ m := Nat.log2_self_le hm
  have hK : m * 2 ^ (23 - m.log2) < 2 ^ 24 := by
    calc m * 2 ^ (23 - m.log2) < 2 ^ (m.log2 + 1) * 2 ^ (23 - m.log2) := Nat.mul_lt_mul_of_pos_right hlt (Nat.two_pow_pos _)
      _ = 2 ^ 24 := by rw [← Nat.pow_add]; congr 1; omega
  have hK2 : 2 ^ 23 ≤ m * 2 ^ (23 - m.log2) := by
    calc 2 ^ 23 = 2 ^ m.log2 * 2 ^ (23 - m.log2) := by rw [← Nat.pow_add]; congr 1; omega
      _ ≤ m * 2 ^ (23 - m.log2) := Nat.mul_le_mul_right _ hge
  have e23 : (2 : Nat) ^ 23 = 8388608 := by decide
  have e24 : (2 : Nat) ^ 24 = 16777216 := by decide
  generalize m * 2 ^ (23 - m.log2) = K at *
  generalize m.log2 = L at *
  unfold Ieee.Format.read Ieee.Format.word
  simp only [hs, hb, hi, hp]
  have h1 : (if s then 2147483648 + ((L + 126) * 8388608 + K) else (L + 126) * 8388608 + K) % 2147483648 = (L + 126) * 8388608 + K := by cases s <;> simp <;> omega
  have h2 : ((if s then 2147483648 + ((L + 126) * 8388608 + K) else (L + 126) * 8388608 + K) / 2147483648 % 2 == 1) = s := by
    cases s
    · have : ((L + 126) * 8388608 + K) / 2147483648 = 0 := by omega
      simp [this]
    · have : (2147483648 + ((L + 126) * 8388608 + K)) / 2147483648 = 1 := by omega
      simp [this]
  rw [h1, h2, if_neg (by omega), if_pos (by omega)]
  simp only [Ieee.Datum.number.injEq, true_and]
  omega
theorem signed_mul (s : Bool) (m a u : Nat) : Ieee.signed s (m * 2 ^ a) u = (if s then -(m : Int) else m) * 2 ^ (a + u) := by
  unfold Ieee.signed
  rw [Nat.shiftLeft_eq, Nat.mul_assoc, ← Nat.pow_add]
  cases s <;> simp [Int.neg_mul]
/-- A whole number as a single: what it reads as. -/
theorem read_int {n : Int} (hn : n.natAbs < 2 ^ 24) : ∃ M e, FloatKind.f32.format.read (FloatKind.f32.nearest n) = .number (decide (n < 0)) M e ∧ e ≤ 0 ∧ ∀ u, Ieee.signed (decide (n < 0)) M u = n * 2 ^ ((-e).toNat + u) := by
  by_cases h0 : n = 0
  · subst h0
    exact ⟨0, -149, rfl, by decide, fun u => by simp [Ieee.signed]⟩
  · have hm : n.natAbs ≠ 0 := by omega
    have hl : n.natAbs.log2 ≤ 23 := by
      have := (Nat.log2_lt hm).2 hn
      omega
    refine ⟨n.natAbs * 2 ^ (23 - n.natAbs.log2), (n.natAbs.log2 : Int) - 23, ?_, by omega, fun u => ?_⟩
    · rw [← read_form hm hl, ← nearest_form (k := 0) hm hl]
      simp only [Nat.pow_zero, Nat.mul_one]
      rfl
    · rw [signed_mul, show (-((n.natAbs.log2 : Int) - 23)).toNat = 23 - n.natAbs.log2 by omega]
      congr 1
      by_cases hneg : n < 0
      · simp only [hneg, decide_true, if_true]; omega
      · simp only [hneg, decide_false, Bool.false_eq_true, if_false]; omega
/-- The difference of whole numbers. -/
theorem sub_int {a b : Int} (ha : a.natAbs < 2 ^ 24) (hb : b.natAbs < 2 ^ 24) (hd : (a - b).natAbs < 2 ^ 24) : fop .sub .f32 (some (FloatKind.f32.nearest a)) (some (FloatKind.f32.nearest b)) = some (FloatKind.f32.nearest (a - b)) := by
  obtain ⟨M, e, h1, h2, h3⟩ := read_int ha
  obtain ⟨N, f, k1, k2, k3⟩ := read_int hb
  simp only [fop, Option.bind_some, Ieee.Format.sub, h1, k1, Ieee.Datum.opposite, Ieee.Datum.sum, Option.map_some, Option.some.injEq]
  have hopp : ∀ u, Ieee.signed (!decide (b < 0)) N u = -(Ieee.signed (decide (b < 0)) N u) := fun u => by
    have := signed_neg (decide (b < 0)) N u
    omega
  rw [h3, hopp, k3]
  have hbase : ∃ p : Nat, min e f = -(p : Int) := ⟨(-(min e f)).toNat, by omega⟩
  obtain ⟨p, hp⟩ := hbase
  rw [show (-e).toNat + (e - min e f).toNat = p by omega, show (-f).toNat + (f - min e f).toNat = p by omega, hp]
  have htot : a * 2 ^ p + -(b * 2 ^ p) = (a - b) * 2 ^ p := by rw [Int.sub_mul]; omega
  rw [htot]
  have hpos : (0 : Int) < 2 ^ p := Int.pow_pos (by decide)
  have habs : ((a - b) * 2 ^ p).natAbs = (a - b).natAbs * 2 ^ p := by
    rw [Int.natAbs_mul, Int.natAbs_pow]; rfl
  rw [habs]
  show FloatKind.f32.format.nearest _ _ _ = FloatKind.f32.format.nearest (decide (a - b < 0)) (a - b).natAbs 0
  by_cases hz : a - b = 0
  · have hab : a = b := by omega
    subst hab
    rw [hz]
    simp only [Int.zero_mul, if_true, Int.natAbs_zero, Nat.zero_mul]
    unfold Ieee.Format.nearest
    rw [if_pos rfl, if_pos rfl]
    cases decide (a < 0) <;> rfl
  · have hm : (a - b).natAbs ≠ 0 := by omega
    have hl : (a - b).natAbs.log2 ≤ 23 := by
      have := (Nat.log2_lt hm).2 hd
      omega
    rw [if_neg (by
      intro h
      rcases Int.mul_eq_zero.1 h with h | h
      · exact hz h
      · omega)]
    have hs : decide ((a - b) * 2 ^ p < 0) = decide (a - b < 0) := by
      by_cases hneg : a - b < 0
      · have : (a - b) * 2 ^ p < 0 := Int.mul_neg_of_neg_of_pos hneg hpos
        simp [hneg, this]
      · have : 0 ≤ (a - b) * 2 ^ p := Int.mul_nonneg (by omega) (by omega)
        simp only [hneg, decide_false, decide_eq_false_iff_not]
        omega
    rw [hs, nearest_form hm hl]
    have := nearest_form (s := decide (a - b < 0)) (k := 0) hm hl
    simp only [Nat.pow_zero, Nat.mul_one] at this
    exact this.symm
end Go.VL
