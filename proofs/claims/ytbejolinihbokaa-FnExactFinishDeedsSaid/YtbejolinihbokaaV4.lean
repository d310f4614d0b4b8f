/- Operators on data: the model comes to the same. Over any program. -/
import Derived.Test.YtbejolinihbokaaV3
namespace Go.VL
open Go.RowKit

theorem word_mod (k : FloatKind) (neg : Bool) (r : Nat) (h : r ≤ k.format.infRung) : k.format.word neg r % k.format.signWeight = r := by
  have h1 : k.format.infRung < k.format.signWeight := by cases k <;> decide
  have h2 : r < k.format.signWeight := Nat.lt_of_le_of_lt h h1
  unfold Ieee.Format.word
  split
  · rw [Nat.add_mod_left, Nat.mod_eq_of_lt h2]
  · exact Nat.mod_eq_of_lt h2

theorem word_num (k : FloatKind) (neg : Bool) (r : Nat) (h : r ≤ k.format.infRung) : isNaN k (k.format.word neg r) = false := by
  unfold isNaN FloatKind.decode Ieee.Format.read
  simp only [word_mod k neg r h]
  split
  · rfl
  · split
    · rfl
    · rw [if_pos (by omega)]; rfl

theorem write_num (k : FloatKind) (d : Ieee.Datum) (h : d.isNaN = false) : isNaN k (k.format.write d) = false := by
  cases d with
  | number s m e =>
    show isNaN k (k.format.nearest s m e) = false
    unfold Ieee.Format.nearest
    split
    · exact word_num k s 0 (Nat.zero_le _)
    · exact word_num k s _ (Nat.min_le_right _ _)
  | infinity s => exact word_num k s _ (Nat.le_refl _)
  | nan s t => simp [Ieee.Datum.isNaN] at h

theorem sum_num {x y d : Ieee.Datum} (h : x.sum y = some d) : d.isNaN = false := by
  cases x <;> cases y <;> simp only [Ieee.Datum.sum] at h <;> first
    | (cases h; done)
    | (simp at h; subst h; rfl)
    | (split at h <;> simp at h; subst h; rfl)
theorem product_num {x y d : Ieee.Datum} (h : x.product y = some d) : d.isNaN = false := by
  cases x <;> cases y <;> simp only [Ieee.Datum.product] at h <;> first
    | (cases h; done)
    | (simp at h; subst h; rfl)
    | (split at h <;> simp at h; subst h; rfl)
theorem quotient_num {n : Nat} {x y d : Ieee.Datum} (h : Ieee.Datum.quotient n x y = some d) : d.isNaN = false := by
  cases x <;> cases y <;> simp only [Ieee.Datum.quotient] at h <;> first
    | (cases h; done)
    | (simp at h; subst h; rfl)
    | (split at h
       · split at h <;> simp at h
         subst h; rfl
       · simp at h; subst h; rfl)

def fbin (op : BinOp) (k : FloatKind) (a b : Nat) : Option Nat :=
  match op with
  | .add => k.format.add a b
  | .sub => k.format.sub a b
  | .mul => k.format.mul a b
  | .quo => k.format.div a b
  | _ => none

theorem fbin_num {op : BinOp} {k : FloatKind} {a b r : Nat} (h : fbin op k a b = some r) : isNaN k r = false := by
  cases op <;> simp only [fbin] at h <;> first | (cases h; done) | skip
  · obtain ⟨d, h1, rfl⟩ := Option.map_eq_some_iff.1 h; exact write_num k d (sum_num h1)
  · obtain ⟨d, h1, rfl⟩ := Option.map_eq_some_iff.1 h; exact write_num k d (sum_num h1)
  · obtain ⟨d, h1, rfl⟩ := Option.map_eq_some_iff.1 h; exact write_num k d (product_num h1)
  · obtain ⟨d, h1, rfl⟩ := Option.map_eq_some_iff.1 h; exact write_num k d (quotient_num h1)

theorem read_nan {k : FloatKind} {a : Nat} (h : isNaN k a = true) : ∃ s t, k.format.read a = .nan s t := by
  unfold isNaN FloatKind.decode at h
  cases hr : k.format.read a <;> rw [hr] at h <;> simp [Ieee.Datum.isNaN] at h
  exact ⟨_, _, rfl⟩

theorem fbin_nan {op : BinOp} {k : FloatKind} {a b : Nat} (h : isNaN k a = true ∨ isNaN k b = true) : fbin op k a b = none := by
  rcases h with h | h <;> obtain ⟨s, t, hr⟩ := read_nan h
  · cases op <;> simp [fbin, Ieee.Format.add, Ieee.Format.sub, Ieee.Format.mul, Ieee.Format.div, hr, Ieee.Datum.sum, Ieee.Datum.product, Ieee.Datum.quotient]
  · cases op <;> simp only [fbin, Ieee.Format.add, Ieee.Format.sub, Ieee.Format.mul, Ieee.Format.div, hr] <;> cases k.format.read a <;>
      simp [Ieee.Datum.sum, Ieee.Datum.product, Ieee.Datum.quotient, Ieee.Datum.opposite]

theorem ford_nan {k : FloatKind} {a b : Nat} (h : isNaN k a = true ∨ isNaN k b = true) : k.format.order a b = none := by
  rcases h with h | h <;> obtain ⟨s, t, hr⟩ := read_nan h
  · simp [Ieee.Format.order, hr, Ieee.Datum.order]
  · simp only [Ieee.Format.order, hr]; cases k.format.read a <;> simp [Ieee.Datum.order]

theorem cut_nan (k : FloatKind) (x y t : Nat) : isNaN k (Question.cut (.nanBits k x y) t) = true := by
  cases k
  · have h1 : Question.cut (.nanBits .f32 x y) t = (t % 2) * 2 ^ 31 + 0x7f800000 + 1 + (t / 2) % (2 ^ 23 - 1) := rfl
    rw [h1]
    unfold isNaN FloatKind.decode Ieee.Format.read
    have hs : (FloatKind.f32.format).signWeight = 2147483648 := by decide
    have hb : (FloatKind.f32.format).binade = 8388608 := by decide
    have hi : (FloatKind.f32.format).infRung = 2139095040 := by decide
    simp only [hs, hb, hi]
    generalize ht : (t / 2) % (2 ^ 23 - 1) = q
    have hq : q < 8388607 := by rw [← ht]; exact Nat.mod_lt _ (by decide)
    have hm : ((t % 2) * 2 ^ 31 + 0x7f800000 + 1 + q) % 2147483648 = 2139095040 + 1 + q := by omega
    rw [hm, if_neg (by omega), if_neg (by omega), if_neg (by omega)]
    rfl
  · have h1 : Question.cut (.nanBits .f64 x y) t = (t % 2) * 2 ^ 63 + 0x7ff0000000000000 + 1 + (t / 2) % (2 ^ 52 - 1) := rfl
    rw [h1]
    unfold isNaN FloatKind.decode Ieee.Format.read
    have hs : (FloatKind.f64.format).signWeight = 9223372036854775808 := by decide
    have hb : (FloatKind.f64.format).binade = 4503599627370496 := by decide
    have hi : (FloatKind.f64.format).infRung = 9218868437227405312 := by decide
    simp only [hs, hb, hi]
    generalize ht : (t / 2) % (2 ^ 52 - 1) = q
    have hq : q < 4503599627370495 := by rw [← ht]; exact Nat.mod_lt _ (by decide)
    have hm : ((t % 2) * 2 ^ 63 + 0x7ff0000000000000 + 1 + q) % 9223372036854775808 = 9218868437227405312 + 1 + q := by omega
    rw [hm, if_neg (by omega), if_neg (by omega), if_neg (by omega)]
    rfl

/-- A float's bits, as data: none for a NaN. -/
def fOf (k : FloatKind) (b : Nat) : Option Nat := if isNaN k b then none else some b

theorem R.float {m : Mem} {k : FloatKind} {b : Nat} : R m (.f k (fOf k b)) (.float k b) := by
  unfold fOf
  by_cases h : isNaN k b = true
  · rw [if_pos h]; exact .fn h
  · rw [if_neg h]; exact .fs (by simpa using h)
theorem R.floatI {m : Mem} {k : FloatKind} {x : Option Nat} {u : Value} (h : R m (.f k x) u) : ∃ b, u = .float k b ∧ x = fOf k b := by
  cases h with
  | fz h => cases h with
    | fs h => exact ⟨_, rfl, by simp [fOf, h]⟩
    | fn h => exact ⟨_, rfl, by simp [fOf, h]⟩

theorem fop_bits (op : BinOp) (k : FloatKind) (a b : Nat) : fop op k (fOf k a) (fOf k b) = fbin op k a b := by
  unfold fOf
  cases ha : isNaN k a <;> cases hb : isNaN k b <;> simp only [Bool.false_eq_true, if_false, if_true, fop, Option.bind_none, Option.bind_some]
  · cases op <;> rfl
  · rw [fbin_nan (.inr hb)]
  · rw [fbin_nan (.inl ha)]
  · rw [fbin_nan (.inl ha)]
theorem ford_bits (k : FloatKind) (a b : Nat) : ford k (fOf k a) (fOf k b) = k.format.order a b := by
  unfold fOf
  cases ha : isNaN k a <;> cases hb : isNaN k b <;> simp only [Bool.false_eq_true, if_false, if_true, ford, Option.bind_none, Option.bind_some]
  · rw [ford_nan (.inr hb)]
  · rw [ford_nan (.inl ha)]
  · rw [ford_nan (.inl ha)]

section
variable {X : Cx} {m : Mem} {H : List Ob} {ε : Operand → Value} {o : Oper} {v : V}

theorem binOp_int {op : BinOp} {t : TypeId} {k : IntKind} {a b : Int} {c : C} (h : binI op k a b = some c) (w : World) :
    ∃ x, c = .v x ∧ plain x = true ∧ (binOp op t (.int k a) (.int k b)).run X.P w = .ok x w := by
  cases op <;> simp only [binI] at h <;> first
    | (cases h; done)
    | (split at h <;> simp at h; subst h; refine ⟨_, rfl, rfl, ?_⟩; simp [binOp, Op.intDiv, *]; done)
    | (simp at h; subst h; refine ⟨_, rfl, rfl, ?_⟩; simp [binOp, Op.intArith, Op.intCmp, Op.intBits, bits]; done)

theorem binOp_string {op : BinOp} {t : TypeId} {a b : ByteArray} {c : C} (h : binS op a b = some c) (w : World) :
    ∃ x, c = .v x ∧ plain x = true ∧ (binOp op t (.string a) (.string b)).run X.P w = .ok x w := by
  cases op <;> simp only [binS] at h <;> first
    | (cases h; done)
    | (split at h <;> simp at h; subst h; refine ⟨_, rfl, rfl, ?_⟩; rename_i hl; unfold maxLen at hl; simp only [binOp, Op.stringOp]
       rw [if_neg (by simp only [IntKind.max, IntKind.bits, IntKind.signed]; omega)]; rfl)
    | (simp at h; subst h; exact ⟨_, rfl, rfl, by simp [binOp, Op.stringOp]⟩)

theorem guard_ok {op : BinOp} {t : TypeId} {x y : Operand} {a b : Value} {P : Program} {w : World} (h : (op == .eql || op == .neq) = false ∨ (match a with | .nilIface => false | .agg _ => false | _ => true) = true) :
    (eqGuard op t x y a b).run P w = .ok () w := by
  unfold eqGuard
  rcases h with h | h
  · cases op <;> simp at h <;> simp
  · cases op <;> cases a <;> simp at h <;> simp
theorem run_equal_bool {P : Program} {t : TypeId} (ht : P.underlying t = some .bool) (a b : Bool) (w : World) : (Op.equal t (.bool a) (.bool b)).run P w = .ok (a == b) w := by
  have h : ∀ d : Nat, (Op.equalIn (d + 1) t (.bool a) (.bool b)).run P w = .ok (a == b) w := fun d => by simp [Op.equalIn, run_underlying ht]
  exact h 9999

theorem good_binF (hS : Sim X.G m H) {op : BinOp} {t ty : TypeId} {x y : Operand} (ho : o.op = .binOp op t x y ty) {k : FloatKind} {p q : Option Nat} (hx : R m (.f k p) (ε x)) (hy : R m (.f k q) (ε y)) {c : C} (h : binF op k p q = some c) :
    Good X m H ε o (.c c) := by
  obtain ⟨a, hxe, rfl⟩ := hx.floatI
  obtain ⟨b, hye, rfl⟩ := hy.floatI
  have hg : (eqGuard op t x y (.float k a) (.float k b)).run X.P m.w = .ok () m.w := guard_ok (.inr rfl)
  have cmp : ∀ z : Value, plain z = true → (binOp op t (.float k a) (.float k b)).run X.P m.w = .ok z m.w → Good X m H ε o (.c (.v z)) := fun z hz hr =>
    Good.here hS (u := z) (by simp [execOp, ho, hxe, hye, hg, hr]) (.c (.v hz))
  have art : ∀ (_ : op = .add ∨ op = .sub ∨ op = .mul ∨ op = .quo), Good X m H ε o (.c (.f k (fop op k (fOf k a) (fOf k b)))) := fun hop => by
    rw [fop_bits]
    have hb : binOp op t (.float k a) (.float k b) = Op.floatArith op k a b := by rcases hop with rfl | rfl | rfl | rfl <;> simp [binOp]
    have hfa : Op.floatArith op k a b = (match fbin op k a b with | some r => pure (.float k r) | none => do pure (.float k (← choose (.nanBits k a b)))) := by
      rcases hop with rfl | rfl | rfl | rfl <;> rfl
    cases hf : fbin op k a b with
    | some r =>
      refine Good.here hS (u := .float k r) ?_ (.c (.fs (fbin_num hf)))
      simp [execOp, ho, hxe, hye, hg, hb, hfa, hf]
    | none =>
      obtain ⟨h1, h2⟩ := hS.same (w' := m.w.drew) rfl rfl rfl rfl
      refine ⟨.float k (Question.cut (.nanBits k a b) (m.w.tape m.w.drawn (.nanBits k a b))), _, ?_, h1, h2, .c (.fn (cut_nan k a b _))⟩
      simp [execOp, ho, hxe, hye, hg, hb, hfa, hf, show (Question.nanBits k a b).forced = false from rfl]
  cases op <;> simp only [binF] at h <;> first
    | (cases h; done)
    | (simp at h; subst h; exact art (by simp))
    | (simp only [ford_bits, Option.some.injEq] at h; subst h; refine cmp _ rfl ?_; simp [binOp, Op.floatCmp]; done)

theorem good_binI (hS : Sim X.G m H) {op : BinOp} {t ty : TypeId} {x y : Operand} (ho : o.op = .binOp op t x y ty) {a b z : Value} (hx : ε x = a) (hy : ε y = b) (hz : plain z = true)
    (hg : (eqGuard op t x y a b).run X.P m.w = .ok () m.w) (h : (binOp op t a b).run X.P m.w = .ok z m.w) : Good X m H ε o (.c (.v z)) :=
  Good.here hS (u := z) (by simp [execOp, ho, hx, hy, hg, h]) (.c (.v hz))

theorem good_bin (hS : Sim X.G m H) {op : BinOp} {t ty : TypeId} {x y : Operand} (ho : o.op = .binOp op t x y ty) {L : Lay} (hL : X.lay t = some L) {p q : C} (hx : R m p (ε x)) (hy : R m q (ε y)) {c : C} (h : bin op L.kind p q = some c) :
    Good X m H ε o (.c c) := by
  have hk := (X.ok t L hL).kind
  unfold bin at h
  split at h
  · rename_i b
    by_cases hb : b < (0 : Int)
    · rw [if_pos hb] at h; cases h
    rw [if_neg hb] at h
    simp only [Option.some.injEq] at h
    subst h
    refine good_binI hS ho hx.val hy.val rfl (guard_ok (.inr rfl)) ?_
    simp [binOp, Op.shift, hb]
  · rename_i b
    by_cases hb : b < (0 : Int)
    · rw [if_pos hb] at h; cases h
    rw [if_neg hb] at h
    simp only [Option.some.injEq] at h
    subst h
    refine good_binI hS ho hx.val hy.val rfl (guard_ok (.inr rfl)) ?_
    simp [binOp, Op.shift, hb]
  · rename_i k a k' b _ _
    have hkk : k = k' := Decidable.byContradiction fun hn => by rw [if_neg hn] at h; cases h
    rw [if_pos hkk] at h
    subst hkk
    obtain ⟨z, rfl, hz, hr⟩ := binOp_int (X := X) (t := t) h m.w
    exact good_binI hS ho hx.val hy.val hz (guard_ok (.inr rfl)) hr
  · rename_i k a k' b
    have hkk : k = k' := Decidable.byContradiction fun hn => by rw [if_neg hn] at h; cases h
    rw [if_pos hkk] at h
    subst hkk
    exact good_binF hS ho hx hy h
  · obtain ⟨z, rfl, hz, hr⟩ := binOp_string (X := X) (t := t) h m.w
    exact good_binI hS ho hx.val hy.val hz (guard_ok (.inr rfl)) hr
  · split at h <;> simp at h
    rename_i hkk
    rw [hkk] at hk
    subst h
    have hk' : X.P.underlying t = some .bool := hk
    refine good_binI hS ho hx.val hy.val rfl (guard_ok (.inr rfl)) ?_
    simp [binOp, run_equal_bool hk']
  · split at h <;> simp at h
    rename_i hkk
    rw [hkk] at hk
    subst h
    have hk' : X.P.underlying t = some .bool := hk
    refine good_binI hS ho hx.val hy.val rfl (guard_ok (.inr rfl)) ?_
    simp [binOp, run_equal_bool hk']
  · cases h

theorem good_un (hS : Sim X.G m H) {op : UnOp} {t : TypeId} {x : Operand} (ho : o.op = .unOp op t x) {p : C} (hx : R m p (ε x)) {c : C} (h : un op p = some c) : Good X m H ε o (.c c) := by
  unfold un at h
  split at h <;> simp at h
  · subst h
    refine Good.here hS (u := _) ?_ (.c (.v rfl))
    simp [execOp, ho, hx.val, Op.unary, Op.intArith]
  · subst h
    refine Good.here hS (u := _) ?_ (.c (.v rfl))
    simp [execOp, ho, hx.val, Op.unary]
end
end Go.VL
