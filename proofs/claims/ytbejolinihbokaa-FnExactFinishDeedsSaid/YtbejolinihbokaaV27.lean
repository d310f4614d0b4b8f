/- Steps: more of them. Over any program. -/
import Derived.Test.YtbejolinihbokaaV26
namespace Go.VL
open Go.RowKit

theorem dec_split {p c : Prop} (h1 : p → c) (h2 : ¬ p → c) : c := (Classical.em p).elim h1 h2
theorem shr1 {k : IntKind} {a : Int} (h : 1 ≤ k.bits := by decide) : a.fdiv (2 ^ min (1 : Int).toNat k.bits) = a / 2 := by
  rw [show min (1 : Int).toNat k.bits = 1 by simp; omega]
  exact Int.fdiv_eq_ediv_of_nonneg _ (by decide)
theorem u64r {a : Int} (h : 0 ≤ a ∧ a ≤ 18446744073709551615) : IntKind.u64.min ≤ a ∧ a ≤ IntKind.u64.max := h
section
variable {X : Cx} {all r : List Oper} {K : Sl → List Ob → Prop} {sl : Sl} {H : List Ob} {d : Tmp} {ty : TypeId} {ps : String} {af : Array Edge}
theorem v_shr {t ty2 : TypeId} {x y : Operand} {L : Lay} {k kb : IntKind} {a b c : Int} (hL : X.lay t = some L) (hx : rho X.G sl x = .c (.v (.int k a))) (hy : rho X.G sl y = .c (.v (.int kb b))) (hc : a.fdiv (2 ^ min b.toNat k.bits) = c) (hb : ¬ b < 0 := by decide) (h : vops X all r K (upd sl d (.c (.v (.int k c)))) H) :
    vops X all (⟨some d, .binOp .shr t x y ty2, ty, ps, af, none⟩ :: r) K sl H :=
  v_bin hL hx hy (by simp only [bin, if_neg hb, hc]) h
end
theorem fill_step {α : Type} {xs : List α} {i : Nat} {a : α} (hi : i < xs.length) : (xs.take i ++ List.replicate (xs.length - i) a).set i xs[i] = xs.take (i + 1) ++ List.replicate (xs.length - (i + 1)) a := by
  obtain ⟨n, hn⟩ : ∃ n, xs.length - i = n + 1 := ⟨xs.length - i - 1, by omega⟩
  rw [hn, List.replicate_succ, List.set_append_right _ _ (by rw [List.length_take]; omega), List.take_succ_eq_append_getElem hi]
  have h1 : i - (xs.take i).length = 0 := by rw [List.length_take]; omega
  rw [h1, List.set_cons_zero, show xs.length - (i + 1) = n by omega]
  simp only [List.append_assoc, List.singleton_append]
end Go.VL
