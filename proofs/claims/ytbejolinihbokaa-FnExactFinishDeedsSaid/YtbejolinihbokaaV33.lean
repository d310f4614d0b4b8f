/- Steps by the model's own word: a slice held against nil. Over any program. -/
import Derived.Test.YtbejolinihbokaaV32
import Derived.Lib.SliceRun
namespace Go.VL
open Go.RowKit
section
variable {X : Cx} {all r : List Oper} {K : Sl → List Ob → Prop} {sl : Sl} {H : List Ob} {d : Tmp} {ty : TypeId} {ps : String} {af : Array Edge}
theorem v_raw {op : Op} {dst : Option Tmp} (ha : all.isEmpty = false) (hc : callOf op = none) (hq : evq X.lay H (rho X.G sl) op = none) (he : eve X.lay H (rho X.G sl) op = none) (h : RawOp X op (rho X.G sl) H fun v H' => vops X all r K (putV sl dst v) H') : vops X all (⟨dst, op, ty, ps, af, none⟩ :: r) K sl H := by
  simp only [vops, vguard, vop, hc, hq, he, ha]
  exact ⟨rfl, h⟩
/-- A frozen slice held against nil: it may be the nil slice just if it has no elements. -/
theorem v_eqnil {t e : TypeId} {ty2 : TypeId} {x y : Operand} {a b : Nat} {z : List Value} {o : Bool} {n k : Nat} {cs : List C} (ha : all.isEmpty = false) (hL : X.lay t = some ⟨.slice e, a, b, z⟩) (hx : rho X.G sl x = .c (.sl o n k cs)) (hy : rho X.G sl y = .c (.v (.slice none 0 0)))
    (h1 : n = 0 ∧ cs = [] → vops X all r K (upd sl d (.c (.v (.bool true)))) H) (h2 : vops X all r K (upd sl d (.c (.v (.bool false)))) H) : vops X all (⟨some d, .binOp .eql t x y ty2, ty, ps, af, none⟩ :: r) K sl H := by
  refine v_raw ha rfl (by simp only [evq, hL, hx, hy, bin, Option.map_none]) rfl ?_
  intro m ε oper ho hS hρ
  have ht : X.P.underlying t = some (.slice e) := (X.ok t _ hL).kind
  have hxr := hρ x
  rw [hx] at hxr
  have hyr := hρ y
  rw [hy] at hyr
  have hye := hyr.val
  rcases hxr.slI with ⟨hu, rfl, rfl⟩ | ⟨ad, cap, hu, -⟩
  · refine ⟨.value (.bool true), m, .c (.v (.bool true)), H, ?_, hS, Ext.refl m, h1 ⟨rfl, rfl⟩, .inl ⟨_, rfl, .c (.v rfl)⟩⟩
    have hr := Lib.run_eql_slice_nil (P := X.P) m.w t e none 0 0 0 0 ht
    have hg : (eqGuard .eql t x y (.slice none 0 0) (.slice none 0 0)).run X.P m.w = .ok () m.w := rfl
    simp only [Option.isNone_none] at hr
    simp [execOp, ho, hu, hye, hg, hr]
  · refine ⟨.value (.bool false), m, .c (.v (.bool false)), H, ?_, hS, Ext.refl m, h2, .inl ⟨_, rfl, .c (.v rfl)⟩⟩
    have hr := Lib.run_eql_slice_nil (P := X.P) m.w t e (some ad) n cap 0 0 ht
    have hg : (eqGuard .eql t x y (.slice (some ad) n cap) (.slice none 0 0)).run X.P m.w = .ok () m.w := rfl
    simp only [Option.isNone_some] at hr
    simp [execOp, ho, hu, hye, hg, hr]
end
end Go.VL
