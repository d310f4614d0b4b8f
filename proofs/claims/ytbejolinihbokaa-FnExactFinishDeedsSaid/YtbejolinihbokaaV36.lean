/- Steps: an element of an array by its number; bools out of memory. Over any program. -/
import Derived.Test.YtbejolinihbokaaV35
namespace Go.VL
open Go.RowKit
section
variable {X : Cx} {all r : List Oper} {K : Sl → List Ob → Prop} {sl : Sl} {H : List Ob} {d : Tmp} {ty : TypeId} {ps : String} {af : Array Edge}
theorem v_index {t e : TypeId} {x i : Operand} {n a b : Nat} {z : List Value} {cs : List C} {kk : IntKind} {j : Int} {L : Lay} (v : V) (hL : X.lay t = some ⟨.array n e, a, b, z⟩) (hLe : X.lay e = some L) (hx : rho X.G sl x = .agg cs) (hi : rho X.G sl i = .c (.v (.int kk j)))
    (hj : 0 ≤ j ∧ j < n ∧ j.toNat * L.size + L.size ≤ cs.length) (hv : mkV L.kind.agg (sub cs (j.toNat * L.size) L.size) = some v) (h : vops X all r K (upd sl d v) H) :
    vops X all (⟨some d, .index t x i, ty, ps, af, none⟩ :: r) K sl H :=
  v_q v rfl (by simp only [evq, hL, hx, hi, hLe]; rw [if_pos hj]; exact hv) h
/-- A bool, loaded. -/
theorem v_load_vwb {t : TypeId} {x : Operand} {L : Lay} {o : Bool} {cs : List C} {off : Nat} {q : Bool} (hL : X.lay t = some L) (hx : rho X.G sl x = .c (.vw o cs off)) (hl : Nat.ble (off + L.size) cs.length = true) (hv : mkV L.kind.agg (reowns o (sub cs off L.size)) = some (.c (.v (.bool q))))
    (h1 : q = true → vops X all r K (upd sl d (.c (.v (.bool true)))) H) (h2 : q = false → vops X all r K (upd sl d (.c (.v (.bool false)))) H) : vops X all (⟨some d, .load t x, ty, ps, af, none⟩ :: r) K sl H := by
  cases q with
  | true => exact v_load_vw _ hL hx hl hv (h1 rfl)
  | false => exact v_load_vw _ hL hx hl hv (h2 rfl)
theorem v_load_ptb {t : TypeId} {x : Operand} {L : Lay} {id off : Nat} {cs : List C} {tt : TypeId} {q : Bool} (hL : X.lay t = some L) (hx : rho X.G sl x = .c (.pt id off)) (ho : H[id]? = some ⟨cs, tt, true⟩) (hl : Nat.ble (off + L.size) cs.length = true) (hv : mkV L.kind.agg (sub cs off L.size) = some (.c (.v (.bool q))))
    (h1 : q = true → vops X all r K (upd sl d (.c (.v (.bool true)))) H) (h2 : q = false → vops X all r K (upd sl d (.c (.v (.bool false)))) H) : vops X all (⟨some d, .load t x, ty, ps, af, none⟩ :: r) K sl H := by
  cases q with
  | true => exact v_load_pt _ hL hx ho hl hv (h1 rfl)
  | false => exact v_load_pt _ hL hx ho hl hv (h2 rfl)
end
end Go.VL
