/- Steps: a function walked where it is called. Over any program. -/
import Derived.Test.YtbejolinihbokaaV36
namespace Go.VL
open Go.RowKit
section
variable {X : Cx} {all r : List Oper} {K : Sl → List Ob → Prop} {sl : Sl} {H : List Ob} {d : Tmp} {ty : TypeId} {ps : String} {af : Array Edge}
/-- A call, walked into. -/
theorem v_inl {D : DR} {f : Operand} {args : Array Operand} {tys : Array TypeId} {g : FuncId} {fn : Func} {c : Code} {caps : List C} {as : List V} {n : Nat} (hD : DrawOk X D) (hen : Enters X g) (hfn : X.P.funcs[g]? = some fn) (hb : fn.body = some c)
    (hf : rho X.G sl f = .c (.fn g caps)) (has : args.toList.map (rho X.G sl) ++ caps.map .c = as) (hn : as.length + (fn.ntmps - as.length) = n)
    (h : vwp X n H.length D c (retQ X fn.results.toList fun res H' => vops X all r K (upd sl d res) H') (slots as) H) : vops X all (⟨some d, .call ⟨.value f, args, tys⟩, ty, ps, af, none⟩ :: r) K sl H := by
  subst has
  simp only [vops, vguard, vop, callOf, hf, target, putV]
  exact CallC.of_body hD hen hfn hb hn h
/-- An element of a frozen slice, by a known number. -/
theorem v_idx_n {α : Type} {enc : α → List C} {t e : TypeId} {x i : Operand} {a b : Nat} {z : List Value} {o : Bool} {m k : Nat} {xs : List α} {kk : IntKind} (j : Nat) {L : Lay} (he : ∀ a, (enc a).length = k) (hL : X.lay t = some ⟨.slice e, a, b, z⟩) (hLe : X.lay e = some L) (hk : L.size = k) (hk0 : Nat.blt 0 k = true)
    (hx : rho X.G sl x = .c (.sl o m k (flat enc xs))) (hm : m = xs.length) (hi : rho X.G sl i = .c (.v (.int kk (j : Int)))) (hj : j < xs.length) (h : vops X all r K (upd sl d (.c (.vw o (enc xs[j]) 0))) H) :
    vops X all (⟨some d, .indexAddr t x i, ty, ps, af, none⟩ :: r) K sl H := by
  subst hm
  refine v_q _ rfl ?_ h
  simp only [evq, hL, hx, hi, hLe]
  rw [if_pos ⟨hk, Nat.le_of_ble_eq_true hk0, by omega, by omega⟩, Int.toNat_natCast, sub_flat he hj]
/-- .. of a live one. -/
theorem v_idx_mu_n {t e : TypeId} {x i : Operand} {a b : Nat} {z : List Value} {id off m k : Nat} {kk : IntKind} (j : Nat) {L : Lay} (hL : X.lay t = some ⟨.slice e, a, b, z⟩) (hLe : X.lay e = some L) (hk : L.size = k)
    (hx : rho X.G sl x = .c (.mu id off m k)) (hi : rho X.G sl i = .c (.v (.int kk (j : Int)))) (hj : j < m) (h : vops X all r K (upd sl d (.c (.pt id (off + j * k)))) H) :
    vops X all (⟨some d, .indexAddr t x i, ty, ps, af, none⟩ :: r) K sl H := by
  refine v_q _ rfl ?_ h
  simp only [evq, hL, hx, hi, hLe]
  rw [if_pos ⟨hk, by omega, by omega⟩, Int.toNat_natCast]
end
end Go.VL
