/- Calls that answer several live slices. Over any program. -/
import Derived.Test.YtbejolinihbokaaV40
namespace Go.VL
open Go.RowKit
section
variable {X : Cx} {all r : List Oper} {K : Sl → List Ob → Prop} {sl : Sl} {H : List Ob} {d : Tmp} {ty : TypeId} {ps : String} {af : Array Edge}
theorem v_liveN {f : Operand} {args : Array Operand} {tys : Array TypeId} {g : FuncId} {caps : List C} {args' : List V} {res res' : V} {H1 H' : List Ob} {N : Nat} (hp : LiveC X g args' res H1) (hsc : ∀ o ∈ H1, ∀ c ∈ o.cs, sc c = true) (hN : H.length = N) (ha : ansV res = true) (hres : shV N res = res') (hH : H ++ H1 = H')
    (hf : rho X.G sl f = .c (.fn g caps)) {as : List V} (has : args.toList.map (rho X.G sl) ++ caps.map .c = as) (hv : Views H as args') (h : vops X all r K (upd sl d res') H') : vops X all (⟨some d, .call ⟨.value f, args, tys⟩, ty, ps, af, none⟩ :: r) K sl H :=
  v_live hp hN ha (fun o ho => ans_sc (hsc o ho)) hres (by
    rw [← hH]
    congr 1
    refine (List.map_congr_left fun o ho => ?_).trans (List.map_id' _)
    rw [sh_sc (hsc o ho)]) hf has hv h
end
end Go.VL
