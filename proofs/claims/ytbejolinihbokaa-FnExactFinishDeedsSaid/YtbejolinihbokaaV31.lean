/- Steps in drawn regions: a call that answers a live object. Over any program. -/
import Derived.Test.YtbejolinihbokaaV30
namespace Go.VL
open Go.RowKit
section
variable {X : Cx} {all : List Oper} {r : List En} {hist : Hist} {K : Sl → List Ob → Prop} {sl : Sl} {H : List Ob} {i : Nat} {chk : List Nat} {d : Tmp} {ty : TypeId} {ps : String} {af : Array Edge} {g : Option (Nat × Bool)}
theorem d_live1 {f : Operand} {args : Array Operand} {tys : Array TypeId} {gf : FuncId} {caps : List C} {args' : List V} {res res' : V} {t : TypeId} {cs : List C} {H' : List Ob} {N : Nat} (hp : LiveC X gf args' res [⟨cs, t, true⟩]) (hsc : ∀ c ∈ cs, sc c = true) (hN : H.length = N) (ha : ansV res = true) (hres : shV N res = res') (hH : H ++ [⟨cs, t, true⟩] = H')
    (ho : all[i]? = some ⟨some d, .call ⟨.value f, args, tys⟩, ty, ps, af, g⟩) (hg : gb all sl g = some true) (hf : rho X.G sl f = .c (.fn gf caps)) {as : List V} (has : args.toList.map (rho X.G sl) ++ caps.map .c = as) (hv : Views H as args') (hag : againAll X all H' chk hist) (h : vopsD X all r hist K (upd sl d res') H') : vopsD X all (⟨i, 1, chk⟩ :: r) hist K sl H := by
  subst has
  simp only [vopsD, ho]
  refine gb_on hg ?_
  rw [if_pos trivial]
  refine ⟨res', H', .inr ⟨f, args.toList, gf, caps.map .c, rfl, by rw [hf]; rfl, ?_⟩, hag, h⟩
  subst hN hres hH
  exact CallC.of_live hp hv ha (fun o ho => by
    simp only [List.mem_singleton] at ho
    subst ho
    exact ans_sc hsc) ⟨rfl, by simp only [List.map_cons, List.map_nil, sh_sc hsc]⟩
end
/-- append onto a live slice whose object may hold more: what it shows, and what comes behind it. -/
theorem bytes_in {xs : List Int} {i : Nat} (h : ∀ x ∈ xs, 0 ≤ x ∧ x ≤ 255) (hi : i < xs.length) : 0 ≤ xs[i] ∧ xs[i] ≤ 255 := h _ (List.getElem_mem hi)
theorem u8r {a : Int} (h : 0 ≤ a ∧ a ≤ 255) : IntKind.u8.min ≤ a ∧ a ≤ IntKind.u8.max := h
end Go.VL
