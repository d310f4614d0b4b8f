/- Steps: live answers of one plain object. Over any program. -/
import Derived.Test.YtbejolinihbokaaV28
namespace Go.VL
open Go.RowKit

section
variable {X : Cx} {all r : List Oper} {K : Sl → List Ob → Prop} {sl : Sl} {H : List Ob} {d : Tmp} {ty : TypeId} {ps : String} {af : Array Edge}
theorem v_live1 {f : Operand} {args : Array Operand} {tys : Array TypeId} {g : FuncId} {caps : List C} {args' : List V} {res res' : V} {t : TypeId} {cs : List C} {H' : List Ob} {N : Nat} (hp : LiveC X g args' res [⟨cs, t, true⟩]) (hsc : ∀ c ∈ cs, sc c = true) (hN : H.length = N) (ha : ansV res = true) (hres : shV N res = res') (hH : H ++ [⟨cs, t, true⟩] = H')
    (hf : rho X.G sl f = .c (.fn g caps)) {as : List V} (has : args.toList.map (rho X.G sl) ++ caps.map .c = as) (hv : Views H as args') (h : vops X all r K (upd sl d res') H') : vops X all (⟨some d, .call ⟨.value f, args, tys⟩, ty, ps, af, none⟩ :: r) K sl H :=
  v_live hp hN ha (fun o ho => by
    simp only [List.mem_singleton] at ho
    subst ho
    exact ans_sc hsc) hres (by rw [← hH]; simp only [List.map_cons, List.map_nil, sh_sc hsc]) hf has hv h
end
/-- A list of cells written so, anew. -/
theorem trc_flat {α : Type} {enc : α → List C} {H : List Ob} {g : List (Option Nat)} {xs : List α} (h : ∀ a, (enc a).all sc = true) {cs : List C} (hc : cs = flat enc xs) : TrC H g cs (flat enc xs) := by
  rw [hc]
  exact .stay (stays_flat h xs)
theorem vw_mu2 {α : Type} {H : List Ob} {enc : α → List C} {id n k : Nat} {xs : List α} {t : TypeId} (hsc : ∀ a, (enc a).all sc = true) (he : ∀ a, (enc a).length = k) (ho : H[id]? = some ⟨flat enc xs, t, true⟩) (hn : n = xs.length) : VwV H (.c (.mu id 0 n k)) (.c (.sl false n k (flat enc xs))) := vw_mu hsc he ho hn
theorem a_flat2 {α : Type} {H : List Ob} {enc : α → List C} {id n n' k : Nat} {xs : List α} {t : TypeId} {cs : List C} (hsc : ∀ a, (enc a).all sc = true) (he : ∀ a, (enc a).length = k) (ho : H[id]? = some ⟨cs, t, true⟩) (hc : cs = flat enc xs) (hn : n = xs.length) (hn' : n' = n) : TrV H [] (.c (.mu id 0 n k)) (.c (.sl true n' k (flat enc xs))) := by
  subst hc hn'
  exact a_flat hsc he ho hn
theorem okF_near {k : FloatKind} (n : Int) : okF k (some (k.nearest n)) := fun b h => by
  simp only [Option.some.injEq] at h
  subst h
  exact write_num k (.number (decide (n < 0)) n.natAbs 0) rfl
/-- A list of which the first ones are marked. -/
def marks {α : Type} (f : Nat → α) (i : Nat) (xs : List α) : List α := (List.range i).map f ++ xs.drop i
theorem marks_len {α : Type} {f : Nat → α} {i : Nat} {xs : List α} (h : i ≤ xs.length) : (marks f i xs).length = xs.length := by simp [marks]; omega
theorem marks_zero {α : Type} {f : Nat → α} {xs : List α} : marks f 0 xs = xs := rfl
theorem marks_all {α : Type} {f : Nat → α} {xs : List α} : marks f xs.length xs = (List.range xs.length).map f := by simp [marks]
theorem marks_step {α : Type} {f : Nat → α} {i : Nat} {xs : List α} (h : i < xs.length) : (marks f i xs).set i (f i) = marks f (i + 1) xs := by
  unfold marks
  have hd : (List.drop i xs).set 0 (f i) = f i :: List.drop (i + 1) xs := by rw [List.drop_eq_getElem_cons h]; rfl
  rw [List.set_append_right _ _ (by simp), List.range_succ, List.map_append, List.length_map, List.length_range, Nat.sub_self, hd]
  simp
theorem range_step {α : Type} (f : Nat → α) (i : Nat) : (List.range (i + 1)).map f = (List.range i).map f ++ [f i] := by simp [List.range_succ]
section
variable {X : Cx} {all r : List Oper} {K : Sl → List Ob → Prop} {sl : Sl} {H : List Ob} {d : Tmp} {ty : TypeId} {ps : String} {af : Array Edge}
/-- append of a live slice onto a live slice. -/
theorem v_app_flat {α : Type} {enc : α → List C} {ys zs : List α} {s x : Operand} {t e e' : TypeId} {a b : Nat} {z : List Value} {L : Lay} {id idx m n k q : Nat} {H' : List Ob} (_hsc : ∀ a, (enc a).all sc = true) (he : ∀ a, (enc a).length = k) (hL : X.lay t = some ⟨.slice e, a, b, z⟩) (hLe : X.lay e = some L) (hs : rho X.G sl s = .c (.mu id 0 m k)) (ho : H[id]? = some ⟨flat enc ys, e, true⟩) (hm : m = ys.length)
    (hx : rho X.G sl x = .c (.mu idx 0 n k)) (hox : H[idx]? = some ⟨flat enc zs, e', true⟩) (hz : n = zs.length) (hk : L.size = k) (hk0 : Nat.blt 0 k = true) (hn : m + n ≤ maxLen ∧ (m + n) * L.bytes ≤ 140737488355328) (hq : H.length = q) (hH : H.set id ⟨flat enc ys, e, false⟩ ++ [⟨flat enc (ys ++ zs), e, true⟩] = H') (h : vops X all r K (upd sl d (.c (.mu q 0 (m + n) k))) H') :
    vops X all (⟨some d, .call ⟨.builtin .append, #[s, x], #[t, t]⟩, ty, ps, af, none⟩ :: r) K sl H := by
  have hx' : srcOf H (rho X.G sl x) = some (n, k, flat enc zs) := by
    have hl : 0 + n * k ≤ (flat enc zs).length := by rw [flat_length he, hz]; omega
    have hsub : sub (flat enc zs) 0 (n * k) = flat enc zs := by
      have : n * k = (flat enc zs).length := by rw [flat_length he, hz]
      unfold sub
      rw [this]; simp
    simp only [srcOf, hx, hox]
    rw [if_pos ⟨trivial, hl⟩, hsub]
  exact v_app_mu hL hLe hs ho hx' hk (Nat.le_of_ble_eq_true hk0) (by rw [flat_length he, hm]) hn hq (by rw [← flat_append]; exact hH) h
/-- append of a frozen slice onto a live slice. -/
theorem v_app_flat_sl {α : Type} {enc : α → List C} {ys zs : List α} {s x : Operand} {t e : TypeId} {a b : Nat} {z : List Value} {L : Lay} {id m n k q : Nat} {o : Bool} {H' : List Ob} (hsc : ∀ a, (enc a).all sc = true) (he : ∀ a, (enc a).length = k) (hL : X.lay t = some ⟨.slice e, a, b, z⟩) (hLe : X.lay e = some L) (hs : rho X.G sl s = .c (.mu id 0 m k)) (ho : H[id]? = some ⟨flat enc ys, e, true⟩) (hm : m = ys.length)
    (hx : rho X.G sl x = .c (.sl o n k (flat enc zs))) (hk : L.size = k) (hk0 : Nat.blt 0 k = true) (hn : m + n ≤ maxLen ∧ (m + n) * L.bytes ≤ 140737488355328) (hq : H.length = q) (hH : H.set id ⟨flat enc ys, e, false⟩ ++ [⟨flat enc (ys ++ zs), e, true⟩] = H') (h : vops X all r K (upd sl d (.c (.mu q 0 (m + n) k))) H') :
    vops X all (⟨some d, .call ⟨.builtin .append, #[s, x], #[t, t]⟩, ty, ps, af, none⟩ :: r) K sl H := by
  have hx' : srcOf H (rho X.G sl x) = some (n, k, flat enc zs) := by
    simp only [srcOf, hx]
    rw [reowns_flat hsc]
  exact v_app_mu hL hLe hs ho hx' hk (Nat.le_of_ble_eq_true hk0) (by rw [flat_length he, hm]) hn hq (by rw [← flat_append]; exact hH) h
end
end Go.VL
