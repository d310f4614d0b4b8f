/- Operations that look at no object, by the model's own run: structs held against each other. Over any program. -/
import Derived.Test.YtbejolinihbokaaV39
import Derived.Laws.StructEq
import Derived.ChangeKeysEq
namespace Go.VL
open Go.RowKit
theorem run_eqFields_plain {P : Program} (d : Nat) (xs ys : Array Value) : ∀ (fs : List Field), (∀ f ∈ fs, f.name ≠ "_" ∧ P.plainKey f.type = true ∧ ∃ u v, xs[f.offset]? = some u ∧ ys[f.offset]? = some v ∧ ∀ w, ∃ r : Bool, (Op.equalIn d f.type u v).run P w = .ok r w ∧ (r = true ↔ u = v)) →
    ∀ w, ∃ r : Bool, (Op.eqFields d xs ys fs).run P w = .ok r w ∧ (r = true ↔ ∀ f ∈ fs, xs[f.offset]? = ys[f.offset]?)
  | [], _, w => ⟨true, by simp [Op.eqFields], by simp⟩
  | f :: fs, h, w => by
    obtain ⟨h1, h2, u, v, h3, h4, h5⟩ := h f (by simp)
    obtain ⟨r, hr, hiff⟩ := h5 w
    obtain ⟨r', hr', hiff'⟩ := run_eqFields_plain d xs ys fs (fun f hf => h f (by simp [hf])) w
    have e1 : (part f.type xs f.offset).run P w = .ok u w := run_part_plain w h2 h3
    have e2 : (part f.type ys f.offset).run P w = .ok v w := run_part_plain w h2 h4
    simp only [Op.eqFields, if_pos h1, Sem.run_bind, e1, e2, Result.andThen_ok, hr]
    cases r
    · refine ⟨false, by simp, ?_⟩
      simp only [Bool.false_eq_true, false_iff]
      intro hh
      have := hh f (by simp)
      rw [h3, h4] at this
      exact absurd (hiff.2 (Option.some.inj this)) (by simp)
    · refine ⟨r', by simpa using hr', ?_⟩
      rw [hiff']
      have huv := hiff.1 rfl
      simp only [List.mem_cons, forall_eq_or_imp, h3, h4, huv, true_and]
/-- Two structs of whole numbers, held against each other. -/
theorem struct_eq {X : Cx} {t : TypeId} {m : Mem} {cs1 cs2 : List C} {u v : Value} {p : Prop} (L : List (TypeId × Nat)) (hu : X.P.underlying t = some (.struct (X.P.fieldsOf t))) (hs : X.P.stoodInHeld t = false)
    (hm : (X.P.fieldsOf t).toList.map (fun f => (f.name != "_", f.type, f.offset)) = L.map (fun q => (true, q.1, q.2)))
    (hL : ∀ q ∈ L, ∃ (k : IntKind) (a b : Int), X.P.underlying q.1 = some (.int k) ∧ cs1[q.2]? = some (.v (.int k a)) ∧ cs2[q.2]? = some (.v (.int k b))) (hp : p ↔ ∀ q ∈ L, cs1[q.2]? = cs2[q.2]?)
    (h1 : RV m (.agg cs1) u) (h2 : RV m (.agg cs2) v) : ∃ xs ys, u = .agg xs ∧ v = .agg ys ∧ ∀ w, ∃ r : Bool, (Op.equalIn 10000 t (.agg xs) (.agg ys)).run X.P w = .ok r w ∧ (r = true ↔ p) := by
  obtain ⟨xs, rfl, -, hx⟩ := h1.aggI
  obtain ⟨ys, rfl, -, hy⟩ := h2.aggI
  refine ⟨xs, ys, rfl, rfl, fun w => ?_⟩
  have fld : ∀ f ∈ (X.P.fieldsOf t).toList, f.name ≠ "_" ∧ (f.type, f.offset) ∈ L := fun f hf => by
    have h3 : (f.name != "_", f.type, f.offset) ∈ L.map (fun q => (true, q.1, q.2)) := by rw [← hm]; exact List.mem_map_of_mem hf
    obtain ⟨q, hq, he⟩ := List.mem_map.1 h3
    simp only [Prod.mk.injEq] at he
    obtain ⟨e1, e2, e3⟩ := he
    exact ⟨by simpa using e1.symm, by rw [← e2, ← e3]; exact hq⟩
  have back : ∀ q ∈ L, ∃ f ∈ (X.P.fieldsOf t).toList, f.offset = q.2 := fun q hq => by
    have h3 : (true, q.1, q.2) ∈ (X.P.fieldsOf t).toList.map (fun f => (f.name != "_", f.type, f.offset)) := by rw [hm]; exact List.mem_map_of_mem hq
    obtain ⟨f, hf, he⟩ := List.mem_map.1 h3
    simp only [Prod.mk.injEq] at he
    exact ⟨f, hf, he.2.2⟩
  have cell : ∀ {cs : List C} {zs : Array Value} {j : Nat} {z : Value}, (∀ (j : Nat) (c : C), cs[j]? = some c → ∃ u, zs[j]? = some u ∧ R m c u) → cs[j]? = some (.v z) → zs[j]? = some z := fun hc hj => by
    obtain ⟨u, h3, h4⟩ := hc _ _ hj
    have := h4.val
    rw [h3, this]
  rw [run_equalIn_agg w 9999 t xs ys hu hs]
  obtain ⟨r, hr, hiff⟩ := run_eqFields_plain (P := X.P) 9999 xs ys (X.P.fieldsOf t).toList (fun f hf => by
    obtain ⟨n1, n2⟩ := fld f hf
    obtain ⟨k, a, b, k1, k2, k3⟩ := hL _ n2
    refine ⟨n1, by unfold Program.plainKey; rw [k1], _, _, cell hx k2, cell hy k3, fun w => ⟨_, run_equalIn_int w 9998 f.type k k a b k1, ?_⟩⟩
    simp) w
  refine ⟨r, hr, hiff.trans (Iff.trans ⟨fun h q hq => ?_, fun h f hf => ?_⟩ hp.symm)⟩
  · obtain ⟨f, hf, he⟩ := back q hq
    obtain ⟨k, a, b, k1, k2, k3⟩ := hL _ hq
    have h3 := h f hf
    rw [he, cell hx k2, cell hy k3] at h3
    rw [k2, k3, Option.some.inj h3]
  · obtain ⟨n1, n2⟩ := fld f hf
    obtain ⟨k, a, b, k1, k2, k3⟩ := hL _ n2
    have h3 := h _ n2
    simp only [k2, k3] at h3
    rw [cell hx k2, cell hy k3, (C.v.inj (Option.some.inj h3))]
theorem rq_neq {X : Cx} {t ty2 : TypeId} {x y : Operand} {ρ : Operand → V} {cs1 cs2 : List C} {p : Prop} [Decidable p] (L : List (TypeId × Nat)) (hu : X.P.underlying t = some (.struct (X.P.fieldsOf t))) (hs : X.P.stoodInHeld t = false) (hg : X.P.eqGuardType X.P.depth t = false)
    (hm : (X.P.fieldsOf t).toList.map (fun f => (f.name != "_", f.type, f.offset)) = L.map (fun q => (true, q.1, q.2)))
    (hL : ∀ q ∈ L, ∃ (k : IntKind) (a b : Int), X.P.underlying q.1 = some (.int k) ∧ cs1[q.2]? = some (.v (.int k a)) ∧ cs2[q.2]? = some (.v (.int k b))) (hp : p ↔ ∀ q ∈ L, cs1[q.2]? = cs2[q.2]?)
    (hx : ρ x = .agg cs1) (hy : ρ y = .agg cs2) : RawQ X (.binOp .neq t x y ty2) ρ (.c (.v (.bool (decide (¬ p))))) := by
  intro m H ε o ho hS hr
  have r1 := hr x (by simp [Op.operands])
  have r2 := hr y (by simp [Op.operands])
  rw [hx] at r1
  rw [hy] at r2
  obtain ⟨xs, ys, e1, e2, h⟩ := struct_eq L hu hs hm hL hp r1 r2
  obtain ⟨r, h3, h4⟩ := h m.w
  refine Good.here hS (u := .bool (decide (¬ p))) ?_ (.c (.v rfl))
  have h5 : decide (¬ p) = !r := by
    cases r
    · simp [← h4]
    · simp [← h4]
  simp [execOp, ho, e1, e2, run_eqGuard_agg m.w _ _ _ _ _ _ hg, run_neq_struct, h3, h5]
theorem rq_eql {X : Cx} {t ty2 : TypeId} {x y : Operand} {ρ : Operand → V} {cs1 cs2 : List C} {p : Prop} [Decidable p] (L : List (TypeId × Nat)) (hu : X.P.underlying t = some (.struct (X.P.fieldsOf t))) (hs : X.P.stoodInHeld t = false) (hg : X.P.eqGuardType X.P.depth t = false)
    (hm : (X.P.fieldsOf t).toList.map (fun f => (f.name != "_", f.type, f.offset)) = L.map (fun q => (true, q.1, q.2)))
    (hL : ∀ q ∈ L, ∃ (k : IntKind) (a b : Int), X.P.underlying q.1 = some (.int k) ∧ cs1[q.2]? = some (.v (.int k a)) ∧ cs2[q.2]? = some (.v (.int k b))) (hp : p ↔ ∀ q ∈ L, cs1[q.2]? = cs2[q.2]?)
    (hx : ρ x = .agg cs1) (hy : ρ y = .agg cs2) : RawQ X (.binOp .eql t x y ty2) ρ (.c (.v (.bool (decide p)))) := by
  intro m H ε o ho hS hr
  have r1 := hr x (by simp [Op.operands])
  have r2 := hr y (by simp [Op.operands])
  rw [hx] at r1
  rw [hy] at r2
  obtain ⟨xs, ys, e1, e2, h⟩ := struct_eq L hu hs hm hL hp r1 r2
  obtain ⟨r, h3, h4⟩ := h m.w
  refine Good.here hS (u := .bool (decide p)) ?_ (.c (.v rfl))
  have h5 : decide p = r := by
    cases r
    · simp [← h4]
    · simp [← h4]
  simp [execOp, ho, e1, e2, run_eqGuard_agg m.w _ _ _ _ _ _ hg, run_eql_struct, h3, h5]
section
variable {X : Cx} {all : List Oper} {r : List En} {hist : Hist} {K : Sl → List Ob → Prop} {sl : Sl} {H : List Ob} {i : Nat} {chk : List Nat} {d : Tmp} {ty : TypeId} {ps : String} {af : Array Edge} {g : Option (Nat × Bool)} {op : Op}
/-- An operation that looks at no object, by the model's own run. -/
theorem d_raw (v : V) (ho : all[i]? = some ⟨some d, op, ty, ps, af, g⟩) (hg : gb all sl g = some true) (hc : callOf op = none) (hq : evq X.lay H (rho X.G sl) op = none) (hs : sens op = false) (hv : RawQ X op (rho X.G sl) v) (h : vopsD X all r hist K (upd sl d v) H) : vopsD X all (⟨i, 0, chk⟩ :: r) hist K sl H := by
  simp only [vopsD, ho]
  refine gb_on hg ?_
  rw [if_neg (by omega)]
  unfold vq
  rw [if_neg (by omega), hc]
  simp only [hq]
  refine ⟨v, hv, ?_⟩
  rw [if_neg (by simp [hs])]
  exact h
/-- .. that answers yes or no. -/
theorem d_rawb {p : Prop} [Decidable p] (hv : RawQ X op (rho X.G sl) (.c (.v (.bool (decide p))))) (ho : all[i]? = some ⟨some d, op, ty, ps, af, g⟩) (hg : gb all sl g = some true) (hc : callOf op = none) (hq : evq X.lay H (rho X.G sl) op = none) (hs : sens op = false)
    (h1 : p → vopsD X all r hist K (upd sl d (.c (.v (.bool true)))) H) (h2 : ¬ p → vopsD X all r hist K (upd sl d (.c (.v (.bool false)))) H) : vopsD X all (⟨i, 0, chk⟩ :: r) hist K sl H := by
  by_cases hpp : p
  · rw [show decide p = true by simp [hpp]] at hv
    exact d_raw _ ho hg hc hq hs hv (h1 hpp)
  · rw [show decide p = false by simp [hpp]] at hv
    exact d_raw _ ho hg hc hq hs hv (h2 hpp)
end
end Go.VL
