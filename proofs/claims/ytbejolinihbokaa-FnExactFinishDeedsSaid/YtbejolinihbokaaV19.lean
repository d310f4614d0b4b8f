/- Steps in regions whose order is drawn; calls that answer yes or no. Over any program. -/
import Derived.Test.YtbejolinihbokaaV18
namespace Go.VL
open Go.RowKit

def eveOp : Op → Bool
  | .box _ _ => true
  | .alloc _ => true
  | .store _ _ _ => true
  | .buildSlice _ _ _ => true
  | .makeSlice _ _ _ => true
  | .call { callee := .builtin .append, args := _, argTypes := _ } => true
  | .call { callee := .builtin .copy, args := _, argTypes := _ } => true
  | _ => false
theorem eve_none {lay : TypeId → Option Lay} {H : List Ob} {ρ : Operand → V} {op : Op} (h : eveOp op = false) : eve lay H ρ op = none := by
  cases op <;> try rfl
  all_goals try (cases h; done)
  rename_i c
  obtain ⟨callee, args, tys⟩ := c
  cases callee with
  | builtin b => cases b <;> first | rfl | (cases h; done)
  | value f => rfl
  | invoke r m => rfl
theorem evq_none {lay : TypeId → Option Lay} {H : List Ob} {ρ : Operand → V} {op : Op} (h : eveOp op = true) : evq lay H ρ op = none ∧ callOf op = none := by
  cases op <;> try (cases h; done)
  all_goals try exact ⟨rfl, rfl⟩
  rename_i c
  obtain ⟨callee, args, tys⟩ := c
  cases callee with
  | builtin b => cases b <;> first | exact ⟨rfl, rfl⟩ | (cases h; done)
  | value f => cases h
  | invoke r m => cases h

def gb (all : List Oper) (sl : Sl) : Option (Nat × Bool) → Option Bool
  | none => some true
  | some (j, w) => match (all[j]?).bind (·.dst) with
    | some d => match sl d with
      | .c (.v (.bool b)) => some (b == w)
      | .tup _ => some false
      | _ => none
    | none => none
theorem gb_on {all : List Oper} {sl : Sl} {o : Oper} {A B : Prop} (h : gb all sl o.guard = some true) (hA : A) : vguard all sl o A B := by
  unfold gb at h
  unfold vguard
  split
  · exact hA
  · rename_i j w hg
    rw [hg] at h
    simp only at h
    split
    · rename_i d hd
      rw [hd] at h
      simp only at h
      split at h
      · rename_i b hb
        rw [hb]
        simp only [Option.some.injEq, beq_iff_eq] at h
        simp only [if_pos h]
        exact hA
      · cases h
      · cases h
    · rename_i hd
      rw [hd] at h
      cases h
theorem gb_off {all : List Oper} {sl : Sl} {o : Oper} {A B : Prop} (h : gb all sl o.guard = some false) (hB : B) : vguard all sl o A B := by
  unfold gb at h
  unfold vguard
  split
  · rename_i hg; rw [hg] at h; cases h
  · rename_i j w hg
    rw [hg] at h
    simp only at h
    split
    · rename_i d hd
      rw [hd] at h
      simp only at h
      split at h
      · rename_i b hb
        rw [hb]
        simp only [Option.some.injEq, beq_eq_false_iff_ne] at h
        simp only [if_neg h]
        exact hB
      · rename_i hb
        rw [hb]
        exact hB
      · cases h
    · rename_i hd
      rw [hd] at h
      cases h

theorem upd_same (sl : Sl) (d : Tmp) (v : V) : upd sl d v d = v := by simp [upd]

section
variable {X : Cx} {all : List Oper} {r : List En} {hist : Hist} {K : Sl → List Ob → Prop} {sl : Sl} {H : List Ob} {i : Nat} {chk : List Nat} {d : Tmp} {op : Op} {ty : TypeId} {ps : String} {af : Array Edge} {g : Option (Nat × Bool)}

theorem d_nil (h : K sl H) : vopsD X all [] hist K sl H := h
theorem d_off {k : Nat} {dst : Option Tmp} (ho : all[i]? = some ⟨dst, op, ty, ps, af, g⟩) (hg : gb all sl g = some false) (h : vopsD X all r hist K (putV sl dst .undef) H) : vopsD X all (⟨i, k, chk⟩ :: r) hist K sl H := by
  simp only [vopsD, ho]
  exact gb_off hg h
/-- An operation that writes nothing, and is no call. -/
theorem d_q {b : Bool} (ho : all[i]? = some ⟨some d, op, ty, ps, af, g⟩) (hg : gb all sl g = some true) (hc : callOf op = none) (he : eveOp op = false) (hs : sens op = b)
    (h : vops X [] [⟨some d, op, ty, ps, af, none⟩] (fun sl' H' => vopsD X all r (if b then (i, sl, sl' d) :: hist else hist) K sl' H') sl H) : vopsD X all (⟨i, 0, chk⟩ :: r) hist K sl H := by
  simp only [vopsD, ho]
  refine gb_on hg ?_
  rw [if_neg (by omega)]
  simp only [vops, vguard, vop, hc, eve_none he] at h
  unfold vq
  rw [if_neg (by omega), hc]
  simp only
  split at h
  · rename_i v hv
    simp only [putV, upd_same, hv] at h ⊢
    subst hs
    simpa using h
  · exact absurd h.1 (by decide)
/-- An operation that writes. -/
theorem d_e {dst : Option Tmp} (ho : all[i]? = some ⟨dst, op, ty, ps, af, g⟩) (hg : gb all sl g = some true) (he : eveOp op = true)
    (h : vops X [] [⟨dst, op, ty, ps, af, none⟩] (fun sl' H' => againAll X all H' chk hist ∧ vopsD X all r hist K sl' H') sl H) : vopsD X all (⟨i, 1, chk⟩ :: r) hist K sl H := by
  simp only [vopsD, ho]
  refine gb_on hg ?_
  rw [if_pos trivial]
  obtain ⟨h1, h2⟩ := evq_none (lay := X.lay) (H := H) (ρ := rho X.G sl) he
  simp only [vops, vguard, vop, h2, h1] at h
  split at h
  · rename_i f hf
    exact ⟨f.v, f.H, .inl ⟨f, hf, h.1, rfl, rfl⟩, h.2.1, h.2.2⟩
  · exact absurd h.1 (by decide)
/-- A slice's literal, frozen at once. -/
theorem d_z (v : V) (ho : all[i]? = some ⟨some d, op, ty, ps, af, g⟩) (hg : gb all sl g = some true) (hv : frz X.lay (rho X.G sl) op = some v) (h : vopsD X all r hist K (upd sl d v) H) : vopsD X all (⟨i, 2, chk⟩ :: r) hist K sl H := by
  simp only [vopsD, ho]
  refine gb_on hg ?_
  rw [if_neg (by omega)]
  unfold vq
  rw [if_pos rfl, hv]
  simpa [putV] using h
/-- A call on data, by its contract. -/
theorem d_call {f : Operand} {args : Array Operand} {tys : Array TypeId} {gf : FuncId} {caps : List C} {args' : List V} {res : V} (hp : PureC X gf args' res) (hown : ownV res = true) (ho : all[i]? = some ⟨some d, .call ⟨.value f, args, tys⟩, ty, ps, af, g⟩) (hg : gb all sl g = some true)
    (hf : rho X.G sl f = .c (.fn gf caps)) {as : List V} (has : args.toList.map (rho X.G sl) ++ caps.map .c = as) (hv : Views H as args') (h : vopsD X all r ((i, sl, res) :: hist) K (upd sl d res) H) : vopsD X all (⟨i, 0, chk⟩ :: r) hist K sl H := by
  subst has
  simp only [vopsD, ho]
  refine gb_on hg ?_
  rw [if_neg (by omega)]
  unfold vq
  rw [if_neg (by omega)]
  simp only [callOf, hf, target]
  exact ⟨res, ⟨args', hv, hp, hown⟩, by simpa [sens, putV] using h⟩
theorem d_callb {f : Operand} {args : Array Operand} {tys : Array TypeId} {gf : FuncId} {caps : List C} {args' : List V} {p : Prop} [Decidable p] (hp : PureC X gf args' (.c (.v (.bool (decide p))))) (ho : all[i]? = some ⟨some d, .call ⟨.value f, args, tys⟩, ty, ps, af, g⟩) (hg : gb all sl g = some true)
    (hf : rho X.G sl f = .c (.fn gf caps)) {as : List V} (has : args.toList.map (rho X.G sl) ++ caps.map .c = as) (hv : Views H as args') (h1 : p → vopsD X all r ((i, sl, .c (.v (.bool true))) :: hist) K (upd sl d (.c (.v (.bool true)))) H)
    (h2 : ¬ p → vopsD X all r ((i, sl, .c (.v (.bool false))) :: hist) K (upd sl d (.c (.v (.bool false)))) H) : vopsD X all (⟨i, 0, chk⟩ :: r) hist K sl H := by
  by_cases hpp : p
  · rw [show decide p = true by simp [hpp]] at hp
    exact d_call hp rfl ho hg hf has hv (h1 hpp)
  · rw [show decide p = false by simp [hpp]] at hp
    exact d_call hp rfl ho hg hf has hv (h2 hpp)
theorem again_nil {H' : List Ob} : againAll X all H' [] hist := by
  induction hist with
  | nil => trivial
  | cons x h ih => exact ⟨by simp, ih⟩
end

section
variable {X : Cx} {all r : List Oper} {K : Sl → List Ob → Prop} {sl : Sl} {H : List Ob} {d : Tmp} {ty : TypeId} {ps : String} {af : Array Edge}
theorem v_callb {f : Operand} {args : Array Operand} {tys : Array TypeId} {g : FuncId} {caps : List C} {args' : List V} {p : Prop} [Decidable p] (hp : PureC X g args' (.c (.v (.bool (decide p))))) (hf : rho X.G sl f = .c (.fn g caps)) {as : List V} (has : args.toList.map (rho X.G sl) ++ caps.map .c = as) (hv : Views H as args')
    (h1 : p → vops X all r K (upd sl d (.c (.v (.bool true)))) H) (h2 : ¬ p → vops X all r K (upd sl d (.c (.v (.bool false)))) H) : vops X all (⟨some d, .call ⟨.value f, args, tys⟩, ty, ps, af, none⟩ :: r) K sl H := by
  by_cases hpp : p
  · rw [show decide p = true by simp [hpp]] at hp
    exact v_call hp rfl hf has hv (h1 hpp)
  · rw [show decide p = false by simp [hpp]] at hp
    exact v_call hp rfl hf has hv (h2 hpp)
end
end Go.VL
