/- Texts of one proof, put together: V44, V45, V46, V47, V48, V49, V50, V51, V52, V53, V54, V55, V58, V59, X0, T1. -/
import Derived.Test.YtejgddephbaenaaGreatM2
import Derived.DeepKeys
import Derived.Test.YtejgddephbaenaaGreatProg
namespace Go.VL
open Go.RowKit
/-- The caller's cell, and what the called function sees: its objects are the caller's 'ids'; the other ones are frozen. -/
inductive Gv (H : List Ob) (ids : List Nat) : C → C → Prop
  | pt {i j off : Nat} (h : ids[i]? = some j) : Gv H ids (.pt j off) (.pt i off)
  | mu {i j off n k : Nat} (h : ids[i]? = some j) : Gv H ids (.mu j off n k) (.mu i off n k)
  | dn {c c' : C} (h : Dn false H (fun id => id ∉ ids) c c') (ho : c'.own = false) : Gv H ids c c'
inductive GvL (H : List Ob) (ids : List Nat) : List C → List C → Prop
  | nil : GvL H ids [] []
  | cons {c c' : C} {cs cs' : List C} (h : Gv H ids c c') (hs : GvL H ids cs cs') : GvL H ids (c :: cs) (c' :: cs')
  | sc {cs : List C} (h : ∀ c ∈ cs, sc c = true) : GvL H ids cs cs
inductive GvV (H : List Ob) (ids : List Nat) : V → V → Prop
  | c {x y : C} (h : Gv H ids x y) : GvV H ids (.c x) (.c y)
  | agg {cs cs' : List C} (h : GvL H ids cs cs') : GvV H ids (.agg cs) (.agg cs')
  | any {v : V} : GvV H ids v .any
inductive GvVs (H : List Ob) (ids : List Nat) : List V → List V → Prop
  | nil : GvVs H ids [] []
  | cons {v v' : V} {vs vs' : List V} (h : GvV H ids v v') (hs : GvVs H ids vs vs') : GvVs H ids (v :: vs) (v' :: vs')
theorem own_sc {c : C} (h : sc c = true) : c.own = false := by cases c <;> first | rfl | cases h
theorem GvL.spec {H : List Ob} {ids : List Nat} {cs cs' : List C} (h : GvL H ids cs cs') : cs'.length = cs.length ∧ ∀ (j : Nat) (c c' : C), cs[j]? = some c → cs'[j]? = some c' → Gv H ids c c' := by
  induction h with
  | nil => exact ⟨rfl, fun j c c' h => by simp at h⟩
  | cons h hs ih =>
    refine ⟨by simp [ih.1], fun j x x' hj hj' => ?_⟩
    cases j with
    | zero => simp at hj hj'; subst hj hj'; exact h
    | succ j => exact ih.2 j x x' (by simpa using hj) (by simpa using hj')
  | sc h => exact ⟨rfl, same_of fun c hc => .dn (.sc (h c hc)) (own_sc (h c hc))⟩
theorem GvVs.spec {H : List Ob} {ids : List Nat} {vs vs' : List V} (h : GvVs H ids vs vs') : vs'.length = vs.length ∧ ∀ (j : Nat) (v v' : V), vs[j]? = some v → vs'[j]? = some v' → GvV H ids v v' := by
  induction h with
  | nil => exact ⟨rfl, fun j c c' h => by simp at h⟩
  | cons h hs ih =>
    refine ⟨by simp [ih.1], fun j x x' hj hj' => ?_⟩
    cases j with
    | zero => simp at hj hj'; subst hj hj'; exact h
    | succ j => exact ih.2 j x x' (by simpa using hj) (by simpa using hj')
/-- A cell that such a call may leave or answer. -/
def gC : C → Bool
  | .v _ => true
  | .f _ _ => true
  | .any => true
  | .pt _ _ => true
  | .mu _ _ _ _ => true
  | _ => false
def gV1 : V → Bool
  | .c x => gC x
  | .agg cs => cs.all gC
  | .any => true
  | .tup _ => false
def gV : V → Bool
  | .tup vs => vs.all gV1
  | v => gV1 v
/-- The caller's number of an object. -/
def rnI (ids : List Nat) (N i : Nat) : Nat := match ids[i]? with
  | some j => j
  | none => N + (i - ids.length)
def rnC (ids : List Nat) (N : Nat) : C → C
  | .mu id off n k => .mu (rnI ids N id) off n k
  | .pt id off => .pt (rnI ids N id) off
  | c => c
def rnV1 (ids : List Nat) (N : Nat) : V → V
  | .c x => .c (rnC ids N x)
  | .agg cs => .agg (cs.map (rnC ids N))
  | v => v
def rnV (ids : List Nat) (N : Nat) : V → V
  | .tup vs => .tup (vs.map (rnV1 ids N))
  | v => rnV1 ids N v
def rnO (ids : List Nat) (N : Nat) (o : Ob) : Ob := ⟨o.cs.map (rnC ids N), o.t, o.live⟩
/-- The caller's objects behind the call. -/
def graft (ids : List Nat) (H H1 : List Ob) : List Ob :=
  ((List.range ids.length).foldl (fun (acc : List Ob) i => match ids[i]?, H1[i]? with
    | some j, some o => acc.set j (rnO ids H.length o)
    | _, _ => acc) H) ++ (H1.drop ids.length).map (rnO ids H.length)

section
variable {m m' : Mem} {ids : List Nat} {N : Nat} (hμ : ∀ i, i < m.N → m'.μ (rnI ids N i) = m.μ i ∧ rnI ids N i < m'.N)
include hμ
theorem R.rn {c : C} (h : gC c = true) {u : Value} (hr : R m c u) : R m' (rnC ids N c) u := by
  cases c with
  | mu id off n k =>
    rcases (RV.c hr).muI with ⟨rfl, rfl, rfl, hid, hg⟩ | ⟨cap, rfl, hid, hn, hs, hm, hg⟩
    · obtain ⟨e, hlt⟩ := hμ id hid
      exact .mn hlt (by rw [e]; exact hg)
    · obtain ⟨e, hlt⟩ := hμ id hid
      have := R.mu (m := m') (id := rnI ids N id) (off := off) (n := n) (k := k) (cap := cap) hlt (by rw [e]; exact hg) hn (by rw [e]; exact hs) hm
      rw [e] at this
      exact this
  | pt id off =>
    obtain ⟨rfl, hid, hg⟩ := (RV.c hr).ptI
    obtain ⟨e, hlt⟩ := hμ id hid
    have := R.pt (m := m') (id := rnI ids N id) (off := off) hlt (by rw [e]; exact hg)
    rw [e] at this
    exact this
  | v x => exact hr.sc rfl
  | f k x => exact hr.sc rfl
  | any => cases hr with
    | fz hr => cases hr with | any h => exact .any h
  | _ => cases h
theorem RV.rn1 {v : V} (h : gV1 v = true) {u : Value} (hr : RV m v u) : RV m' (rnV1 ids N v) u := by
  cases v with
  | c x => exact .c (hr.cell.rn hμ h)
  | agg cs =>
    obtain ⟨arr, rfl, h1, h2⟩ := hr.aggI
    refine .agg (by simpa using h1) fun j c hj => ?_
    rw [List.getElem?_map, Option.map_eq_some_iff] at hj
    obtain ⟨c', hj, rfl⟩ := hj
    obtain ⟨u, g1, g2⟩ := h2 j c' hj
    exact ⟨u, g1, g2.rn hμ (List.all_eq_true.1 h c' (List.mem_of_getElem? hj))⟩
  | any => exact .any
  | tup vs => cases h
theorem RV.rn {v : V} (h : gV v = true) {u : Value} (hr : RV m v u) : RV m' (rnV ids N v) u := by
  cases v with
  | tup vs =>
    cases hr with
    | tup us hl hw' hr =>
      refine .tup us (by simpa using hl) (fun j v hj => ?_) fun j v hj => ?_
      · rw [List.getElem?_map, Option.map_eq_some_iff] at hj
        obtain ⟨v', hj, rfl⟩ := hj
        exact hw' j v' hj
      · rw [List.getElem?_map, Option.map_eq_some_iff] at hj
        obtain ⟨v', hj, rfl⟩ := hj
        exact (hr j v' hj).rn1 hμ (List.all_eq_true.1 h v' (List.mem_of_getElem? hj))
  | c x => exact RV.rn1 hμ (v := .c x) h hr
  | agg cs => exact RV.rn1 hμ (v := .agg cs) h hr
  | any => exact .any
end

theorem foldl_set_len (f : Nat → Option (Nat × Ob)) : ∀ (l : List Nat) (H : List Ob), (l.foldl (fun (acc : List Ob) i => match f i with | some (j, o) => acc.set j o | none => acc) H).length = H.length
  | [], H => rfl
  | i :: l, H => by
    rw [List.foldl_cons, foldl_set_len f l]
    split <;> simp
theorem foldl_set_get (f : Nat → Option (Nat × Ob)) (hf : ∀ i i' j o o', f i = some (j, o) → f i' = some (j, o') → i = i') : ∀ (l : List Nat) (H : List Ob), l.Nodup → ∀ x, (l.foldl (fun (acc : List Ob) i => match f i with | some (j, o) => acc.set j o | none => acc) H)[x]? =
    if x < H.length then (match (l.filterMap f).find? (fun p => p.1 == x) with | some p => some p.2 | none => H[x]?) else none
  | [], H, _, x => by
    by_cases h : x < H.length
    · simp [h]
    · simp [h]
  | i :: l, H, hnd, x => by
    obtain ⟨hn1, hn2⟩ := List.nodup_cons.1 hnd
    rw [List.foldl_cons, foldl_set_get f hf l _ hn2 x, List.filterMap_cons]
    cases hfi : f i with
    | none => simp
    | some p =>
      obtain ⟨j, o⟩ := p
      simp only [List.length_set, List.find?_cons]
      by_cases hx : x < H.length
      · simp only [hx, if_true]
        by_cases hj : j = x
        · subst hj
          simp only [beq_self_eq_true]
          have hno : (l.filterMap f).find? (fun p => p.1 == j) = none := by
            rw [List.find?_eq_none]
            intro p hp
            obtain ⟨i', hi', hfi'⟩ := List.mem_filterMap.1 hp
            intro he
            have he' : p.1 = j := by simpa using he
            obtain ⟨pj, po⟩ := p
            simp only at he'
            subst he'
            exact hn1 (hf i i' pj o po hfi hfi' ▸ hi')
          rw [hno]
          simp [hx]
        · have hb : (j == x) = false := by simpa using hj
          simp only [hb]
          rw [List.getElem?_set_ne hj]
      · simp [hx]
theorem graft_eq (ids : List Nat) (H H1 : List Ob) : graft ids H H1 = ((List.range ids.length).foldl (fun (acc : List Ob) i => match (match ids[i]?, H1[i]? with | some j, some o => some (j, rnO ids H.length o) | _, _ => none) with | some (j, o) => acc.set j o | none => acc) H) ++ (H1.drop ids.length).map (rnO ids H.length) := by
  unfold graft
  congr 1
  congr 1
  funext acc i
  cases ids[i]? <;> cases H1[i]? <;> rfl
theorem graft_spec {ids : List Nat} {H H1 : List Ob} (hnd : ids.Nodup) (_hlt : ∀ j ∈ ids, j < H.length) (hk : ids.length ≤ H1.length) {x : Nat} {o : Ob} (h : (graft ids H H1)[x]? = some o) :
    (x < H.length ∧ x ∉ ids ∧ H[x]? = some o) ∨ (∃ (i : Nat) (o1 : Ob), ids[i]? = some x ∧ H1[i]? = some o1 ∧ o = rnO ids H.length o1) ∨ ∃ (i : Nat) (o1 : Ob), x = H.length + i ∧ H1[ids.length + i]? = some o1 ∧ o = rnO ids H.length o1 := by
  rw [graft_eq] at h
  generalize hf : (fun (i : Nat) => (match ids[i]?, H1[i]? with | some j, some o => some (j, rnO ids H.length o) | _, _ => (none : Option (Nat × Ob)))) = f at h
  have hfold : ((List.range ids.length).foldl (fun (acc : List Ob) i => match (match ids[i]?, H1[i]? with | some j, some o => some (j, rnO ids H.length o) | _, _ => none) with | some (j, o) => acc.set j o | none => acc) H) = ((List.range ids.length).foldl (fun (acc : List Ob) i => match f i with | some (j, o) => acc.set j o | none => acc) H) := by
    rw [← hf]
  rw [hfold] at h
  have hfi : ∀ i j o, f i = some (j, o) → ids[i]? = some j ∧ ∃ o1, H1[i]? = some o1 ∧ o = rnO ids H.length o1 := fun i j o hh => by
    rw [← hf] at hh
    simp only at hh
    split at hh
    · rename_i a b h1 h2
      simp only [Option.some.injEq, Prod.mk.injEq] at hh
      obtain ⟨rfl, rfl⟩ := hh
      exact ⟨h1, b, h2, rfl⟩
    · cases hh
  have hinj : ∀ i i' j o o', f i = some (j, o) → f i' = some (j, o') → i = i' := fun i i' j o o' h1 h2 => by
    obtain ⟨a1, -⟩ := hfi i j o h1
    obtain ⟨a2, -⟩ := hfi i' j o' h2
    exact (List.getElem?_inj (List.getElem?_eq_some_iff.1 a1).1 hnd).1 (a1.trans a2.symm)
  have hlen := foldl_set_len f (List.range ids.length) H
  by_cases hx : x < H.length
  · rw [List.getElem?_append_left (by rw [hlen]; exact hx), foldl_set_get f hinj _ H List.nodup_range x, if_pos hx] at h
    cases hfd : ((List.range ids.length).filterMap f).find? (fun p => p.1 == x) with
    | some p =>
      rw [hfd] at h
      have hp := List.find?_some hfd
      have hm := List.mem_of_find?_eq_some hfd
      obtain ⟨i, hi, hfi'⟩ := List.mem_filterMap.1 hm
      obtain ⟨pj, po⟩ := p
      simp only [Option.some.injEq] at h
      have hpx : pj = x := by simpa using hp
      subst hpx h
      obtain ⟨a1, o1, a2, a3⟩ := hfi i pj po hfi'
      exact .inr (.inl ⟨i, o1, a1, a2, a3⟩)
    | none =>
      rw [hfd] at h
      refine .inl ⟨hx, fun hmem => ?_, h⟩
      obtain ⟨i, hi⟩ := List.getElem?_of_mem hmem
      have hil := (List.getElem?_eq_some_iff.1 hi).1
      obtain ⟨o1, ho1⟩ : ∃ o1, H1[i]? = some o1 := ⟨H1[i]'(by omega), List.getElem?_eq_getElem (by omega)⟩
      have : f i = some (x, rnO ids H.length o1) := by rw [← hf]; simp only [hi, ho1]
      rw [List.find?_eq_none] at hfd
      exact hfd (x, rnO ids H.length o1) (List.mem_filterMap.2 ⟨i, by simpa using hil, this⟩) (by simp)
  · rw [List.getElem?_append_right (by rw [hlen]; omega), hlen, List.getElem?_map, Option.map_eq_some_iff] at h
    obtain ⟨o1, h1, rfl⟩ := h
    rw [List.getElem?_drop] at h1
    exact .inr (.inr ⟨x - H.length, o1, by omega, h1, rfl⟩)
theorem graft_len (ids : List Nat) (H H1 : List Ob) : (graft ids H H1).length = H.length + (H1.length - ids.length) := by
  rw [graft_eq, List.length_append]
  have := foldl_set_len (fun (i : Nat) => (match ids[i]?, H1[i]? with | some j, some o => some (j, rnO ids H.length o) | _, _ => (none : Option (Nat × Ob)))) (List.range ids.length) H
  rw [this, List.length_map, List.length_drop]

/-- A call that writes into some objects, in the midst of others. -/
theorem CallC.of_graph {X : Cx} {H H0 : List Ob} {ids : List Nat} {g : FuncId} {args args0 : List V} {P : V → List Ob → Prop} (hp : CallC X g args0 H0 P) (hk : ids.length = H0.length) (hnd : ids.Nodup)
    (hob : ∀ (i j : Nat) (o0 : Ob), ids[i]? = some j → H0[i]? = some o0 → ∃ o, H[j]? = some o ∧ o.live = true ∧ o0.live = true ∧ o.t = o0.t ∧ GvL H ids o.cs o0.cs) (hv : GvVs H ids args args0)
    (hP : ∀ r H1, P r H1 → gV r = true ∧ (∀ o ∈ H1, o.live = true → ∀ c ∈ o.cs, gC c = true) ∧ ids.length ≤ H1.length) {Q : V → List Ob → Prop} (hQ : ∀ r H1, P r H1 → Q (rnV ids H.length r) (graft ids H H1)) : CallC X g args H Q := by
  intro m arr hS hr
  have hlt : ∀ j ∈ ids, j < H.length := fun j hj => by
    obtain ⟨i, hi⟩ := List.getElem?_of_mem hj
    have hil := (List.getElem?_eq_some_iff.1 hi).1
    obtain ⟨o, h1, -⟩ := hob i j _ hi (List.getElem?_eq_getElem (by omega))
    exact (List.getElem?_eq_some_iff.1 h1).1
  let m1 : Mem := ⟨m.w, fun b => m.F b ∨ ∃ (i : Nat) (o : Ob), H[i]? = some o ∧ o.live = true ∧ (m.μ i).gh = false ∧ i ∉ ids ∧ (m.μ i).block = b, m.B, H0.length, fun i => match ids[i]? with | some j => m.μ j | none => ⟨0, 0, 0, true⟩⟩
  have hμ1 : ∀ {i j : Nat}, ids[i]? = some j → m1.μ i = m.μ j := fun {i j} h => by
    show (match ids[i]? with | some j => m.μ j | none => (⟨0, 0, 0, true⟩ : Pl)) = m.μ j
    rw [h]
  have hget0 : ∀ {i : Nat} {o0 : Ob}, H0[i]? = some o0 → ∃ j, ids[i]? = some j := fun {i o0} h => by
    have := (List.getElem?_eq_some_iff.1 h).1
    exact ⟨ids[i]'(by omega), List.getElem?_eq_getElem (by omega)⟩
  have hgv : ∀ {c c0 : C}, Gv H ids c c0 → ∀ {u : Value}, R m c u → R m1 c0 u := fun {c c0} h {u} hr => by
    cases h with
    | @pt i j off h =>
      obtain ⟨rfl, hid, hg⟩ := (RV.c hr).ptI
      have hil := (List.getElem?_eq_some_iff.1 h).1
      have := R.pt (m := m1) (id := i) (off := off) (show i < H0.length by omega) (by rw [hμ1 h]; exact hg)
      rw [hμ1 h] at this
      exact this
    | @mu i j off n k h =>
      have hil := (List.getElem?_eq_some_iff.1 h).1
      rcases (RV.c hr).muI with ⟨rfl, rfl, rfl, hid, hg⟩ | ⟨cap, rfl, hid, hn, hs, hm, hg⟩
      · exact .mn (show i < H0.length by omega) (by rw [hμ1 h]; exact hg)
      · have := R.mu (m := m1) (id := i) (off := off) (n := n) (k := k) (cap := cap) (show i < H0.length by omega) (by rw [hμ1 h]; exact hg) hn (by rw [hμ1 h]; exact hs) hm
        rw [hμ1 h] at this
        exact this
    | dn h ho => exact .fz (by
        rw [ho]
        exact hr.dn hS (m' := m1) rfl (fun b hb _ => .inl hb) (fun id ob h1 h2 h3 h4 => .inr ⟨id, ob, h1, h2, h3, h4, rfl⟩) (fun h => by cases h) h)
  have hS1 : Sim X.G m1 H0 := by
    refine ⟨rfl, fun b hb => ?_, hS.bs, fun i hi hg => ?_, fun i o0 hi hl hg => ?_, fun i o0 hi hl hg => ?_, fun i i' oi oi' hi hi' l1 l2 q1 q2 hne => ?_, fun z hz => ?_⟩
    · rcases hb with hb | ⟨i, o, a1, a2, a3, a4, rfl⟩
      · exact hS.lo b hb
      · exact hS.blk i (Mem.N_lt hS a1) a3
    · obtain ⟨j, hj⟩ := hget0 (List.getElem?_eq_getElem (show i < H0.length from hi))
      rw [hμ1 hj] at hg ⊢
      exact hS.blk j (by rw [hS.N]; exact hlt j (List.mem_of_getElem? hj)) hg
    · obtain ⟨j, hj⟩ := hget0 hi
      rw [hμ1 hj] at hg ⊢
      obtain ⟨o, a1, a2, a3, a4, a5⟩ := hob i j o0 hj hi
      obtain ⟨arr, k1, k2, k3, k4, k5, k6⟩ := hS.ob j o a1 a2 hg
      obtain ⟨s1, s2⟩ := a5.spec
      refine ⟨arr, by rw [← a4]; exact k1, k2, by omega, fun q c hq => ?_, ?_, k6⟩
      · have hql := (List.getElem?_eq_some_iff.1 hq).1
        obtain ⟨u, hu, hr⟩ := k4 q _ (List.getElem?_eq_getElem (by omega))
        exact ⟨u, hu, hgv (s2 q _ c (List.getElem?_eq_getElem (by omega)) hq) hr⟩
      · rintro (hF | ⟨x, ox, b1, b2, b3, b4, b5⟩)
        · exact k5 hF
        · exact hS.inj x j ox o b1 a1 b2 a2 b3 hg (fun e => b4 (e ▸ List.mem_of_getElem? hj)) b5
    · obtain ⟨j, hj⟩ := hget0 hi
      rw [hμ1 hj] at hg
      obtain ⟨o, a1, a2, a3, a4, a5⟩ := hob i j o0 hj hi
      have := hS.gho j o a1 a2 hg
      have hl0 := a5.spec.1
      rw [this] at hl0
      exact List.eq_nil_of_length_eq_zero (by simpa using hl0)
    · obtain ⟨j, hj⟩ := hget0 hi
      obtain ⟨j', hj'⟩ := hget0 hi'
      rw [hμ1 hj] at q1 ⊢
      rw [hμ1 hj'] at q2 ⊢
      obtain ⟨o, a1, a2, -⟩ := hob i j oi hj hi
      obtain ⟨o', b1, b2, -⟩ := hob i' j' oi' hj' hi'
      refine hS.inj j j' o o' a1 b1 a2 b2 q1 q2 fun e => hne ?_
      subst e
      exact (List.getElem?_inj (List.getElem?_eq_some_iff.1 hj).1 hnd).1 (hj.trans hj'.symm)
    · obtain ⟨a1, a2⟩ := hS.gl z hz
      exact ⟨.inl a1, a2⟩
  have hr1 : RVs m1 args0 arr := by
    obtain ⟨v1, v2⟩ := hv.spec
    refine ⟨by rw [hr.1, v1], fun j v0 hj => ?_⟩
    have hjl := (List.getElem?_eq_some_iff.1 hj).1
    obtain ⟨u, a1, a2⟩ := hr.2 j _ (List.getElem?_eq_getElem (by omega))
    refine ⟨u, a1, ?_⟩
    have hg := v2 j _ v0 (List.getElem?_eq_getElem (by omega)) hj
    revert hg a2
    generalize args[j]'(by omega) = v
    intro a2 hg
    cases hg with
    | c h => exact .c (hgv h a2.cell)
    | agg h =>
      obtain ⟨arr', rfl, h1, h2⟩ := a2.aggI
      obtain ⟨s1, s2⟩ := h.spec
      refine .agg (by omega) fun q c hq => ?_
      have hql := (List.getElem?_eq_some_iff.1 hq).1
      obtain ⟨u, hu, hr⟩ := h2 q _ (List.getElem?_eq_getElem (by omega))
      exact ⟨u, hu, hgv (s2 q _ c (List.getElem?_eq_getElem (by omega)) hq) hr⟩
    | any => exact .any
  refine (hp m1 arr hS1 hr1).mono fun u w' ⟨m2, r, H1, hmw, hPr, hS2, hE2, hru⟩ => ?_
  subst hmw
  obtain ⟨p1, p2, p3⟩ := hP r H1 hPr
  have hN2 : m2.N = H1.length := hS2.N
  have hμ2 : ∀ {i j : Nat}, ids[i]? = some j → m2.μ i = m.μ j := fun {i j} h => by
    have hil := (List.getElem?_eq_some_iff.1 h).1
    rw [hE2.μ i (show i < H0.length by omega), hμ1 h]
  let m' : Mem := ⟨m2.w, m.F, m.B, m.N + (H1.length - ids.length), fun i => if i < m.N then m.μ i else m2.μ (ids.length + (i - m.N))⟩
  have hμo : ∀ {i : Nat}, i < m.N → m'.μ i = m.μ i := fun hi => if_pos hi
  have hμn : ∀ i, m'.μ (m.N + i) = m2.μ (ids.length + i) := fun i => by
    show (if m.N + i < m.N then m.μ (m.N + i) else m2.μ (ids.length + (m.N + i - m.N))) = _
    rw [if_neg (by omega), Nat.add_sub_cancel_left]
  have hE : Ext m m' := ⟨hE2.os, hE2.tape, hE2.output, hE2.size, fun b hb => hE2.keep b (hb.imp .inl fun h => h), fun b hb => hb, rfl, Nat.le_add_right _ _, fun i hi => hμo hi, fun b hb => .inl hb⟩
  have hrn : ∀ i, i < m2.N → m'.μ (rnI ids H.length i) = m2.μ i ∧ rnI ids H.length i < m'.N := fun i hi => by
    unfold rnI
    cases hii : ids[i]? with
    | some j =>
      have hj := hlt j (List.mem_of_getElem? hii)
      simp only
      rw [hμo (by rw [hS.N]; exact hj), hμ2 hii]
      exact ⟨rfl, Nat.lt_of_lt_of_le (by rw [hS.N]; exact hj) (Nat.le_add_right _ _)⟩
    | none =>
      have hge : ids.length ≤ i := List.getElem?_eq_none_iff.1 hii
      simp only
      rw [← hS.N, hμn, show ids.length + (i - ids.length) = i by omega]
      exact ⟨rfl, by show m.N + (i - ids.length) < m.N + (H1.length - ids.length); omega⟩
  have hnb : ∀ {i : Nat} {o1 : Ob}, H1[ids.length + i]? = some o1 → o1.live = true → (m2.μ (ids.length + i)).gh = false → ¬ m2.F (m2.μ (ids.length + i)).block := fun h1 h2 h3 => by
    obtain ⟨-, -, -, -, -, h5, -⟩ := hS2.ob _ _ h1 h2 h3
    exact h5
  have hcase : ∀ {x : Nat} {o : Ob}, (graft ids H H1)[x]? = some o → o.live = true → (x < m.N ∧ x ∉ ids ∧ H[x]? = some o) ∨ (∃ (i : Nat) (o1 : Ob), ids[i]? = some x ∧ x < m.N ∧ H1[i]? = some o1 ∧ o1.live = true ∧ o = rnO ids H.length o1) ∨ ∃ (i : Nat) (o1 : Ob), x = m.N + i ∧ H1[ids.length + i]? = some o1 ∧ o1.live = true ∧ o = rnO ids H.length o1 := fun {x o} h hl => by
    rcases graft_spec hnd hlt p3 h with ⟨a1, a2, a3⟩ | ⟨i, o1, a1, a2, rfl⟩ | ⟨i, o1, a1, a2, rfl⟩
    · exact .inl ⟨by rw [hS.N]; exact a1, a2, a3⟩
    · exact .inr (.inl ⟨i, o1, a1, by rw [hS.N]; exact hlt x (List.mem_of_getElem? a1), a2, hl, rfl⟩)
    · exact .inr (.inr ⟨i, o1, by rw [hS.N]; exact a1, a2, hl, rfl⟩)
  refine ⟨m', _, _, rfl, hQ r H1 hPr, ⟨?_, fun b hb => Nat.lt_of_lt_of_le (hS.lo b hb) hE2.size, Nat.le_trans hS.bs hE2.size, fun x hx hg => ?_, fun x o hx hl hg => ?_, fun x o hx hl hg => ?_, fun x y ox oy hx hy l1 l2 q1 q2 hne => ?_, fun z hz => ?_⟩, hE, ?_⟩
  · show m.N + (H1.length - ids.length) = _
    rw [graft_len, hS.N]
  · by_cases hlt' : x < m.N
    · rw [hμo hlt'] at hg ⊢
      exact Nat.lt_of_lt_of_le (hS.blk x hlt' hg) hE2.size
    · obtain ⟨i, rfl⟩ : ∃ i, x = m.N + i := ⟨x - m.N, by omega⟩
      rw [hμn] at hg ⊢
      refine hS2.blk _ ?_ hg
      have : m.N + i < m.N + (H1.length - ids.length) := hx
      omega
  · rcases hcase hx hl with ⟨a1, a2, a3⟩ | ⟨i, o1, a1, a2, a3, a4, rfl⟩ | ⟨i, o1, rfl, a3, a4, rfl⟩
    · rw [hμo a1] at hg ⊢
      obtain ⟨arr, k1, k2, k3, k4, k5, k6⟩ := hS.ob x o a3 hl hg
      refine ⟨arr, k1.eq (hE2.keep _ (.inl (.inr ⟨x, o, a3, hl, hg, a2, rfl⟩))), k2, k3, fun j c hj => ?_, k5, k6⟩
      obtain ⟨u, hu, hr⟩ := k4 j c hj
      exact ⟨u, hu, hr.ext hE⟩
    · rw [hμo a2] at hg ⊢
      have hg2 : (m2.μ i).gh = false := by rw [hμ2 a1]; exact hg
      obtain ⟨arr, k1, k2, k3, k4, k5, k6⟩ := hS2.ob i o1 a3 a4 hg2
      rw [hμ2 a1] at k1 k2 k3 k4 k5 k6
      refine ⟨arr, k1, k2, by simpa [rnO] using k3, fun j c hj => ?_, fun hF => k5 (hE2.F _ (.inl hF)), by rw [hE2.B] at k6; exact k6⟩
      simp only [rnO, List.getElem?_map, Option.map_eq_some_iff] at hj
      obtain ⟨c', hj, rfl⟩ := hj
      obtain ⟨u, hu, hr⟩ := k4 j c' hj
      exact ⟨u, hu, hr.rn (m' := m') hrn (p2 o1 (List.mem_of_getElem? a3) a4 c' (List.mem_of_getElem? hj))⟩
    · rw [hμn] at hg ⊢
      obtain ⟨arr, k1, k2, k3, k4, k5, k6⟩ := hS2.ob _ o1 a3 a4 hg
      refine ⟨arr, k1, k2, by simpa [rnO] using k3, fun j c hj => ?_, fun hF => k5 (hE2.F _ (.inl hF)), by rw [hE2.B] at k6; exact k6⟩
      simp only [rnO, List.getElem?_map, Option.map_eq_some_iff] at hj
      obtain ⟨c', hj, rfl⟩ := hj
      obtain ⟨u, hu, hr⟩ := k4 j c' hj
      exact ⟨u, hu, hr.rn (m' := m') hrn (p2 o1 (List.mem_of_getElem? a3) a4 c' (List.mem_of_getElem? hj))⟩
  · rcases hcase hx hl with ⟨a1, a2, a3⟩ | ⟨i, o1, a1, a2, a3, a4, rfl⟩ | ⟨i, o1, rfl, a3, a4, rfl⟩
    · rw [hμo a1] at hg
      exact hS.gho x o a3 hl hg
    · rw [hμo a2] at hg
      have := hS2.gho i o1 a3 a4 (by rw [hμ2 a1]; exact hg)
      simp [rnO, this]
    · rw [hμn] at hg
      have := hS2.gho _ o1 a3 a4 hg
      simp [rnO, this]
  · have old : ∀ {x : Nat} {o : Ob}, (graft ids H H1)[x]? = some o → o.live = true → x < m.N → (m.μ x).gh = false → ∃ o', H[x]? = some o' ∧ o'.live = true := fun {x o} h hl hlt' hg => by
      rcases hcase h hl with ⟨a1, a2, a3⟩ | ⟨i, o1, a1, a2, a3, a4, rfl⟩ | ⟨i, o1, rfl, a3, a4, rfl⟩
      · exact ⟨o, a3, hl⟩
      · obtain ⟨oo, b1, b2, -⟩ := hob i x _ a1 (List.getElem?_eq_getElem (by have := (List.getElem?_eq_some_iff.1 a1).1; omega))
        exact ⟨oo, b1, b2⟩
      · omega
    have new : ∀ {x i : Nat} {ox o1 : Ob}, (graft ids H H1)[x]? = some ox → ox.live = true → x < m.N → (m.μ x).gh = false → H1[ids.length + i]? = some o1 → o1.live = true → (m2.μ (ids.length + i)).gh = false → (m.μ x).block ≠ (m2.μ (ids.length + i)).block := fun {x i ox o1} h hl hlt' hg h1 h2 h3 he => by
      rcases hcase h hl with ⟨a1, a2, a3⟩ | ⟨i', o1', a1, a2, a3, a4, rfl⟩ | ⟨i', o1', rfl, a3, a4, rfl⟩
      · exact hnb h1 h2 h3 (he ▸ hE2.F _ (.inr ⟨x, ox, a3, hl, hg, a2, rfl⟩))
      · have hil := (List.getElem?_eq_some_iff.1 a1).1
        exact hS2.inj i' (ids.length + i) o1' o1 a3 h1 a4 h2 (by rw [hμ2 a1]; exact hg) h3 (by omega) (by rw [hμ2 a1]; exact he)
      · omega
    by_cases hxl : x < m.N
    · rw [hμo hxl] at q1 ⊢
      by_cases hyl : y < m.N
      · rw [hμo hyl] at q2 ⊢
        obtain ⟨o', b1, b2⟩ := old hx l1 hxl q1
        obtain ⟨o'', c1, c2⟩ := old hy l2 hyl q2
        exact hS.inj x y o' o'' b1 c1 b2 c2 q1 q2 hne
      · rcases hcase hy l2 with ⟨a1, -⟩ | ⟨i, o1, a1, a2, -⟩ | ⟨i, o1, rfl, a3, a4, rfl⟩
        · omega
        · omega
        · rw [hμn] at q2 ⊢
          exact new hx l1 hxl q1 a3 a4 q2
    · rcases hcase hx l1 with ⟨a1, -⟩ | ⟨i, o1, a1, a2, -⟩ | ⟨i, o1, rfl, a3, a4, rfl⟩
      · omega
      · omega
      · rw [hμn] at q1 ⊢
        by_cases hyl : y < m.N
        · rw [hμo hyl] at q2 ⊢
          exact (new hy l2 hyl q2 a3 a4 q1).symm
        · rcases hcase hy l2 with ⟨a1, -⟩ | ⟨i', o1', a1, a2, -⟩ | ⟨i', o1', rfl, b3, b4, rfl⟩
          · omega
          · omega
          · rw [hμn] at q2 ⊢
            exact hS2.inj _ _ o1 o1' a3 b3 a4 b4 q1 q2 (by omega)
  · obtain ⟨a1, a2⟩ := hS.gl z hz
    exact ⟨a1, fun j y hj => ⟨(hE.cell (a := ⟨z.1, j, none⟩) a1).trans (a2.1 j y hj).1, (a2.1 j y hj).2⟩, a2.2.keep (hE.keep z.1 (.inl a1))⟩
  · exact hru.rn (m' := m') hrn p1
/-- The objects, one by one; the dead ones are free. -/
def TurnP (H : List Ob) (g : List (Option Nat)) : List (Option Nat) → List Ob → Prop
  | [], [] => True
  | none :: gs, o :: os => (o.live = true → o.cs = []) ∧ TurnP H g gs os
  | some id :: gs, o' :: os => (o'.live = true → ∃ cs, H[id]? = some ⟨cs, o'.t, true⟩ ∧ TrC H g cs o'.cs) ∧ TurnP H g gs os
  | _, _ => False
theorem TurnP.spec {H : List Ob} {g : List (Option Nat)} : ∀ {gs : List (Option Nat)} {os : List Ob}, TurnP H g gs os → gs.length = os.length ∧
    (∀ (i id : Nat) (o' : Ob), os[i]? = some o' → o'.live = true → gs[i]? = some (some id) → ∃ cs, H[id]? = some ⟨cs, o'.t, true⟩ ∧ TrC H g cs o'.cs) ∧ (∀ (i : Nat) (o' : Ob), os[i]? = some o' → o'.live = true → gs[i]? = some none → o'.cs = [])
  | [], [], _ => ⟨rfl, fun i id o h => by simp at h, fun i o h => by simp at h⟩
  | none :: gs, o :: os, h => by
    obtain ⟨h1, h2, h3⟩ := h.2.spec
    refine ⟨by simp [h1], fun i id o' ho hl hg => ?_, fun i o' ho hl hg => ?_⟩
    · cases i with
      | zero => simp at hg
      | succ i => exact h2 i id o' (by simpa using ho) hl (by simpa using hg)
    · cases i with
      | zero => simp at ho; subst ho; exact h.1 hl
      | succ i => exact h3 i o' (by simpa using ho) hl (by simpa using hg)
  | some id0 :: gs, o :: os, h => by
    obtain ⟨h1, h2, h3⟩ := h.2.spec
    refine ⟨by simp [h1], fun i id o' ho hl hg => ?_, fun i o' ho hl hg => ?_⟩
    · cases i with
      | zero => simp at ho hg; subst ho hg; exact h.1 hl
      | succ i => exact h2 i id o' (by simpa using ho) hl (by simpa using hg)
    · cases i with
      | zero => simp at hg
      | succ i => exact h3 i o' (by simpa using ho) hl (by simpa using hg)
def GAns (N : Nat) (P : V → List Ob → Prop) (r0 : V) (H : List Ob) : Prop := ∃ gg H1 r1, Turns N H gg H1 ∧ TrV H gg r0 r1 ∧ P r1 H1
theorem g_ans {N : Nat} {P : V → List Ob → Prop} {r0 r : V} {H H1 : List Ob} (g : List (Option Nat)) (hn : nodupO g = true) (hf : fixO g N = true) (hlt : (g.all fun x => match x with | some i => Nat.blt i H.length | none => true) = true) (ho : TurnP H g g H1) (hr : TrV H g r0 r) (hP : P r H1) : GAns N P r0 H := by
  obtain ⟨h1, h2, h3⟩ := ho.spec
  refine ⟨g, H1, r, ⟨h1, fixO_spec hf, fun i id o' hi hl hg => ?_, fun i o' hi hl hg => h3 i o' hi hl hg, nodupO_spec hn, fun i id hi => ?_⟩, hr, hP⟩
  · obtain ⟨cs, k1, k2⟩ := h2 i id o' hi hl hg
    obtain ⟨k3, k4⟩ := k2.spec
    exact ⟨_, k1, rfl, rfl, Nat.le_of_eq k3, k4⟩
  · have := List.all_eq_true.1 hlt _ (List.mem_of_getElem? hi)
    exact Nat.le_of_ble_eq_true this
theorem GraphC.of_body {X : Cx} {D : DR} (hD : DrawOk X D) {g : FuncId} {fn : Func} {c : Code} (hen : Enters X g) (hf : X.P.funcs[g]? = some fn) (hb : fn.body = some c) {args : List V} {H0 : List Ob} {P : V → List Ob → Prop} {n N : Nat} (hn : args.length + (fn.ntmps - args.length) = n) (hN : H0.length = N)
    (h : vwp X n N D c (retQ X fn.results.toList (GAns N P)) (slots args) H0) : CallC X g args H0 P :=
  CallC.turned hN (CallC.of_body hD hen hf hb hn (by rw [hN]; exact h))
theorem DetC.of_body {X : Cx} {D : DR} (hD : DrawOk X D) {g : FuncId} {fn : Func} {c : Code} (hen : Enters X g) (hf : X.P.funcs[g]? = some fn) (hb : fn.body = some c) {args : List V} {H H' : List Ob} {v : V} {n : Nat} (hn : args.length + (fn.ntmps - args.length) = n)
    (h : vwp X n H.length D c (retQ X fn.results.toList fun v' H'' => v' = v ∧ H'' = H') (slots args) H) : DetC X g args H v H' := CallC.of_body hD hen hf hb hn h
/-- The caller's objects, one by one, as the called function sees them. -/
def Gob (H : List Ob) (ids : List Nat) : List Nat → List Ob → Prop
  | [], [] => True
  | j :: js, o :: os => (∃ cs, H[j]? = some ⟨cs, o.t, true⟩ ∧ o.live = true ∧ GvL H ids cs o.cs) ∧ Gob H ids js os
  | _, _ => False
theorem Gob.spec {H : List Ob} {ids : List Nat} : ∀ {js : List Nat} {os : List Ob}, Gob H ids js os → js.length = os.length ∧ ∀ (i j : Nat) (o0 : Ob), js[i]? = some j → os[i]? = some o0 → ∃ o, H[j]? = some o ∧ o.live = true ∧ o0.live = true ∧ o.t = o0.t ∧ GvL H ids o.cs o0.cs
  | [], [], _ => ⟨rfl, fun i j o h => by simp at h⟩
  | j :: js, o :: os, h => by
    obtain ⟨h1, h2⟩ := h.2.spec
    refine ⟨by simp [h1], fun i j' o0 hi ho => ?_⟩
    cases i with
    | zero =>
      simp at hi ho
      subst hi ho
      obtain ⟨cs, k1, k2, k3⟩ := h.1
      exact ⟨_, k1, rfl, k2, rfl, k3⟩
    | succ i => exact h2 i j' o0 (by simpa using hi) (by simpa using ho)
def graftR (ids : List Nat) (H os : List Ob) : List Ob :=
  ((List.range ids.length).foldl (fun (acc : List Ob) i => match ids[i]?, os[i]? with
    | some j, some o => acc.set j o
    | _, _ => acc) H) ++ os.drop ids.length
theorem graft_R (ids : List Nat) (H H1 : List Ob) : graft ids H H1 = graftR ids H (H1.map (rnO ids H.length)) := by
  unfold graft graftR
  rw [List.map_drop]
  congr 1
  congr 1
  funext acc i
  rw [List.getElem?_map]
  cases ids[i]? <;> cases H1[i]? <;> rfl
/-- The objects that a call leaves, by the caller's numbers. -/
def RnO (ids : List Nat) (N : Nat) : List Ob → List Ob → Prop
  | [], [] => True
  | o :: os, o' :: os' => rnO ids N o = o' ∧ RnO ids N os os'
  | _, _ => False
theorem RnO.eq {ids : List Nat} {N : Nat} : ∀ {os os' : List Ob}, RnO ids N os os' → os.map (rnO ids N) = os'
  | [], [], _ => rfl
  | o :: os, o' :: os', h => by rw [List.map_cons, h.1, RnO.eq h.2]
theorem rn_sc {ids : List Nat} {N : Nat} {cs : List C} {t : TypeId} {l : Bool} (h : ∀ c ∈ cs, sc c = true) : rnO ids N ⟨cs, t, l⟩ = ⟨cs, t, l⟩ := by
  have : cs.map (rnC ids N) = cs := by
    refine (List.map_congr_left fun c hc => ?_).trans (List.map_id' _)
    have := h c hc
    cases c <;> first | rfl | cases this
  simp only [rnO, this]
theorem rn_flat {α : Type} {enc : α → List C} {ids : List Nat} {N : Nat} {xs : List α} {t : TypeId} {l : Bool} (h : ∀ a, (enc a).all sc = true) : rnO ids N ⟨flat enc xs, t, l⟩ = ⟨flat enc xs, t, l⟩ := rn_sc (sc_flat h xs)
theorem gC_sc {c : C} (h : sc c = true) : gC c = true := by cases c <;> first | rfl | cases h
section
variable {X : Cx} {all r : List Oper} {K : Sl → List Ob → Prop} {sl : Sl} {H : List Ob} {d : Tmp} {ty : TypeId} {ps : String} {af : Array Edge}
/-- A call that writes into some of the objects, and leaves them in one of two forms. -/
theorem v_graph2 {ι : Type} {f : Operand} {args : Array Operand} {tys : Array TypeId} {g : FuncId} {av args0 : List V} {H0 : List Ob} {q1 q2 : ι → Prop} {R1 R2 : ι → V} {L1 L2 : ι → List Ob} (ids : List Nat) (R1' R2' : ι → V) (M1 M2 L1' L2' : ι → List Ob)
    (hp : CallC X g args0 H0 fun r H1 => (∃ x, q1 x ∧ r = R1 x ∧ H1 = L1 x) ∨ ∃ x, q2 x ∧ r = R2 x ∧ H1 = L2 x) (hnd : ids.Nodup) (hob : Gob H ids ids H0) (hf : rho X.G sl f = .c (.fn g [])) (has : args.toList.map (rho X.G sl) = av) (hv : GvVs H ids av args0)
    (hr1 : ∀ x, rnV ids H.length (R1 x) = R1' x) (hr2 : ∀ x, rnV ids H.length (R2 x) = R2' x) (hm1 : ∀ x, RnO ids H.length (L1 x) (M1 x)) (hm2 : ∀ x, RnO ids H.length (L2 x) (M2 x)) (hl1 : ∀ x, graftR ids H (M1 x) = L1' x) (hl2 : ∀ x, graftR ids H (M2 x) = L2' x)
    (hg1 : ∀ x, gV (R1 x) = true ∧ (∀ o ∈ L1 x, o.live = true → ∀ c ∈ o.cs, gC c = true) ∧ ids.length ≤ (L1 x).length) (hg2 : ∀ x, gV (R2 x) = true ∧ (∀ o ∈ L2 x, o.live = true → ∀ c ∈ o.cs, gC c = true) ∧ ids.length ≤ (L2 x).length)
    (h1 : ∀ x, q1 x → vops X all r K (upd sl d (R1' x)) (L1' x)) (h2 : ∀ x, q2 x → vops X all r K (upd sl d (R2' x)) (L2' x)) : vops X all (⟨some d, .call ⟨.value f, args, tys⟩, ty, ps, af, none⟩ :: r) K sl H := by
  subst has
  simp only [vops, vguard, vop, callOf, hf, target, putV, List.map_nil, List.append_nil]
  refine CallC.of_graph hp hob.spec.1 hnd hob.spec.2 hv (fun r H1 h => ?_) (fun r H1 h => ?_)
  · rcases h with ⟨x, -, rfl, rfl⟩ | ⟨x, -, rfl, rfl⟩
    · exact hg1 x
    · exact hg2 x
  · rcases h with ⟨x, hq, rfl, rfl⟩ | ⟨x, hq, rfl, rfl⟩
    · rw [hr1, graft_R, (hm1 x).eq, hl1]; exact h1 x hq
    · rw [hr2, graft_R, (hm2 x).eq, hl2]; exact h2 x hq
end
end Go.VL
namespace Go.VL
open Go.RowKit
/-- A field whose cells are held against each other by what they are. -/
def KeyF (P : Program) (cs1 cs2 : List C) (q : TypeId × Nat) : Prop := P.plainKey q.1 = true ∧ ∃ u v, cs1[q.2]? = some (.v u) ∧ cs2[q.2]? = some (.v v) ∧ ∀ w, ∃ r : Bool, (Op.equalIn 9999 q.1 u v).run P w = .ok r w ∧ (r = true ↔ u = v)
theorem keyInt {P : Program} {cs1 cs2 : List C} {q : TypeId × Nat} {k k' : IntKind} {a b : Int} (h : P.underlying q.1 = some (.int k')) (h1 : cs1[q.2]? = some (.v (.int k a))) (h2 : cs2[q.2]? = some (.v (.int k b))) : KeyF P cs1 cs2 q :=
  ⟨by unfold Program.plainKey; rw [h], _, _, h1, h2, fun w => ⟨_, run_equalIn_int w 9998 q.1 k k' a b h, by simp⟩⟩
theorem keyBool {P : Program} {cs1 cs2 : List C} {q : TypeId × Nat} {a b : Bool} (h : P.underlying q.1 = some .bool) (h1 : cs1[q.2]? = some (.v (.bool a))) (h2 : cs2[q.2]? = some (.v (.bool b))) : KeyF P cs1 cs2 q :=
  ⟨by unfold Program.plainKey; rw [h], _, _, h1, h2, fun w => ⟨_, run_equalIn_bool' w 9998 q.1 a b h, by simp⟩⟩
theorem struct_eqK {X : Cx} {t : TypeId} {m : Mem} {cs1 cs2 : List C} {u v : Value} {p : Prop} (L : List (TypeId × Nat)) (hu : X.P.underlying t = some (.struct (X.P.fieldsOf t))) (hs : X.P.stoodInHeld t = false)
    (hm : (X.P.fieldsOf t).toList.map (fun f => (f.name != "_", f.type, f.offset)) = L.map (fun q => (true, q.1, q.2)))
    (hL : ∀ q ∈ L, KeyF X.P cs1 cs2 q) (hp : p ↔ ∀ q ∈ L, cs1[q.2]? = cs2[q.2]?)
    (h1 : RV m (.agg cs1) u) (h2 : RV m (.agg cs2) v) : ∃ xs ys, u = .agg xs ∧ v = .agg ys ∧ ∀ w, ∃ r : Bool, (Op.equalIn 10000 t (.agg xs) (.agg ys)).run X.P w = .ok r w ∧ (r = true ↔ p) := by
  obtain ⟨xs, rfl, -, hx⟩ := h1.aggI
  obtain ⟨ys, rfl, -, hy⟩ := h2.aggI
  refine ⟨xs, ys, rfl, rfl, fun w => ?_⟩
  have fld : ∀ f ∈ (X.P.fieldsOf t).toList, f.name ≠ "_" ∧ (f.type, f.offset) ∈ L := fun f hf => by
    have h3 : (f.name != "_", f.type, f.offset) ∈ L.map (fun q => (true, q.1, q.2)) := by rw [← hm]; exact List.mem_map_of_mem hf
    obtain ⟨q, hq, he⟩ := List.mem_map.1 h3
    simp only [Prod.mk.injEq] at he
    obtain ⟨e1, e2, e3⟩ := he
    exact ⟨by simpa using e1.symm, by rw [← e2, ← e3]; exact hq⟩
  have back : ∀ q ∈ L, ∃ f ∈ (X.P.fieldsOf t).toList, f.offset = q.2 := fun q hq => by
    have h3 : (true, q.1, q.2) ∈ (X.P.fieldsOf t).toList.map (fun f => (f.name != "_", f.type, f.offset)) := by rw [hm]; exact List.mem_map_of_mem hq
    obtain ⟨f, hf, he⟩ := List.mem_map.1 h3
    simp only [Prod.mk.injEq] at he
    exact ⟨f, hf, he.2.2⟩
  have cell : ∀ {cs : List C} {zs : Array Value} {j : Nat} {z : Value}, (∀ (j : Nat) (c : C), cs[j]? = some c → ∃ u, zs[j]? = some u ∧ R m c u) → cs[j]? = some (.v z) → zs[j]? = some z := fun hc hj => by
    obtain ⟨u, h3, h4⟩ := hc _ _ hj
    have := h4.val
    rw [h3, this]
  rw [run_equalIn_agg w 9999 t xs ys hu hs]
  obtain ⟨r, hr, hiff⟩ := run_eqFields_plain (P := X.P) 9999 xs ys (X.P.fieldsOf t).toList (fun f hf => by
    obtain ⟨n1, n2⟩ := fld f hf
    obtain ⟨k1, a, b, k2, k3, k4⟩ := hL _ n2
    exact ⟨n1, k1, a, b, cell hx k2, cell hy k3, k4⟩) w
  refine ⟨r, hr, hiff.trans (Iff.trans ⟨fun h q hq => ?_, fun h f hf => ?_⟩ hp.symm)⟩
  · obtain ⟨f, hf, he⟩ := back q hq
    obtain ⟨k1, a, b, k2, k3, -⟩ := hL _ hq
    have h3 := h f hf
    rw [he, cell hx k2, cell hy k3] at h3
    rw [k2, k3, Option.some.inj h3]
  · obtain ⟨n1, n2⟩ := fld f hf
    obtain ⟨k1, a, b, k2, k3, -⟩ := hL _ n2
    have h3 := h _ n2
    simp only [k2, k3] at h3
    rw [cell hx k2, cell hy k3, (C.v.inj (Option.some.inj h3))]
theorem rq_neqK {X : Cx} {t ty2 : TypeId} {x y : Operand} {ρ : Operand → V} {cs1 cs2 : List C} {p : Prop} [Decidable p] (L : List (TypeId × Nat)) (hu : X.P.underlying t = some (.struct (X.P.fieldsOf t))) (hs : X.P.stoodInHeld t = false) (hg : X.P.eqGuardType X.P.depth t = false)
    (hm : (X.P.fieldsOf t).toList.map (fun f => (f.name != "_", f.type, f.offset)) = L.map (fun q => (true, q.1, q.2)))
    (hL : ∀ q ∈ L, KeyF X.P cs1 cs2 q) (hp : p ↔ ∀ q ∈ L, cs1[q.2]? = cs2[q.2]?)
    (hx : ρ x = .agg cs1) (hy : ρ y = .agg cs2) : RawQ X (.binOp .neq t x y ty2) ρ (.c (.v (.bool (decide (¬ p))))) := by
  intro m H ε o ho hS hr
  have r1 := hr x (by simp [Op.operands])
  have r2 := hr y (by simp [Op.operands])
  rw [hx] at r1
  rw [hy] at r2
  obtain ⟨xs, ys, e1, e2, h⟩ := struct_eqK L hu hs hm hL hp r1 r2
  obtain ⟨r, h3, h4⟩ := h m.w
  refine Good.here hS (u := .bool (decide (¬ p))) ?_ (.c (.v rfl))
  have h5 : decide (¬ p) = !r := by
    cases r
    · simp [← h4]
    · simp [← h4]
  simp [execOp, ho, e1, e2, run_eqGuard_agg m.w _ _ _ _ _ _ hg, run_neq_struct, h3, h5]
theorem rq_eqlK {X : Cx} {t ty2 : TypeId} {x y : Operand} {ρ : Operand → V} {cs1 cs2 : List C} {p : Prop} [Decidable p] (L : List (TypeId × Nat)) (hu : X.P.underlying t = some (.struct (X.P.fieldsOf t))) (hs : X.P.stoodInHeld t = false) (hg : X.P.eqGuardType X.P.depth t = false)
    (hm : (X.P.fieldsOf t).toList.map (fun f => (f.name != "_", f.type, f.offset)) = L.map (fun q => (true, q.1, q.2)))
    (hL : ∀ q ∈ L, KeyF X.P cs1 cs2 q) (hp : p ↔ ∀ q ∈ L, cs1[q.2]? = cs2[q.2]?)
    (hx : ρ x = .agg cs1) (hy : ρ y = .agg cs2) : RawQ X (.binOp .eql t x y ty2) ρ (.c (.v (.bool (decide p)))) := by
  intro m H ε o ho hS hr
  have r1 := hr x (by simp [Op.operands])
  have r2 := hr y (by simp [Op.operands])
  rw [hx] at r1
  rw [hy] at r2
  obtain ⟨xs, ys, e1, e2, h⟩ := struct_eqK L hu hs hm hL hp r1 r2
  obtain ⟨r, h3, h4⟩ := h m.w
  refine Good.here hS (u := .bool (decide p)) ?_ (.c (.v rfl))
  have h5 : decide p = r := by
    cases r
    · simp [← h4]
    · simp [← h4]
  simp [execOp, ho, e1, e2, run_eqGuard_agg m.w _ _ _ _ _ _ hg, run_eql_struct, h3, h5]
end Go.VL
namespace Go.VL
open Go.RowKit
section
variable {X : Cx} {all r : List Oper} {K : Sl → List Ob → Prop} {sl : Sl} {H : List Ob} {d : Tmp} {ty : TypeId} {ps : String} {af : Array Edge}
theorem v_idx_arr_e {t e : TypeId} {x i : Operand} {a b : Nat} {z : List Value} {id off m k : Nat} {kk : IntKind} (j : Nat) {y : Int} {L : Lay} (hL : X.lay t = some ⟨.array m e, a, b, z⟩) (hLe : X.lay e = some L) (hk : L.size = k)
    (hx : rho X.G sl x = .c (.pt id off)) (hi : rho X.G sl i = .c (.v (.int kk y))) (ey : y = (j : Int)) (hj : j < m) (h : vops X all r K (upd sl d (.c (.pt id (off + j * k)))) H) :
    vops X all (⟨some d, .indexAddr t x i, ty, ps, af, none⟩ :: r) K sl H := by
  subst ey
  refine v_q _ rfl ?_ h
  simp only [evq, hL, hx, hi, hLe]
  rw [if_pos ⟨by omega, by omega⟩, Int.toNat_natCast, hk]
theorem v_idx_av_e {t e : TypeId} {x i : Operand} {a b : Nat} {z : List Value} {o : Bool} {cs : List C} {off m k : Nat} {kk : IntKind} (j : Nat) {y : Int} {L : Lay} (hL : X.lay t = some ⟨.array m e, a, b, z⟩) (hLe : X.lay e = some L) (hk : L.size = k)
    (hx : rho X.G sl x = .c (.vw o cs off)) (hi : rho X.G sl i = .c (.v (.int kk y))) (ey : y = (j : Int)) (hj : j < m) (h : vops X all r K (upd sl d (.c (.vw o cs (off + j * k)))) H) :
    vops X all (⟨some d, .indexAddr t x i, ty, ps, af, none⟩ :: r) K sl H := by
  subst ey
  refine v_q _ rfl ?_ h
  simp only [evq, hL, hx, hi, hLe]
  rw [if_pos ⟨by omega, by omega⟩, Int.toNat_natCast, hk]
/-- A cell, loaded from where the number says. -/
theorem v_load_vw_e {t : TypeId} {x : Operand} {L : Lay} {o : Bool} {cs : List C} {off : Nat} (v : V) (hL : X.lay t = some L) (hx : rho X.G sl x = .c (.vw o cs off)) (hl : off + L.size ≤ cs.length) (hv : mkV L.kind.agg (reowns o (sub cs off L.size)) = some v)
    (h : vops X all r K (upd sl d v) H) : vops X all (⟨some d, .load t x, ty, ps, af, none⟩ :: r) K sl H :=
  v_load_vw v hL hx (Nat.ble_eq_true_of_le hl) hv h
theorem v_load_flat_e {α : Type} {enc : α → List C} {t : TypeId} {x : Operand} {L : Lay} {id off k : Nat} {ys : List α} {tt : TypeId} (q f : Nat) (v : V) (he : ∀ a, (enc a).length = k) (hL : X.lay t = some L) (hx : rho X.G sl x = .c (.pt id off)) (ho : H[id]? = some ⟨flat enc ys, tt, true⟩)
    (hoff : off = q * k + f) (hq : q < ys.length) (hf : f + L.size ≤ k) (hv : mkV L.kind.agg (sub (enc ys[q]) f L.size) = some v) (h : vops X all r K (upd sl d v) H) : vops X all (⟨some d, .load t x, ty, ps, af, none⟩ :: r) K sl H :=
  v_load_flat q f v he hL hx ho hoff hq (Nat.ble_eq_true_of_le hf) hv h
theorem v_load_flatb {α : Type} {enc : α → List C} {t : TypeId} {x : Operand} {L : Lay} {id off k : Nat} {ys : List α} {tt : TypeId} {w : Bool} (q f : Nat) (he : ∀ a, (enc a).length = k) (hL : X.lay t = some L) (hx : rho X.G sl x = .c (.pt id off)) (ho : H[id]? = some ⟨flat enc ys, tt, true⟩)
    (hoff : off = q * k + f) (hq : q < ys.length) (hf : f + L.size ≤ k) (hv : mkV L.kind.agg (sub (enc ys[q]) f L.size) = some (.c (.v (.bool w))))
    (h1 : w = true → vops X all r K (upd sl d (.c (.v (.bool true)))) H) (h2 : w = false → vops X all r K (upd sl d (.c (.v (.bool false)))) H) : vops X all (⟨some d, .load t x, ty, ps, af, none⟩ :: r) K sl H := by
  cases w with
  | true => exact v_load_flat_e q f _ he hL hx ho hoff hq hf hv (h1 rfl)
  | false => exact v_load_flat_e q f _ he hL hx ho hoff hq hf hv (h2 rfl)
theorem v_store_flat_e {α : Type} {enc : α → List C} {t : TypeId} {a x : Operand} {L : Lay} {id off k : Nat} {cs : List C} {ys : List α} {tt : TypeId} {H' : List Ob} (q f : Nat) (y : α) (he : ∀ a, (enc a).length = k) (hL : X.lay t = some L) (ha : rho X.G sl a = .c (.pt id off)) (hx : (rho X.G sl x).cells = some cs) (ho : H[id]? = some ⟨flat enc ys, tt, true⟩)
    (hoff : off = q * k + f) (hq : q < ys.length) (hl : Nat.beq cs.length L.size = true) (hf : f + L.size ≤ k) (hy : enc y = setCells (enc ys[q]) f cs) (hH : H.set id ⟨flat enc (ys.set q y), tt, true⟩ = H') (h : vops X all r K sl H') :
    vops X all (⟨none, .store t a x, ty, ps, af, none⟩ :: r) K sl H :=
  v_store_flat q f y he hL ha hx ho hoff hq hl (Nat.ble_eq_true_of_le hf) hy hH h
/-- An element of an array that is a value. -/
theorem v_index_e {t e : TypeId} {x i : Operand} {n a b : Nat} {z : List Value} {cs : List C} {kk : IntKind} (j : Nat) {y : Int} {L : Lay} (v : V) (hL : X.lay t = some ⟨.array n e, a, b, z⟩) (hLe : X.lay e = some L) (hx : rho X.G sl x = .agg cs) (hi : rho X.G sl i = .c (.v (.int kk y))) (ey : y = (j : Int))
    (hj : j < n) (hc : j * L.size + L.size ≤ cs.length) (hv : mkV L.kind.agg (sub cs (j * L.size) L.size) = some v) (h : vops X all r K (upd sl d v) H) :
    vops X all (⟨some d, .index t x i, ty, ps, af, none⟩ :: r) K sl H := by
  subst ey
  exact v_index v hL hLe hx hi ⟨by omega, by omega, by rw [Int.toNat_natCast]; exact hc⟩ (by rw [Int.toNat_natCast]; exact hv) h
end
/-! Rows of eight truths -/
abbrev Ph := Fin 8 → Bool
def bo (b : Bool) : List C := [.v (.bool b)]
theorem bo_len (b : Bool) : (bo b).length = 1 := rfl
theorem bo_sc (b : Bool) : (bo b).all sc = true := rfl
def pl (g : Ph) : List Bool := [g 0, g 1, g 2, g 3, g 4, g 5, g 6, g 7]
theorem pl_len (g : Ph) : (pl g).length = 8 := rfl
abbrev phc (g : Ph) : List C := [.v (.bool (g 0)), .v (.bool (g 1)), .v (.bool (g 2)), .v (.bool (g 3)), .v (.bool (g 4)), .v (.bool (g 5)), .v (.bool (g 6)), .v (.bool (g 7))]
theorem pl_flat (g : Ph) : phc g = flat bo (pl g) := rfl
theorem pl_get (g : Ph) {i : Nat} (h : i < 8) : (pl g)[i]'(by rw [pl_len]; exact h) = g ⟨i, h⟩ := by
  match i, h with
  | 0, _ => rfl
  | 1, _ => rfl
  | 2, _ => rfl
  | 3, _ => rfl
  | 4, _ => rfl
  | 5, _ => rfl
  | 6, _ => rfl
  | 7, _ => rfl
def putG (g : Ph) (i : Nat) (b : Bool) : Ph := fun j => if j.val = i then b else g j
theorem pl_set (g : Ph) {i : Nat} (h : i < 8) (b : Bool) : (pl g).set i b = pl (putG g i b) := by
  match i, h with
  | 0, _ => rfl
  | 1, _ => rfl
  | 2, _ => rfl
  | 3, _ => rfl
  | 4, _ => rfl
  | 5, _ => rfl
  | 6, _ => rfl
  | 7, _ => rfl
theorem phc_sub (g : Ph) (r : List C) {i : Nat} (h : i < 8) : sub (phc g ++ r) i 1 = [.v (.bool (g ⟨i, h⟩))] := by
  match i, h with
  | 0, _ => rfl
  | 1, _ => rfl
  | 2, _ => rfl
  | 3, _ => rfl
  | 4, _ => rfl
  | 5, _ => rfl
  | 6, _ => rfl
  | 7, _ => rfl
theorem phc_set (g : Ph) (r : List C) {i : Nat} (h : i < 8) (b : Bool) : setCells (phc g ++ r) i [.v (.bool b)] = phc (putG g i b) ++ r := by
  match i, h with
  | 0, _ => rfl
  | 1, _ => rfl
  | 2, _ => rfl
  | 3, _ => rfl
  | 4, _ => rfl
  | 5, _ => rfl
  | 6, _ => rfl
  | 7, _ => rfl
/-- The first ones of one row, the rest of another. -/
def mixG (i : Nat) (g h : Ph) : Ph := fun j => if j.val < i then g j else h j
theorem mix_0 (g h : Ph) : mixG 0 g h = h := by funext j; simp [mixG]
theorem mix_8 (g h : Ph) : mixG 8 g h = g := by funext j; simp [mixG, j.isLt]
theorem mix_put (g h : Ph) {i : Nat} (hi : i < 8) : putG (mixG i g h) i (g ⟨i, hi⟩) = mixG (i + 1) g h := by
  funext j
  unfold putG mixG
  by_cases h1 : j.val = i
  · subst h1
    simp
  · by_cases h2 : j.val < i
    · rw [if_neg h1, if_pos h2, if_pos (by omega)]
    · rw [if_neg h1, if_neg h2, if_neg (by omega)]
theorem ph_ext {g h : Ph} : g = h ↔ ∀ i (hi : i < 8), g ⟨i, hi⟩ = h ⟨i, hi⟩ := ⟨fun e i hi => by rw [e], fun e => by funext ⟨i, hi⟩; exact e i hi⟩
end Go.VL
namespace Go.VL
open Go.RowKit
def int (a : Int) : List C := [.v (.int .i64 a)]
theorem int_len (a : Int) : (int a).length = 1 := rfl
theorem int_sc (a : Int) : (int a).all sc = true := rfl
abbrev cI (a : Int) : V := .c (.v (.int .i64 a))
abbrev cB (b : Bool) : V := .c (.v (.bool b))
abbrev ints (o : Bool) (xs : List Int) : C := .sl o xs.length 1 (flat int xs)
abbrev bls (o : Bool) (xs : List Bool) : C := .sl o xs.length 1 (flat bo xs)
def szr (n : Nat) (l : Int) : Int := if l - n < 0 then -1 else l - n
theorem a_i {H : List Ob} {a b : Int} (h : a = b) : TrV H [] (cI a) (cI b) := by rw [h]; exact tr_v
theorem tr_i {H : List Ob} {g : List (Option Nat)} {a b : Int} (h : a = b) : TrV H g (cI a) (cI b) := by rw [h]; exact tr_v
theorem tr_fn1 {H : List Ob} {gg : List (Option Nat)} {g : FuncId} {cs : List C} : TrV H gg (.c (.fn g [.vw false cs 0])) (.c (.fn g [.vw false cs 0])) := .c (.fn rfl (same_of fun c hc => Tr.stay (by simp at hc; subst hc; rfl)))
theorem tr_fnv {H : List Ob} {gg : List (Option Nat)} {g : FuncId} {x : Value} : TrV H gg (.c (.fn g [.v x])) (.c (.fn g [.v x])) := .c (.fn rfl (same_of fun c hc => Tr.stay (by simp at hc; subst hc; rfl)))
theorem tr_fn0 {H : List Ob} {gg : List (Option Nat)} {g : FuncId} : TrV H gg (.c (.fn g [])) (.c (.fn g [])) := .c (.fn rfl (fun j c c' h => by simp at h))
theorem tr_mun {H : List Ob} {g : List (Option Nat)} {i id off n n' k : Nat} (h : g[i]? = some (some id)) (hn : n = n') : TrV H g (.c (.mu id off n k)) (.c (.mu i off n' k)) := by
  subst hn
  exact tr_mu h
theorem i64r {a : Int} (h : -9223372036854775808 ≤ a ∧ a ≤ 9223372036854775807) : IntKind.i64.min ≤ a ∧ a ≤ IntKind.i64.max := h
theorem all_step {α : Type} {xs : List α} {i : Nat} {p : α → Prop} (hi : i < xs.length) (h : ∀ x ∈ xs.take i, p x) (h1 : p xs[i]) : ∀ x ∈ xs.take (i + 1), p x := by
  rw [List.take_succ_eq_append_getElem hi]
  intro x hx
  rcases List.mem_append.1 hx with hx | hx
  · exact h x hx
  · simp at hx; subst hx; exact h1
inductive TrVL (H : List Ob) (g : List (Option Nat)) : List V → List V → Prop
  | nil : TrVL H g [] []
  | cons {v v' : V} {vs vs' : List V} (h : TrV H g v v') (hs : TrVL H g vs vs') : TrVL H g (v :: vs) (v' :: vs')
theorem TrVL.spec {H : List Ob} {g : List (Option Nat)} {vs vs' : List V} (h : TrVL H g vs vs') : vs'.length = vs.length ∧ ∀ (j : Nat) (v v' : V), vs[j]? = some v → vs'[j]? = some v' → TrV H g v v' := by
  induction h with
  | nil => exact ⟨rfl, fun j c c' h => by simp at h⟩
  | cons h hs ih =>
    refine ⟨by simp [ih.1], fun j x x' hj hj' => ?_⟩
    cases j with
    | zero => simp at hj hj'; subst hj hj'; exact h
    | succ j => exact ih.2 j x x' (by simpa using hj) (by simpa using hj')
theorem a_tup {H : List Ob} {g : List (Option Nat)} {vs vs' : List V} (h : TrVL H g vs vs') : TrV H g (.tup vs) (.tup vs') := .tup h.spec.1 h.spec.2
def firstNZ : List Int → Int
  | [] => 0
  | x :: r => if x = 0 then firstNZ r else x
theorem firstNZ_none : ∀ {xs : List Int}, (∀ x ∈ xs, x = 0) → firstNZ xs = 0
  | [], _ => rfl
  | x :: r, h => by
    have h0 := h x (by simp)
    simp only [firstNZ, h0, if_true]
    exact firstNZ_none fun y hy => h y (by simp [hy])
theorem firstNZ_hit : ∀ {xs : List Int} {i : Nat} (hi : i < xs.length), (∀ x ∈ xs.take i, x = 0) → ¬ xs[i] = 0 → firstNZ xs = xs[i]
  | x :: r, 0, _, _, h => by simpa [firstNZ] using fun h0 => absurd h0 h
  | x :: r, i + 1, hi, hp, h => by
    have h0 := hp x (by simp)
    simp only [firstNZ, h0, if_true]
    exact firstNZ_hit (xs := r) (by simpa using hi) (fun y hy => hp y (by simp [hy])) (by simpa using h)
def fix {α : Type} (pr : α → Prop) [DecidablePred pr] (xs : List α) : Int := match xs.findIdx? (fun x => decide (pr x)) with
  | some i => (i : Int)
  | none => -1
theorem fix_none {α : Type} {pr : α → Prop} [DecidablePred pr] {xs : List α} (h : ∀ x ∈ xs, ¬ pr x) : fix pr xs = -1 := by
  unfold fix
  rw [List.findIdx?_eq_none_iff.2 (by simpa using h)]
theorem fix_hit {α : Type} {pr : α → Prop} [DecidablePred pr] {xs : List α} {i : Nat} (hi : i < xs.length) (h : ∀ x ∈ xs.take i, ¬ pr x) (h1 : pr xs[i]) : fix pr xs = i := by
  unfold fix
  rw [List.findIdx?_eq_some_iff_getElem.2 ⟨hi, by simpa using h1, fun j hj => by
    simpa using h xs[j] (by rw [List.mem_take_iff_getElem]; exact ⟨j, by omega, rfl⟩)⟩]
theorem fix_ge {α : Type} (pr : α → Prop) [DecidablePred pr] (xs : List α) : 0 ≤ fix pr xs ↔ ∃ x ∈ xs, pr x := by
  unfold fix
  cases h : xs.findIdx? (fun x => decide (pr x)) with
  | none =>
    have := List.findIdx?_eq_none_iff.1 h
    simp only [decide_eq_false_iff_not] at this
    constructor
    · intro h; exact absurd (show (0 : Int) ≤ -1 from h) (by decide)
    · rintro ⟨x, h1, h2⟩; exact absurd h2 (this x h1)
  | some i =>
    obtain ⟨h1, h2, -⟩ := List.findIdx?_eq_some_iff_getElem.1 h
    exact ⟨fun _ => ⟨_, List.getElem_mem h1, by simpa using h2⟩, fun _ => by simp only []; omega⟩
theorem gD {α : Type} {xs : List α} {i : Nat} {x : α} (h : i < xs.length) : xs.getD i x = xs[i] := by simp [h]
def mx (a b : Int) : Int := if a < b then b else a
theorem take_all_eq {α : Type} {xs ys : List α} {i : Nat} (h : xs.take i = ys.take i) (h1 : i = xs.length) (h2 : ys.length = xs.length) : xs = ys := by
  subst h1
  rwa [List.take_length, ← h2, List.take_length] at h
theorem take_step_eq {α : Type} {xs ys : List α} {i : Nat} (h : xs.take i = ys.take i) (h1 : i < xs.length) (h2 : i < ys.length) (he : xs[i] = ys[i]) : xs.take (i + 1) = ys.take (i + 1) := by
  rw [List.take_succ_eq_append_getElem h1, List.take_succ_eq_append_getElem h2, h, he]
theorem ne_at {α : Type} {xs ys : List α} {i : Nat} (h1 : i < xs.length) (h2 : i < ys.length) (he : ¬ xs[i] = ys[i]) : ¬ xs = ys := by
  rintro rfl
  exact he rfl
theorem mk_at {α : Type} {f : Nat → α} {n i : Nat} (h : i < ((List.range n).map f).length) : ((List.range n).map f)[i] = f i := by
  rw [List.getElem_map, List.getElem_range]
theorem snoc_eq {α : Type} {enc : α → List C} (f : Nat → α) (i : Nat) {x : α} (h : f i = x) : flat enc ((List.range i).map f ++ [x]) = flat enc ((List.range (i + 1)).map f) := by rw [range_step, h]
theorem set_same {α : Type} {H : List α} {id : Nat} {o : α} (h : H[id]? = some o) : H.set id o = H := by
  have hlt := (List.getElem?_eq_some_iff.1 h).1
  rw [List.getElem?_eq_getElem hlt] at h
  rw [← Option.some.inj h, List.set_getElem_self]
theorem flat_of2 {α : Type} {enc : α → List C} {p : α → Prop} {xs : List (List C)} (h : ∀ x ∈ xs, ∃ a, x = enc a ∧ p a) : ∃ zs : List α, zs.length = xs.length ∧ xs.flatten = flat enc zs ∧ ∀ a ∈ zs, p a := by
  induction xs with
  | nil => exact ⟨[], rfl, rfl, fun a h => by cases h⟩
  | cons x xs ih =>
    obtain ⟨a, rfl, ha⟩ := h x (by simp)
    obtain ⟨zs, h1, h2, h3⟩ := ih (fun y hy => h y (by simp [hy]))
    exact ⟨a :: zs, by simp [h1], by rw [List.flatten_cons, h2, flat_cons], fun b hb => by
      rcases List.mem_cons.1 hb with rfl | hb
      · exact ha
      · exact h3 b hb⟩
def imark (a : Int) (j : Nat) : Int := a + j
theorem imark_step {a : Int} {i : Nat} {xs : List Int} (h : i < xs.length) : (marks (imark a) i xs).set i (a + i) = marks (imark a) (i + 1) xs := marks_step (f := imark a) h
/-! Sources of draws -/
def byt (b : Int) : List C := [.v (.int .u8 b)]
theorem byt_len (b : Int) : (byt b).length = 1 := rfl
theorem byt_sc (b : Int) : (byt b).all sc = true := rfl
/-- Choices from bytes: the bytes, where it stands, and the sequence. -/
abbrev srcT (t : TypeId) (code : List Int) (a s : Int) : Ob := ⟨[.sl false code.length 1 (flat byt code), .v (.int .i64 a), .v (.int .u64 s)], t, true⟩
def sd (s b : Int) : Int := IntKind.u64.wrap (IntKind.u64.wrap (IntKind.u64.wrap (s * 6364136223846793005) + b) + 1442695040888963407)
def nxS (code : List Int) (a s : Int) : Int := sd s (code.getD a.toNat 0)
def nxR (code : List Int) (a s : Int) : Int := if a.toNat < code.length then code.getD a.toNat 0 else bits .and .u64 ((nxS code a s).fdiv (2 ^ min (40 : Int).toNat IntKind.u64.bits)) 255
theorem nxR_in {code : List Int} {a : Nat} {s : Int} (h : a < code.length) : code[a] = nxR code a s := by
  unfold nxR
  rw [Int.toNat_natCast, if_pos h, gD h]
theorem nxS_in {code : List Int} {a : Nat} {s : Int} (h : a < code.length) : sd s code[a] = nxS code a s := by
  unfold nxS
  rw [Int.toNat_natCast, gD h]
theorem nxS_out {code : List Int} {a : Nat} {s : Int} (h : ¬ a < code.length) : sd s 0 = nxS code a s := by
  unfold nxS
  rw [Int.toNat_natCast, List.getD_eq_getElem?_getD, List.getElem?_eq_none (by omega)]
  rfl
theorem nxR_out {code : List Int} {a : Nat} {s : Int} (h : ¬ a < code.length) : bits .and .u64 ((sd s 0).fdiv (2 ^ min (40 : Int).toNat IntKind.u64.bits)) 255 = nxR code a s := by
  unfold nxR
  rw [Int.toNat_natCast, if_neg h, nxS_out h]
theorem nxR_rng {code : List Int} {a s : Int} (hc : ∀ b ∈ code, 0 ≤ b ∧ b ≤ 255) : 0 ≤ nxR code a s ∧ nxR code a s ≤ 255 := by
  unfold nxR
  split
  · rename_i h
    rw [gD h]
    exact hc _ (List.getElem_mem h)
  · exact and_le (k := 8) (by decide) (by decide)
/-- A number, picked below n: where more than two hundred, from two bytes. -/
def pkR (code : List Int) (n a s : Int) : Int := if n ≤ 1 then 0 else if n ≤ 200 then (nxR code a s).tmod n else (nxR code a s * 256 + nxR code (a + 1) (nxS code a s)).tmod n
def pkA (n a : Int) : Int := if n ≤ 1 then a else if n ≤ 200 then a + 1 else a + 1 + 1
def pkS (code : List Int) (n a s : Int) : Int := if n ≤ 1 then s else if n ≤ 200 then nxS code a s else nxS code (a + 1) (nxS code a s)
theorem pk_rng {code : List Int} {n a s : Int} (hc : ∀ b ∈ code, 0 ≤ b ∧ b ≤ 255) : 0 ≤ pkR code n a s ∧ (1 < n → pkR code n a s < n) ∧ (n ≤ 1 → pkR code n a s = 0) ∧ a ≤ pkA n a ∧ pkA n a ≤ a + 2 := by
  have h := nxR_rng (code := code) (a := a) (s := s) hc
  have h2 := nxR_rng (code := code) (a := a + 1) (s := nxS code a s) hc
  unfold pkR pkA
  split
  · exact ⟨by omega, fun h => by omega, fun _ => rfl, by omega, by omega⟩
  · split
    · refine ⟨Int.tmod_nonneg _ h.1, fun _ => Int.tmod_lt_of_pos _ (by omega), fun h => by omega, by omega, by omega⟩
    · refine ⟨Int.tmod_nonneg _ (by omega), fun _ => Int.tmod_lt_of_pos _ (by omega), fun h => by omega, by omega, by omega⟩
theorem pk_if1 {t : TypeId} {code : List Int} {n a s : Int} (h : n ≤ 1) : 0 = pkR code n a s ∧ srcT t code a s = srcT t code (pkA n a) (pkS code n a s) := by unfold pkR pkA pkS; rw [if_pos h, if_pos h, if_pos h]; exact ⟨rfl, rfl⟩
theorem pk_if2 {t : TypeId} {code : List Int} {n a s : Int} (h : ¬ n ≤ 1) (h2 : n ≤ 200) : (nxR code a s).tmod n = pkR code n a s ∧ srcT t code (a + 1) (nxS code a s) = srcT t code (pkA n a) (pkS code n a s) := by unfold pkR pkA pkS; rw [if_neg h, if_neg h, if_neg h, if_pos h2, if_pos h2, if_pos h2]; exact ⟨rfl, rfl⟩
theorem pk_if3 {t : TypeId} {code : List Int} {n a s : Int} (h : ¬ n ≤ 1) (h2 : ¬ n ≤ 200) : (nxR code a s * 256 + nxR code (a + 1) (nxS code a s)).tmod n = pkR code n a s ∧ srcT t code (a + 1 + 1) (nxS code (a + 1) (nxS code a s)) = srcT t code (pkA n a) (pkS code n a s) := by
  unfold pkR pkA pkS; rw [if_neg h, if_neg h, if_neg h, if_neg h2, if_neg h2, if_neg h2]; exact ⟨rfl, rfl⟩
end Go.VL
namespace Go.VL
open Go.RowKit
theorem cty_array {lay : TypeId → Option Lay} {t e : TypeId} {n a b : Nat} {z : List Value} (hL : lay t = some ⟨.array n e, a, b, z⟩) {cs : List C} (h : Cty lay t cs) : cs.length = a ∧ ∀ i, i < n → Cty lay e (sub cs (i * szOf lay e) (szOf lay e)) := by
  cases h with
  | array h cs hl hf => rw [hL] at h; simp only [Option.some.injEq, Lay.mk.injEq, LK.array.injEq] at h; obtain ⟨⟨rfl, rfl⟩, rfl, -⟩ := h; exact ⟨hl, hf⟩
  | _ => first
    | (rename_i h; rw [hL] at h; simp at h; done)
    | (rename_i h _; rw [hL] at h; simp at h; done)
    | (rename_i h _ _; rw [hL] at h; simp at h; done)
    | (rename_i h _ _ _; rw [hL] at h; simp at h; done)
    | (rename_i h _ _ _ _; rw [hL] at h; simp at h; done)
theorem vty_i64 {lay : TypeId → Option Lay} {t : TypeId} {a b : Nat} {z : List Value} (hL : lay t = some ⟨.int .i64, a, b, z⟩) {v : V} (h : VTy lay t v) : ∃ n, v = cI n := by
  unfold VTy at h
  rw [hL] at h
  simp only [LK.agg, Bool.false_eq_true, if_false] at h
  obtain ⟨c, rfl, hc⟩ := h
  obtain ⟨n, e, -⟩ := cty_int hL hc
  simp only [List.cons.injEq, and_true] at e
  subst e
  exact ⟨n, rfl⟩
/-- Eight truths, one by one. -/
theorem cty_ph {lay : TypeId → Option Lay} {t e : TypeId} {b b' a' : Nat} {z z' : List Value} (hL : lay t = some ⟨.array 8 e, 8, b, z⟩) (hLe : lay e = some ⟨.bool, a', b', z'⟩) (hs : szOf lay e = 1) {cs : List C} (h : Cty lay t cs) : ∃ g : Ph, cs = phc g := by
  obtain ⟨h1, h2⟩ := cty_array hL h
  rw [hs] at h2
  match cs, h1 with
  | [c0, c1, c2, c3, c4, c5, c6, c7], _ =>
    obtain ⟨g0, e0⟩ := cty_bool hLe (h2 0 (by decide))
    obtain ⟨g1, e1⟩ := cty_bool hLe (h2 1 (by decide))
    obtain ⟨g2, e2⟩ := cty_bool hLe (h2 2 (by decide))
    obtain ⟨g3, e3⟩ := cty_bool hLe (h2 3 (by decide))
    obtain ⟨g4, e4⟩ := cty_bool hLe (h2 4 (by decide))
    obtain ⟨g5, e5⟩ := cty_bool hLe (h2 5 (by decide))
    obtain ⟨g6, e6⟩ := cty_bool hLe (h2 6 (by decide))
    obtain ⟨g7, e7⟩ := cty_bool hLe (h2 7 (by decide))
    have q0 : [c0] = [.v (.bool g0)] := e0
    have q1 : [c1] = [.v (.bool g1)] := e1
    have q2 : [c2] = [.v (.bool g2)] := e2
    have q3 : [c3] = [.v (.bool g3)] := e3
    have q4 : [c4] = [.v (.bool g4)] := e4
    have q5 : [c5] = [.v (.bool g5)] := e5
    have q6 : [c6] = [.v (.bool g6)] := e6
    have q7 : [c7] = [.v (.bool g7)] := e7
    simp only [List.cons.injEq, and_true] at q0 q1 q2 q3 q4 q5 q6 q7
    subst q0 q1 q2 q3 q4 q5 q6 q7
    exact ⟨fun i => [g0, g1, g2, g3, g4, g5, g6, g7][i.val]'(by simp), rfl⟩
end Go.VL
namespace Go.VL
open Go.RowKit
/-- A cell that is frozen, or a number. -/
def fz : C → Bool
  | .v _ => true
  | .f _ _ => true
  | .sl true _ _ _ => true
  | .vw true _ _ => true
  | _ => false
theorem fz_flat {α : Type} {enc : α → List C} (h : ∀ a, (enc a).all fz = true) (xs : List α) : ∀ c ∈ flat enc xs, fz c = true := fun c hc => by
  obtain ⟨a, -, ha⟩ := List.mem_flatMap.1 hc
  exact List.all_eq_true.1 (h a) c ha
theorem Dn.fz {o : Bool} {H : List Ob} {gone : Nat → Prop} {c : C} (h : fz c = true) : Dn o H gone c c := by
  cases c with
  | v x => exact .v
  | f k x => exact .f
  | sl b n k cs => cases b with
    | true => exact .sl fun _ => rfl
    | false => cases h
  | vw b cs off => cases b with
    | true => exact .vw fun _ => rfl
    | false => cases h
  | _ => cases h
theorem dnl_fz {o : Bool} {H : List Ob} {gone : Nat → Prop} : ∀ {cs : List C}, (∀ c ∈ cs, fz c = true) → DnL o H gone cs cs
  | [], _ => .nil
  | c :: cs, h => .cons (.fz (h c (by simp))) (dnl_fz fun x hx => h x (by simp [hx]))
theorem stays_fz {c : C} (h : fz c = true) : stays c = true := by
  cases c with
  | v x => rfl
  | f k x => rfl
  | sl b n k cs => rfl
  | vw b cs off => rfl
  | _ => cases h
theorem dn_flatz {α : Type} {enc : α → List C} {o b' : Bool} {H : List Ob} {gone : Nat → Prop} {id n k : Nat} {xs : List α} {t : TypeId} (hsc : ∀ a, (enc a).all fz = true) (he : ∀ a, (enc a).length = k) (ho : H[id]? = some ⟨flat enc xs, t, true⟩) (hg : gone id) (hn : n = xs.length) :
    Dn o H gone (.mu id 0 n k) (.sl b' n k (flat enc xs)) := dn_mu ho hg (by rw [flat_length he, hn]) (dnl_fz (fz_flat hsc xs))
theorem trc_flatz {α : Type} {enc : α → List C} {H : List Ob} {g : List (Option Nat)} {xs : List α} (h : ∀ a, (enc a).all fz = true) {cs : List C} (hc : cs = flat enc xs) : TrC H g cs (flat enc xs) := by
  rw [hc]
  exact .stay fun c hc => stays_fz (fz_flat h xs c hc)
theorem vw_muz {α : Type} {H : List Ob} {enc : α → List C} {id n k : Nat} {xs : List α} {t : TypeId} (hsc : ∀ a, (enc a).all fz = true) (he : ∀ a, (enc a).length = k) (ho : H[id]? = some ⟨flat enc xs, t, true⟩) (hn : n = xs.length) : VwV H (.c (.mu id 0 n k)) (.c (.sl false n k (flat enc xs))) :=
  vw_dn (dn_flatz hsc he ho trivial hn) rfl
theorem a_flatz {α : Type} {H : List Ob} {enc : α → List C} {id n n' k : Nat} {xs : List α} {t : TypeId} {cs : List C} (hsc : ∀ a, (enc a).all fz = true) (he : ∀ a, (enc a).length = k) (ho : H[id]? = some ⟨cs, t, true⟩) (hc : cs = flat enc xs) (hn : n = xs.length) (hn' : n' = n) : TrV H [] (.c (.mu id 0 n k)) (.c (.sl true n' k (flat enc xs))) := by
  subst hc hn'
  exact a_dn (dn_flatz hsc he ho gone_nil hn)
section
variable {X : Cx} {all r : List Oper} {K : Sl → List Ob → Prop} {sl : Sl} {H : List Ob} {d : Tmp} {ty : TypeId} {ps : String} {af : Array Edge}
theorem v_app_flatz {α : Type} {enc : α → List C} {ys zs : List α} {s x : Operand} {t e e' : TypeId} {a b : Nat} {z : List Value} {L : Lay} {id idx m n k q : Nat} {H' : List Ob} (_hsc : ∀ a, (enc a).all fz = true) (he : ∀ a, (enc a).length = k) (hL : X.lay t = some ⟨.slice e, a, b, z⟩) (hLe : X.lay e = some L) (hs : rho X.G sl s = .c (.mu id 0 m k)) (ho : H[id]? = some ⟨flat enc ys, e, true⟩) (hm : m = ys.length)
    (hx : rho X.G sl x = .c (.mu idx 0 n k)) (hox : H[idx]? = some ⟨flat enc zs, e', true⟩) (hz : n = zs.length) (hk : L.size = k) (hk0 : Nat.blt 0 k = true) (hn : m + n ≤ maxLen ∧ (m + n) * L.bytes ≤ 140737488355328) (hq : H.length = q) (hH : H.set id ⟨flat enc ys, e, false⟩ ++ [⟨flat enc (ys ++ zs), e, true⟩] = H') (h : vops X all r K (upd sl d (.c (.mu q 0 (m + n) k))) H') :
    vops X all (⟨some d, .call ⟨.builtin .append, #[s, x], #[t, t]⟩, ty, ps, af, none⟩ :: r) K sl H := by
  have hx' : srcOf H (rho X.G sl x) = some (n, k, flat enc zs) := by
    have hl : 0 + n * k ≤ (flat enc zs).length := by rw [flat_length he, hz]; omega
    have hsub : sub (flat enc zs) 0 (n * k) = flat enc zs := by
      have : n * k = (flat enc zs).length := by rw [flat_length he, hz]
      unfold sub
      rw [this]; simp
    simp only [srcOf, hx, hox]
    rw [if_pos ⟨trivial, hl⟩, hsub]
  exact v_app_mu hL hLe hs ho hx' hk (Nat.le_of_ble_eq_true hk0) (by rw [flat_length he, hm]) hn hq (by rw [← flat_append]; exact hH) h
theorem v_app_flatz_sl {α : Type} {enc : α → List C} {ys zs : List α} {s x : Operand} {t e : TypeId} {a b : Nat} {z : List Value} {L : Lay} {id m n k q : Nat} {H' : List Ob} (_hsc : ∀ a, (enc a).all fz = true) (he : ∀ a, (enc a).length = k) (hL : X.lay t = some ⟨.slice e, a, b, z⟩) (hLe : X.lay e = some L) (hs : rho X.G sl s = .c (.mu id 0 m k)) (ho : H[id]? = some ⟨flat enc ys, e, true⟩) (hm : m = ys.length)
    (hx : rho X.G sl x = .c (.sl true n k (flat enc zs))) (hk : L.size = k) (hk0 : Nat.blt 0 k = true) (hn : m + n ≤ maxLen ∧ (m + n) * L.bytes ≤ 140737488355328) (hq : H.length = q) (hH : H.set id ⟨flat enc ys, e, false⟩ ++ [⟨flat enc (ys ++ zs), e, true⟩] = H') (h : vops X all r K (upd sl d (.c (.mu q 0 (m + n) k))) H') :
    vops X all (⟨some d, .call ⟨.builtin .append, #[s, x], #[t, t]⟩, ty, ps, af, none⟩ :: r) K sl H := by
  have hx' : srcOf H (rho X.G sl x) = some (n, k, flat enc zs) := by
    simp only [srcOf, hx]
    rfl
  exact v_app_mu hL hLe hs ho hx' hk (Nat.le_of_ble_eq_true hk0) (by rw [flat_length he, hm]) hn hq (by rw [← flat_append]; exact hH) h
end
/-! Remainders -/
theorem em_of {a n : Int} (k : Int) : (a - n * k) % n = a % n := Int.sub_mul_emod_self_left a n k
theorem mo_eq {a n : Int} (hn : 0 < n) : (a.tmod n + n).tmod n = a % n := by
  have h := Int.lt_tmod_of_pos a hn
  rw [Int.tmod_eq_emod_of_nonneg (by omega), Int.add_emod_right, Int.tmod_def, em_of]
theorem pl_eq {t f n : Int} (hn : 0 < n) (ht : 0 ≤ t) (hf : 0 ≤ f ∧ f < n) : (t.tmod n - f + n).tmod n = (t - f) % n := by
  have h1 := Int.emod_nonneg t (show n ≠ 0 by omega)
  rw [Int.tmod_eq_emod_of_nonneg ht, Int.tmod_eq_emod_of_nonneg (by omega), Int.add_emod_right]
  have e : t % n - f = (t - f) - n * (t / n) := by
    have := Int.emod_add_mul_ediv t n
    omega
  rw [e, em_of]
theorem em_add {a c n : Int} : (a % n + c) % n = (a + c) % n := Int.emod_add_emod a n c
theorem em_sub {a c n : Int} : (a - c % n) % n = (a - c) % n := by
  have := Int.emod_add_mul_ediv c n
  have e : a - c = (a - c % n) - n * (c / n) := by omega
  rw [e, em_of]
end Go.VL
namespace Go.VL
open Go.RowKit
theorem ag_call {X : Cx} {sl : Sl} {H : List Ob} {f : Operand} {args : Array Operand} {tys : Array TypeId} {gf : FuncId} {caps : List C} {args' : List V} {res : V} (hp : PureC X gf args' res) (hown : ownV res = true) (hf : rho X.G sl f = .c (.fn gf caps)) {aa : List V} (has : args.toList.map (rho X.G sl) ++ caps.map .c = aa) (hv : Views H aa args') :
    Qt0 X 0 H (rho X.G sl) (.call ⟨.value f, args, tys⟩) res := by
  subst has
  unfold Qt0
  rw [if_neg (by omega)]
  simp only [callOf, hf, target]
  exact ⟨args', hv, hp, hown⟩
theorem ag_if {c : Bool} {p : Prop} (hc : c = true) (h : p) : if c = true then p else True := by rw [if_pos hc]; exact h
end Go.VL
namespace Go.VL
open Go.RowKit
/-- What a struct's value is, where its cells are numbers and truths. -/
theorem agg_vals {m : Mem} {vs : List Value} {u : Value} (h : RV m (.agg (vs.map C.v)) u) : u = .agg vs.toArray := by
  obtain ⟨xs, rfl, h1, h2⟩ := h.aggI
  congr 1
  apply Array.ext
  · simpa using h1
  · intro j hj1 hj2
    have hj : j < vs.length := by simpa using hj2
    obtain ⟨u, k1, k2⟩ := h2 j (.v vs[j]) (by rw [List.getElem?_map, List.getElem?_eq_getElem hj]; rfl)
    have e := k2.val
    rw [Array.getElem?_eq_getElem hj1] at k1
    rw [Option.some.inj k1, e]
    simp
theorem struct_eqD {X : Cx} {t : TypeId} {m : Mem} {vs1 vs2 : List Value} {u v : Value} {p : Prop} (q d : Nat) (hq : d + q = 10000) (hk : X.P.keyTypeAt q t = true) {l1 l2 : List Lit} {D : Nat}
    (hf1 : (Value.agg vs1.toArray).formed X.P t = true) (hf2 : (Value.agg vs2.toArray).formed X.P t = true) (hl1 : X.P.keyLits D t vs1 = some l1) (hl2 : X.P.keyLits D t vs2 = some l2) (hp : p ↔ l1 = l2)
    (h1 : RV m (.agg (vs1.map C.v)) u) (h2 : RV m (.agg (vs2.map C.v)) v) : ∃ xs ys, u = .agg xs ∧ v = .agg ys ∧ ∀ w, ∃ r : Bool, (Op.equalIn 10000 t (.agg xs) (.agg ys)).run X.P w = .ok r w ∧ (r = true ↔ p) := by
  refine ⟨_, _, agg_vals h1, agg_vals h2, fun w => ?_⟩
  obtain ⟨r, hr, hiff⟩ := run_equalIn_deep d q t hk w D D _ _ l1 l2 hf1 hf2 (by simpa [Value.cells] using hl1) (by simpa [Value.cells] using hl2)
  rw [hq] at hr
  exact ⟨r, hr, hiff.trans hp.symm⟩
theorem rq_neqD {X : Cx} {t ty2 : TypeId} {x y : Operand} {ρ : Operand → V} {vs1 vs2 : List Value} {p : Prop} [Decidable p] (q d : Nat) (hq : d + q = 10000) (hk : X.P.keyTypeAt q t = true) {l1 l2 : List Lit} {D : Nat}
    (hf1 : (Value.agg vs1.toArray).formed X.P t = true) (hf2 : (Value.agg vs2.toArray).formed X.P t = true) (hl1 : X.P.keyLits D t vs1 = some l1) (hl2 : X.P.keyLits D t vs2 = some l2) (hp : p ↔ l1 = l2)
    (hg : X.P.eqGuardType X.P.depth t = false) (hx : ρ x = .agg (vs1.map C.v)) (hy : ρ y = .agg (vs2.map C.v)) : RawQ X (.binOp .neq t x y ty2) ρ (.c (.v (.bool (decide (¬ p))))) := by
  intro m H ε o ho hS hr
  have r1 := hr x (by simp [Op.operands])
  have r2 := hr y (by simp [Op.operands])
  rw [hx] at r1
  rw [hy] at r2
  obtain ⟨xs, ys, e1, e2, h⟩ := struct_eqD q d hq hk hf1 hf2 hl1 hl2 hp r1 r2
  obtain ⟨r, h3, h4⟩ := h m.w
  refine Good.here hS (u := .bool (decide (¬ p))) ?_ (.c (.v rfl))
  have h5 : decide (¬ p) = !r := by
    cases r
    · simp [← h4]
    · simp [← h4]
  simp [execOp, ho, e1, e2, run_eqGuard_agg m.w _ _ _ _ _ _ hg, run_neq_struct, h3, h5]
end Go.VL
namespace Go.VL
open Go.RowKit
section
variable {α β : Type} (kid : α → List β) (enc : β → List C) (k : Nat) (tt : TypeId) (rest : α → List C)
/-- An element, frozen. -/
def fzE (x : α) : List C := .sl true (kid x).length k (flat enc (kid x)) :: rest x
/-- The elements' cells, where their slices are the objects from N on. -/
def refs : Nat → List α → List C
  | _, [] => []
  | N, x :: r => (.mu N 0 (kid x).length k :: rest x) ++ refs (N + 1) r
/-- The elements' slices, as objects. -/
def kids (xs : List α) : List Ob := xs.map fun x => ⟨flat enc (kid x), tt, true⟩
end
section
variable {α β : Type} {kid : α → List β} {enc : β → List C} {k : Nat} {tt : TypeId} {rest : α → List C}
theorem kids_len {xs : List α} : (kids kid enc tt xs).length = xs.length := by simp [kids]
theorem kids_at {xs : List α} {i : Nat} (h : i < xs.length) : (kids kid enc tt xs)[i]? = some ⟨flat enc (kid xs[i]), tt, true⟩ := by simp [kids, h]
theorem kids_app {xs ys : List α} : kids kid enc tt (xs ++ ys) = kids kid enc tt xs ++ kids kid enc tt ys := by simp [kids]
theorem kids_set {xs : List α} {i : Nat} {x : α} (_h : i < xs.length) : kids kid enc tt (xs.set i x) = (kids kid enc tt xs).set i ⟨flat enc (kid x), tt, true⟩ := by simp [kids, List.map_set]
theorem refs_app {xs ys : List α} : ∀ {N : Nat}, refs kid k rest N (xs ++ ys) = refs kid k rest N xs ++ refs kid k rest (N + xs.length) ys := by
  induction xs with
  | nil => intro N; simp [refs]
  | cons x r ih =>
    intro N
    simp only [List.cons_append, refs, ih, List.length_cons, List.append_assoc]
    rw [show N + (r.length + 1) = N + 1 + r.length by omega]
theorem refs_len {K : Nat} (hr : ∀ x, (rest x).length + 1 = K) : ∀ {xs : List α} {N : Nat}, (refs kid k rest N xs).length = xs.length * K
  | [], _ => by simp [refs]
  | x :: r, N => by
    simp only [refs, List.length_append, List.length_cons, refs_len hr, hr x]
    rw [Nat.add_mul, Nat.one_mul]
    omega
/-- What is written of the kids' lengths alone does not tell the kids themselves. -/
theorem refs_set {xs : List α} {x : α} : ∀ {i N : Nat} (h : i < xs.length), (kid x).length = (kid xs[i]).length → rest x = rest xs[i] → refs kid k rest N (xs.set i x) = refs kid k rest N xs := by
  induction xs with
  | nil => intro i N h; simp at h
  | cons y r ih =>
    intro i N h h1 h2
    cases i with
    | zero =>
      simp only [List.getElem_cons_zero] at h1 h2
      simp only [List.set_cons_zero, refs, h1, h2]
    | succ i =>
      simp only [List.getElem_cons_succ] at h1 h2
      simp only [List.set_cons_succ, refs]
      rw [ih (by simpa using h) h1 h2]
theorem dnl_app {o : Bool} {H : List Ob} {gone : Nat → Prop} {t t' : List C} : ∀ {cs : List C}, (∀ c ∈ cs, fz c = true) → DnL o H gone t t' → DnL o H gone (cs ++ t) (cs ++ t')
  | [], _, h => h
  | c :: cs, hc, h => .cons (.fz (hc c (by simp))) (dnl_app (fun x hx => hc x (by simp [hx])) h)
theorem dnl_refs {o : Bool} {H : List Ob} {gone : Nat → Prop} (hsc : ∀ a, (enc a).all sc = true) (he : ∀ a, (enc a).length = k) (hr : ∀ x, (rest x).all fz = true) :
    ∀ {xs : List α} {N : Nat}, (∀ i (h : i < xs.length), H[N + i]? = some ⟨flat enc (kid xs[i]), tt, true⟩ ∧ gone (N + i)) → DnL o H gone (refs kid k rest N xs) (flat (fzE kid enc k rest) xs)
  | [], _, _ => .nil
  | x :: r, N, h => by
    have h0 := h 0 (by simp)
    simp only [Nat.add_zero, List.getElem_cons_zero] at h0
    rw [flat_cons]
    refine .cons (dn_flat hsc he h0.1 h0.2 rfl) (dnl_app (fun c hc => List.all_eq_true.1 (hr x) c hc) (dnl_refs hsc he hr fun i hi => ?_))
    have h1 := h (i + 1) (by simpa using hi)
    rw [show N + (i + 1) = N + 1 + i by omega] at h1
    simpa using h1
theorem fzE_len {K : Nat} (hr : ∀ x, (rest x).length + 1 = K) (x : α) : (fzE kid enc k rest x).length = K := by simpa [fzE] using hr x
/-- Such a list, seen by a call. -/
theorem vw_nest {H : List Ob} {id N n K : Nat} {xs : List α} {t : TypeId} (hsc : ∀ a, (enc a).all sc = true) (he : ∀ a, (enc a).length = k) (hr : ∀ x, (rest x).all fz = true) (hK : ∀ x, (rest x).length + 1 = K) (ho : H[id]? = some ⟨refs kid k rest N xs, t, true⟩)
    (hk : ∀ i (h : i < xs.length), H[N + i]? = some ⟨flat enc (kid xs[i]), tt, true⟩) (hn : n = xs.length) : VwV H (.c (.mu id 0 n K)) (.c (.sl false n K (flat (fzE kid enc k rest) xs))) :=
  vw_dn (dn_mu ho trivial (by rw [refs_len hK, hn]) (dnl_refs hsc he hr fun i hi => ⟨hk i hi, trivial⟩)) rfl
/-- .. answered, and frozen so. -/
theorem a_nest {H : List Ob} {id N n K : Nat} {xs : List α} {t : TypeId} (hsc : ∀ a, (enc a).all sc = true) (he : ∀ a, (enc a).length = k) (hr : ∀ x, (rest x).all fz = true) (hK : ∀ x, (rest x).length + 1 = K) (ho : H[id]? = some ⟨refs kid k rest N xs, t, true⟩)
    (hk : ∀ i (h : i < xs.length), H[N + i]? = some ⟨flat enc (kid xs[i]), tt, true⟩) (hn : n = xs.length) : TrV H [] (.c (.mu id 0 n K)) (.c (.sl true n K (flat (fzE kid enc k rest) xs))) :=
  a_dn (dn_mu ho gone_nil (by rw [refs_len hK, hn]) (dnl_refs hsc he hr fun i hi => ⟨hk i hi, gone_nil⟩))
end
/-! Looking anew, with rows of objects -/
def ids (M n : Nat) : List (Option Nat) := (List.range n).map fun i => some (M + i)
theorem ids_len {M n : Nat} : (ids M n).length = n := by simp [ids]
theorem ids_at {M n i : Nat} (h : i < n) : (ids M n)[i]? = some (some (M + i)) := by simp [ids, h]
theorem turno_app {H : List Ob} {g : List (Option Nat)} : ∀ {g1 : List (Option Nat)} {o1 : List Ob} {g2 : List (Option Nat)} {o2 : List Ob}, TurnO H g g1 o1 → TurnO H g g2 o2 → TurnO H g (g1 ++ g2) (o1 ++ o2)
  | [], [], _, _, _, h2 => h2
  | none :: _gs, _o :: _os, _, _, h1, h2 => ⟨h1.1, turno_app h1.2 h2⟩
  | some _id :: _gs, _o :: _os, _, _, h1, h2 => ⟨h1.1, turno_app h1.2 h2⟩
  | [], _ :: _, _, _, h1, _ => h1.elim
  | none :: _, [], _, _, h1, _ => h1.elim
  | some _ :: _, [], _, _, h1, _ => h1.elim
theorem turno_of {H : List Ob} {g : List (Option Nat)} : ∀ {gs : List (Option Nat)} {os : List Ob}, gs.length = os.length → (∀ (i : Nat) (o : Ob), os[i]? = some o → ∃ id, gs[i]? = some (some id) ∧ ∃ cs, H[id]? = some ⟨cs, o.t, true⟩ ∧ TrC H g cs o.cs) → TurnO H g gs os
  | [], [], _, _ => trivial
  | x :: gs, o :: os, hl, h => by
    obtain ⟨id, h1, h2⟩ := h 0 o rfl
    simp only [List.getElem?_cons_zero, Option.some.injEq] at h1
    subst h1
    exact ⟨h2, turno_of (by simpa using hl) fun i o' ho => by simpa using h (i + 1) o' (by simpa using ho)⟩
theorem turno_kids {α β : Type} {kid : α → List β} {enc : β → List C} {tt : TypeId} {H : List Ob} {g : List (Option Nat)} {xs : List α} {M : Nat} (hsc : ∀ a, (enc a).all sc = true) (h : ∀ i (hi : i < xs.length), H[M + i]? = some ⟨flat enc (kid xs[i]), tt, true⟩) : TurnO H g (ids M xs.length) (kids kid enc tt xs) := by
  refine turno_of (by rw [ids_len, kids_len]) fun i o ho => ?_
  have hi : i < xs.length := by
    have := (List.getElem?_eq_some_iff.1 ho).1
    rwa [kids_len] at this
  rw [kids_at hi] at ho
  have := Option.some.inj ho
  subst this
  exact ⟨M + i, ids_at hi, _, h i hi, trc_flat hsc rfl⟩
end Go.VL
namespace Go.VL
open Go.RowKit
def shO (N : Nat) (o : Ob) : Ob := ⟨o.cs.map (shC N), o.t, o.live⟩
abbrev seg (N : Nat) (S : List Ob) : List Ob := S.map (shO N)
/-- A cell that leads nowhere but into the row. -/
def clC (n : Nat) : C → Bool
  | .mu id _ _ _ => decide (id < n)
  | .pt id _ => decide (id < n)
  | .v _ => true
  | .f _ _ => true
  | .any => true
  | _ => false
def clV1 (n : Nat) : V → Bool
  | .c x => clC n x
  | .agg cs => cs.all (clC n)
  | .any => true
  | .tup _ => false
theorem seg_at {A S B : List Ob} {i : Nat} {o : Ob} (h : S[i]? = some o) : (A ++ (seg A.length S ++ B))[A.length + i]? = some (shO A.length o) := by
  have hi := (List.getElem?_eq_some_iff.1 h).1
  rw [List.getElem?_append_right (by omega), Nat.add_sub_cancel_left, List.getElem?_append_left (by simpa using hi), List.getElem?_map, h]
  rfl
theorem sub_map {f : C → C} {cs : List C} {a b : Nat} : sub (cs.map f) a b = (sub cs a b).map f := by
  unfold sub
  rw [← List.map_drop, ← List.map_take]
theorem Dn.seg {b : Bool} {A S B : List Ob} {gone gone' : Nat → Prop} (hg : ∀ i, gone i → gone' (A.length + i)) {c c' : C} (h : Dn b S gone c c') : Dn b (A ++ (seg A.length S ++ B)) gone' (shC A.length c) c' := by
  induction h with
  | v => exact .v
  | f => exact .f
  | any => exact .any
  | sl h => exact .sl h
  | vw h => exact .vw h
  | mu ho hlive hgo hfit hl hc ih =>
    refine .mu (seg_at ho) hlive (hg _ hgo) (by simpa [shO] using hfit) hl fun j c c' h1 h2 => ?_
    simp only [shO] at h1
    rw [sub_map, List.getElem?_map, Option.map_eq_some_iff] at h1
    obtain ⟨c0, h1, rfl⟩ := h1
    exact ih j c0 c' h1 h2
  | pt ho hlive hgo hl hc ih =>
    refine .pt (seg_at ho) hlive (hg _ hgo) (by simpa [shO] using hl) fun j c c' h1 h2 => ?_
    simp only [shO] at h1
    rw [List.getElem?_map, Option.map_eq_some_iff] at h1
    obtain ⟨c0, h1, rfl⟩ := h1
    exact ih j c0 c' h1 h2
theorem shC_cl {n : Nat} {c : C} (h : clC n c = true) (N : Nat) (ids : List Nat) (M : Nat) (hid : ∀ i, i < n → ids[i]? = some (N + i)) : rnC ids M c = shC N c := by
  cases c with
  | mu id off m k =>
    have := hid id (by simpa [clC] using h)
    simp only [rnC, shC, rnI, this]
  | pt id off =>
    have := hid id (by simpa [clC] using h)
    simp only [rnC, shC, rnI, this]
  | _ => rfl
theorem gC_cl {n : Nat} {c : C} (h : clC n c = true) : gC c = true := by cases c <;> first | rfl | cases h
/-- A call that writes into a row alone, in the midst of others. -/
theorem CallC.of_seg {X : Cx} {g : FuncId} {args0 : List V} {S S' A B : List Ob} {r : V} (hp : DetC X g args0 S r S') (hlen : S'.length = S.length) (hl : ∀ o ∈ S, o.live = true) (hc : ∀ o ∈ S, ∀ c ∈ o.cs, clC S.length c = true) (hc' : ∀ o ∈ S', ∀ c ∈ o.cs, clC S.length c = true)
    (ha : ∀ v ∈ args0, clV1 S.length v = true) (hr : clV1 S.length r = true) {Q : V → List Ob → Prop} (hQ : Q (shV1 A.length r) (A ++ (seg A.length S' ++ B))) : CallC X g (args0.map (shV1 A.length)) (A ++ (seg A.length S ++ B)) Q := by
  let ids : List Nat := (List.range S.length).map (A.length + ·)
  have hid : ∀ i, i < S.length → ids[i]? = some (A.length + i) := fun i hi => by simp [ids, hi]
  have hidl : ids.length = S.length := by simp [ids]
  have hnd : ids.Nodup := by
    show List.Pairwise _ _
    exact List.pairwise_map.2 (List.nodup_range.imp fun h e => h (by omega))
  have hinv : ∀ i j, ids[i]? = some j → i < S.length ∧ j = A.length + i := fun i j h => by
    have hi : i < S.length := by
      have := (List.getElem?_eq_some_iff.1 h).1
      omega
    rw [hid i hi] at h
    exact ⟨hi, (Option.some.inj h).symm⟩
  have hgv : ∀ c, clC S.length c = true → Gv (A ++ (seg A.length S ++ B)) ids (shC A.length c) c := fun c h => by
    cases c with
    | mu id off m k => exact .mu (hid id (by simpa [clC] using h))
    | pt id off => exact .pt (hid id (by simpa [clC] using h))
    | v x => exact .dn .v rfl
    | f k x => exact .dn .f rfl
    | any => exact .dn .any rfl
    | _ => cases h
  have hgl : ∀ cs : List C, (∀ c ∈ cs, clC S.length c = true) → GvL (A ++ (seg A.length S ++ B)) ids (cs.map (shC A.length)) cs := fun cs => by
    induction cs with
    | nil => exact fun _ => .nil
    | cons c cs ih => exact fun h => .cons (hgv c (h c (by simp))) (ih fun x hx => h x (by simp [hx]))
  refine CallC.of_graph (ids := ids) hp hidl hnd (fun i j o0 h1 h2 => ?_) ?_ (fun r1 H1 h => ?_) fun r1 H1 h => ?_
  · obtain ⟨hi, rfl⟩ := hinv i j h1
    exact ⟨shO A.length o0, seg_at h2, hl o0 (List.mem_of_getElem? h2), hl o0 (List.mem_of_getElem? h2), rfl, hgl o0.cs (hc o0 (List.mem_of_getElem? h2))⟩
  · have : ∀ vs : List V, (∀ v ∈ vs, clV1 S.length v = true) → GvVs (A ++ (seg A.length S ++ B)) ids (vs.map (shV1 A.length)) vs := fun vs => by
      induction vs with
      | nil => exact fun _ => .nil
      | cons v vs ih =>
        refine fun h => .cons ?_ (ih fun x hx => h x (by simp [hx]))
        have hv := h v (by simp)
        cases v with
        | c x => exact .c (hgv x hv)
        | agg cs => exact .agg (hgl cs fun c hcm => List.all_eq_true.1 hv c hcm)
        | any => exact .any
        | tup vs => cases hv
    exact this args0 ha
  · obtain ⟨rfl, rfl⟩ := h
    refine ⟨?_, fun o ho _ c hcm => gC_cl (hc' o ho c hcm), by omega⟩
    cases r1 with
    | c x => exact gC_cl hr
    | agg cs => exact List.all_eq_true.2 fun c hcm => gC_cl (List.all_eq_true.1 hr c hcm)
    | any => rfl
    | tup vs => cases hr
  · obtain ⟨rfl, rfl⟩ := h
    have hM : ∀ i, i < S.length → ids[i]? = some (A.length + i) := hid
    have er : rnV ids (A ++ (seg A.length S ++ B)).length r1 = shV1 A.length r1 := by
      cases r1 with
      | c x => exact congrArg V.c (shC_cl hr _ _ _ hM)
      | agg cs => exact congrArg V.agg (List.map_congr_left fun c hcm => shC_cl (List.all_eq_true.1 hr c hcm) _ _ _ hM)
      | any => rfl
      | tup vs => cases hr
    have eo : ∀ o ∈ H1, rnO ids (A ++ (seg A.length S ++ B)).length o = shO A.length o := fun o ho => by
      unfold rnO shO
      congr 1
      exact List.map_congr_left fun c hcm => shC_cl (hc' o ho c hcm) _ _ _ hM
    have eg : graft ids (A ++ (seg A.length S ++ B)) H1 = A ++ (seg A.length H1 ++ B) := by
      have hlg := graft_len ids (A ++ (seg A.length S ++ B)) H1
      refine List.ext_getElem? fun x => ?_
      by_cases hx : x < (graft ids (A ++ (seg A.length S ++ B)) H1).length
      · have hxl : x < A.length + (S.length + B.length) := by
          rw [hlg] at hx
          simp only [List.length_append, List.length_map] at hx
          omega
        rw [List.getElem?_eq_getElem hx]
        have hgs := graft_spec hnd (fun j hj => by
          obtain ⟨i, hi⟩ := List.getElem?_of_mem hj
          obtain ⟨h1, rfl⟩ := hinv i j hi
          simp only [List.length_append, List.length_map]
          omega) (by omega) (List.getElem?_eq_getElem hx)
        rcases hgs with ⟨a1, a2, a3⟩ | ⟨i, o1, a1, a2, a3⟩ | ⟨i, o1, a1, a2, a3⟩
        · rw [← a3]
          by_cases hA : x < A.length
          · rw [List.getElem?_append_left hA, List.getElem?_append_left hA]
          · have hS : ¬ x < A.length + S.length := fun hlt => a2 (List.mem_of_getElem? (by rw [hid (x - A.length) (by omega), show A.length + (x - A.length) = x by omega]))
            have e1 : ∀ T : List Ob, T.length = S.length → (A ++ (seg A.length T ++ B))[x]? = B[x - A.length - S.length]? := fun T hT => by
              have hsl : (seg A.length T).length = S.length := by rw [List.length_map, hT]
              rw [List.getElem?_append_right (by omega), List.getElem?_append_right (by omega), hsl]
            rw [e1 S rfl, e1 H1 hlen]
        · obtain ⟨h1, rfl⟩ := hinv i x a1
          rw [seg_at a2, a3, eo o1 (List.mem_of_getElem? a2)]
        · simp only [List.length_append, List.length_map] at a1
          omega
      · rw [List.getElem?_eq_none (by omega), List.getElem?_eq_none]
        simp only [List.length_append, List.length_map]
        rw [hlg] at hx
        simp only [List.length_append, List.length_map] at hx
        omega
    rw [er, eg]
    exact hQ
/-! Rows, one behind the other -/
def glueA : Nat → List (List Ob) → List Ob
  | _, [] => []
  | N, S :: r => seg N S ++ glueA (N + S.length) r
def glue (segs : List (List Ob)) : List Ob := glueA 0 segs
/-- Where a row begins. -/
def offs : List (List Ob) → Nat → Nat
  | _, 0 => 0
  | [], _ + 1 => 0
  | S :: r, i + 1 => S.length + offs r i
theorem glueA_len : ∀ {segs : List (List Ob)} {M : Nat}, (glueA M segs).length = offs segs segs.length
  | [], _ => rfl
  | S :: r, M => by
    simp only [glueA, List.length_append, List.length_map, List.length_cons, offs]
    rw [glueA_len]
theorem glueA_split : ∀ {segs : List (List Ob)} {i M : Nat} {S : List Ob}, segs[i]? = some S → ∃ A B, A.length = offs segs i ∧ glueA M segs = A ++ (seg (M + offs segs i) S ++ B) ∧ ∀ S', S'.length = S.length → glueA M (segs.set i S') = A ++ (seg (M + offs segs i) S' ++ B)
  | [], i, M, S, h => by simp at h
  | T :: r, 0, M, S, h => by
    simp at h
    subst h
    exact ⟨[], glueA (M + T.length) r, rfl, rfl, fun S' h' => by
      simp only [List.set_cons_zero, glueA, offs, Nat.add_zero, h', List.nil_append]⟩
  | T :: r, i + 1, M, S, h => by
    obtain ⟨A, B, h1, h2, h3⟩ := glueA_split (segs := r) (i := i) (M := M + T.length) (S := S) (by simpa using h)
    refine ⟨seg M T ++ A, B, by simp [offs, h1], ?_, fun S' h' => ?_⟩
    · simp only [glueA, h2, offs, List.append_assoc, Nat.add_assoc]
    · simp only [List.set_cons_succ, glueA, h3 S' h', offs, List.append_assoc, Nat.add_assoc]
theorem glueA_snoc : ∀ {segs : List (List Ob)} {M : Nat} {S : List Ob}, glueA M (segs ++ [S]) = glueA M segs ++ seg (M + offs segs segs.length) S
  | [], M, S => by simp [glueA, offs]
  | T :: r, M, S => by
    simp only [List.cons_append, glueA, glueA_snoc (segs := r), List.append_assoc, List.length_cons, offs, Nat.add_assoc]
/-- What is seen of a row. -/
theorem vg {segs : List (List Ob)} {N : Nat} {S : List Ob} {c c' : C} (i : Nat) (hi : segs[i]? = some S) (hN : offs segs i = N) (h : Dn false S (fun _ => True) c c') (ho : c'.own = false) : VwV (glue segs) (.c (shC N c)) (.c c') := by
  subst hN
  obtain ⟨A, B, h1, h2, -⟩ := glueA_split (M := 0) hi
  rw [Nat.zero_add, ← h1] at h2
  unfold glue
  rw [h2, ← h1]
  exact .c (.dn (h.seg fun _ _ => trivial) ho)
section
variable {X : Cx} {all r : List Oper} {K : Sl → List Ob → Prop} {sl : Sl} {d : Tmp} {ty : TypeId} {ps : String} {af : Array Edge}
/-- A call that answers a row. -/
theorem vg_live {f : Operand} {args : Array Operand} {tys : Array TypeId} {g : FuncId} {caps : List C} {args' : List V} {res res' : V} {S : List Ob} (segs : List (List Ob)) {segs' : List (List Ob)} {N : Nat} (hp : LiveC X g args' res S) (hN : offs segs segs.length = N) (ha : ansV res = true) (hc : ∀ o ∈ S, ∀ c ∈ o.cs, ansC c = true) (hres : shV N res = res') (hH : segs ++ [S] = segs')
    (hf : rho X.G sl f = .c (.fn g caps)) {av : List V} (has : args.toList.map (rho X.G sl) ++ caps.map .c = av) (hv : Views (glue segs) av args') (h : vops X all r K (upd sl d res') (glue segs')) : vops X all (⟨some d, .call ⟨.value f, args, tys⟩, ty, ps, af, none⟩ :: r) K sl (glue segs) := by
  subst hN hH
  refine v_live hp glueA_len ha hc hres ?_ hf has hv h
  rw [glue, glue, glueA_snoc, Nat.zero_add]
  rfl
/-- A call that writes into a row. -/
theorem vg_det {f : Operand} {args : Array Operand} {tys : Array TypeId} {g : FuncId} {args0 : List V} {res res' : V} {S S' : List Ob} (segs : List (List Ob)) {segs' : List (List Ob)} {N : Nat} (i : Nat) (hp : DetC X g args0 S res S') (hi : segs[i]? = some S) (hN : offs segs i = N) (hlen : S'.length = S.length) (hl : ∀ o ∈ S, o.live = true) (hc : ∀ o ∈ S, ∀ c ∈ o.cs, clC S.length c = true) (hc' : ∀ o ∈ S', ∀ c ∈ o.cs, clC S.length c = true)
    (ha : ∀ v ∈ args0, clV1 S.length v = true) (hr : clV1 S.length res = true) (hres : shV1 N res = res') (hH : segs.set i S' = segs') (hf : rho X.G sl f = .c (.fn g [])) (has : args.toList.map (rho X.G sl) = args0.map (shV1 N)) (h : vops X all r K (upd sl d res') (glue segs')) :
    vops X all (⟨some d, .call ⟨.value f, args, tys⟩, ty, ps, af, none⟩ :: r) K sl (glue segs) := by
  subst hN hH hres
  obtain ⟨A, B, h1, h2, h3⟩ := glueA_split (M := 0) hi
  have h4 := h3 S' hlen
  rw [Nat.zero_add, ← h1] at h2 h4
  rw [← h1] at has h
  simp only [vops, vguard, vop, callOf, hf, target, putV, List.map_nil, List.append_nil]
  rw [has]
  unfold glue at h ⊢
  rw [h2]
  refine CallC.of_seg hp hlen hl hc hc' ha hr ?_
  rw [← h4]
  exact h
end
end Go.VL
namespace Go.VL
open Go.RowKit
section
variable {A Bs : List Ob} {P : Nat} (hP : A.length = P)
include hP
theorem pre_at {j : Nat} {o : Ob} (h : Bs[j]? = some o) : (A ++ Bs)[P + j]? = some o := by
  subst hP
  rw [List.getElem?_append_right (by omega), Nat.add_sub_cancel_left, h]
theorem pre_set {j : Nat} {o : Ob} : (A ++ Bs).set (P + j) o = A ++ Bs.set j o := by
  subst hP
  rw [List.set_append_right _ _ (by omega), Nat.add_sub_cancel_left]
theorem pre_len {m : Nat} (h : Bs.length = m) : (A ++ Bs).length = P + m := by
  subst hP h
  rw [List.length_append]
section
variable {X : Cx} {all r : List Oper} {K : Sl → List Ob → Prop} {sl : Sl} {d : Tmp} {ty : TypeId} {ps : String} {af : Array Edge}
theorem p_box {t : TypeId} {x : Operand} {L : Lay} {cs : List C} {H' : List Ob} (hL : X.lay t = some L) (hx : (rho X.G sl x).cells = some cs) (hH : Bs ++ [⟨cs, t, true⟩] = H') {m : Nat} (hm : Bs.length = m) (h : vops X all r K (upd sl d (.c (.pt (P + m) 0))) (A ++ H')) :
    vops X all (⟨some d, .box t x, ty, ps, af, none⟩ :: r) K sl (A ++ Bs) :=
  v_box hL hx (by rw [List.append_assoc, hH]) (pre_len hP hm) h
theorem p_alloc {t : TypeId} {L : Lay} {H' : List Ob} (hL : X.lay t = some L) (hH : Bs ++ [⟨L.zero.map cOf, t, true⟩] = H') {m : Nat} (hm : Bs.length = m) (h : vops X all r K (upd sl d (.c (.pt (P + m) 0))) (A ++ H')) :
    vops X all (⟨some d, .alloc t, ty, ps, af, none⟩ :: r) K sl (A ++ Bs) :=
  v_alloc hL (by rw [List.append_assoc, hH]) (pre_len hP hm) h
theorem p_store {t : TypeId} {a x : Operand} {L : Lay} {id off : Nat} {cs ocs : List C} {tt : TypeId} {H' : List Ob} (hL : X.lay t = some L) (ha : rho X.G sl a = .c (.pt (P + id) off)) (hx : (rho X.G sl x).cells = some cs) (ho : Bs[id]? = some ⟨ocs, tt, true⟩)
    (hl : Nat.beq cs.length L.size = true) (hf : Nat.ble (off + L.size) ocs.length = true) (hH : Bs.set id ⟨setCells ocs off cs, tt, true⟩ = H') (h : vops X all r K sl (A ++ H')) :
    vops X all (⟨none, .store t a x, ty, ps, af, none⟩ :: r) K sl (A ++ Bs) :=
  v_store hL ha hx (pre_at hP ho) hl hf (by rw [pre_set hP, hH]) h
theorem p_load_pt {t : TypeId} {x : Operand} {L : Lay} {id off : Nat} {cs : List C} {tt : TypeId} (v : V) (hL : X.lay t = some L) (hx : rho X.G sl x = .c (.pt (P + id) off)) (ho : Bs[id]? = some ⟨cs, tt, true⟩) (hl : Nat.ble (off + L.size) cs.length = true) (hv : mkV L.kind.agg (sub cs off L.size) = some v)
    (h : vops X all r K (upd sl d v) (A ++ Bs)) : vops X all (⟨some d, .load t x, ty, ps, af, none⟩ :: r) K sl (A ++ Bs) :=
  v_load_pt v hL hx (pre_at hP ho) hl hv h
theorem p_ag_load_pt {t : TypeId} {x : Operand} {L : Lay} {id off : Nat} {cs : List C} {tt : TypeId} (v : V) (hL : X.lay t = some L) (hx : rho X.G sl x = .c (.pt (P + id) off)) (ho : Bs[id]? = some ⟨cs, tt, true⟩) (hl : Nat.ble (off + L.size) cs.length = true) (hv : mkV L.kind.agg (sub cs off L.size) = some v) : evq X.lay (A ++ Bs) (rho X.G sl) (.load t x) = some v :=
  ag_load_pt v hL hx (pre_at hP ho) hl hv
theorem p_load_ptb {t : TypeId} {x : Operand} {L : Lay} {id off : Nat} {cs : List C} {tt : TypeId} {q : Bool} (hL : X.lay t = some L) (hx : rho X.G sl x = .c (.pt (P + id) off)) (ho : Bs[id]? = some ⟨cs, tt, true⟩) (hl : Nat.ble (off + L.size) cs.length = true) (hv : mkV L.kind.agg (sub cs off L.size) = some (.c (.v (.bool q))))
    (h1 : q = true → vops X all r K (upd sl d (.c (.v (.bool true)))) (A ++ Bs)) (h2 : q = false → vops X all r K (upd sl d (.c (.v (.bool false)))) (A ++ Bs)) : vops X all (⟨some d, .load t x, ty, ps, af, none⟩ :: r) K sl (A ++ Bs) :=
  v_load_ptb hL hx (pre_at hP ho) hl hv h1 h2
theorem p_lit {t e : TypeId} {m : Nat} {parts : Array (Nat × Operand)} {a b : Nat} {z : List Value} {L : Lay} (cs : List C) {k q : Nat} {H' : List Ob} (hL : X.lay t = some ⟨.slice e, a, b, z⟩) (hLe : X.lay e = some L) (hk : L.size = k)
    (hc : fillC (fun i => some (i * L.size, L.size)) (zeros L m) (parts.toList.map fun p => (p.1, rho X.G sl p.2)) = some cs) (h0 : 0 < L.size ∧ m * L.size ≤ 2 ^ 24) (hq : Bs.length = q) (hH : Bs ++ [⟨cs, e, true⟩] = H') (h : vops X all r K (upd sl d (.c (.mu (P + q) 0 m k))) (A ++ H')) :
    vops X all (⟨some d, .buildSlice t m parts, ty, ps, af, none⟩ :: r) K sl (A ++ Bs) :=
  v_lit cs hL hLe hk hc h0 (pre_len hP hq) (by rw [List.append_assoc, hH]) h
theorem p_live1 {f : Operand} {args : Array Operand} {tys : Array TypeId} {g : FuncId} {caps : List C} {args' : List V} {res res' : V} {t : TypeId} {cs : List C} {H' : List Ob} {N : Nat} (hp : LiveC X g args' res [⟨cs, t, true⟩]) (hsc : ∀ c ∈ cs, sc c = true) (hN : Bs.length = N) (ha : ansV res = true) (hres : shV (P + N) res = res') (hH : Bs ++ [⟨cs, t, true⟩] = H')
    (hf : rho X.G sl f = .c (.fn g caps)) {av : List V} (has : args.toList.map (rho X.G sl) ++ caps.map .c = av) (hv : Views (A ++ Bs) av args') (h : vops X all r K (upd sl d res') (A ++ H')) : vops X all (⟨some d, .call ⟨.value f, args, tys⟩, ty, ps, af, none⟩ :: r) K sl (A ++ Bs) :=
  v_live1 hp hsc (pre_len hP hN) ha hres (by rw [List.append_assoc, hH]) hf has hv h
/-- append of some cells, that lie behind the row, onto a slice that is in the row. -/
theorem p_app {s x : Operand} {t e e' : TypeId} {a b : Nat} {z : List Value} {L : Lay} {id idx m n k q : Nat} {ocs cs : List C} {A' H' : List Ob} (hL : X.lay t = some ⟨.slice e, a, b, z⟩) (hLe : X.lay e = some L) (hs : rho X.G sl s = .c (.mu id 0 m k)) (ho : A[id]? = some ⟨ocs, e, true⟩) (hx : rho X.G sl x = .c (.mu (P + idx) 0 n k)) (hox : Bs[idx]? = some ⟨cs, e', true⟩) (hz : cs.length = n * k)
    (hk : L.size = k) (hk0 : 0 < k) (hm : ocs.length = m * k) (hn : m + n ≤ maxLen ∧ (m + n) * L.bytes ≤ 140737488355328) (hq : Bs.length = q) (hA : A.set id ⟨ocs, e, false⟩ = A') (hH : Bs ++ [⟨ocs ++ cs, e, true⟩] = H') (h : vops X all r K (upd sl d (.c (.mu (P + q) 0 (m + n) k))) (A' ++ H')) :
    vops X all (⟨some d, .call ⟨.builtin .append, #[s, x], #[t, t]⟩, ty, ps, af, none⟩ :: r) K sl (A ++ Bs) := by
  have hil := (List.getElem?_eq_some_iff.1 ho).1
  refine v_app_mu hL hLe hs (ho := by rw [List.getElem?_append_left hil]; exact ho) (cs := cs) ?_ hk hk0 hm hn (pre_len hP hq) ?_ h
  · have hsub : sub cs 0 (n * k) = cs := by unfold sub; rw [← hz]; simp
    simp only [srcOf, hx, pre_at hP hox]
    rw [if_pos ⟨trivial, by omega⟩, hsub]
  · rw [List.set_append_left _ _ hil, hA, List.append_assoc, hH]
end
end
/-! A list of things that have a live slice each, grown by one. -/
theorem trc_appL {H : List Ob} {g : List (Option Nat)} {cs cs' ds ds' : List C} (h : TrC H g cs cs') (h2 : TrC H g ds ds') : TrC H g (cs ++ ds) (cs' ++ ds') := by
  induction h with
  | nil => exact h2
  | cons h hs ih => exact .cons h ih
  | stay hst =>
    rename_i es
    induction es with
    | nil => exact h2
    | cons e es ih => exact .cons (.c (.stay (hst e (by simp)))) (ih fun c hc => hst c (by simp [hc]))
theorem trc_refsL {α β : Type} {kid : α → List β} {k : Nat} {rest : α → List C} {H : List Ob} {g : List (Option Nat)} (hr : ∀ x, (rest x).all fz = true) : ∀ {xs : List α} {N M : Nat}, (∀ i, i < xs.length → g[N + i]? = some (some (M + i))) → TrC H g (refs kid k rest M xs) (refs kid k rest N xs)
  | [], _, _, _ => .nil
  | x :: r, N, M, h => by
    refine trc_appL (.cons (tr_mu (by simpa using h 0 (by simp))) (.stay fun c hc => stays_fz (List.all_eq_true.1 (hr x) c hc))) (trc_refsL hr fun i hi => ?_)
    have h1 := h (i + 1) (by simpa using hi)
    rwa [show N + (i + 1) = N + 1 + i by omega, show M + (i + 1) = M + 1 + i by omega] at h1
section
variable {α β : Type} {kid : α → List β} {enc : β → List C} {k : Nat} {tt : TypeId} {rest : α → List C}
theorem turn_grow {H : List Ob} {xs : List α} {x : α} {i new knew : Nat} {t : TypeId} {cs : List C} (hsc : ∀ a, (enc a).all sc = true) (hr : ∀ x, (rest x).all fz = true) (hi : xs.length = i) (hnew : H[new]? = some ⟨cs, t, true⟩) (hcs : cs = refs kid k rest 1 xs ++ (.mu knew 0 (kid x).length k :: rest x)) (hk : ∀ q (h : q < xs.length), H[1 + q]? = some ⟨flat enc (kid xs[q]), tt, true⟩) (hkn : H[knew]? = some ⟨flat enc (kid x), tt, true⟩) :
    TurnO H (some new :: (ids 1 i ++ [some knew])) (some new :: (ids 1 i ++ [some knew])) (⟨refs kid k rest 1 (xs ++ [x]), t, true⟩ :: kids kid enc tt (xs ++ [x])) := by
  subst hi hcs
  have hat : ∀ q, q < xs.length → (some new :: (ids 1 xs.length ++ [some knew]))[1 + q]? = some (some (1 + q)) := fun q hq => by
    rw [Nat.add_comm 1 q, List.getElem?_cons_succ, List.getElem?_append_left (by rw [ids_len]; exact hq), ids_at hq, Nat.add_comm 1 q]
  have hlast : (some new :: (ids 1 xs.length ++ [some knew]))[1 + xs.length]? = some (some knew) := by
    rw [Nat.add_comm 1, List.getElem?_cons_succ, List.getElem?_append_right (by rw [ids_len]; exact Nat.le_refl _), ids_len, Nat.sub_self]
    rfl
  refine ⟨⟨_, hnew, ?_⟩, ?_⟩
  · rw [refs_app]
    refine trc_appL (trc_refsL hr hat) ?_
    simp only [refs, List.append_nil]
    exact .cons (tr_mu hlast) (.stay fun c hc => stays_fz (List.all_eq_true.1 (hr x) c hc))
  · rw [kids_app]
    exact turno_app (turno_kids hsc hk) ⟨⟨_, hkn, trc_flat hsc rfl⟩, trivial⟩
theorem nodup_grow {i new knew : Nat} (h1 : i < knew) (h2 : knew < new) : nodupO (some new :: (ids 1 i ++ [some knew])) = true := by
  have h3 : ∀ (M n : Nat), M + n ≤ knew → nodupO (ids M n ++ [some knew]) = true := fun M n => by
    induction n generalizing M with
    | zero => intro _; rfl
    | succ n ih =>
      intro hm
      have e : ids M (n + 1) = some M :: ids (M + 1) n := by
        unfold ids
        rw [List.range_succ_eq_map, List.map_cons, List.map_map]
        congr 1
        refine List.map_congr_left fun i _ => ?_
        simp only [Function.comp, Nat.succ_eq_add_one]
        congr 1
        omega
      rw [e, List.cons_append]
      simp only [nodupO, Bool.and_eq_true, Bool.not_eq_true', List.contains_eq_mem, decide_eq_false_iff_not]
      refine ⟨fun h => ?_, ih (M + 1) (by omega)⟩
      rcases List.mem_append.1 h with h | h
      · obtain ⟨i, -, hi⟩ := List.mem_map.1 h
        simp only [Option.some.injEq] at hi
        omega
      · simp only [List.mem_singleton, Option.some.injEq] at h
        omega
  simp only [nodupO, Bool.and_eq_true, Bool.not_eq_true', List.contains_eq_mem, decide_eq_false_iff_not]
  refine ⟨fun h => ?_, h3 1 i (by omega)⟩
  rcases List.mem_append.1 h with h | h
  · obtain ⟨q, hq, hi⟩ := List.mem_map.1 h
    have := List.mem_range.1 hq
    simp only [Option.some.injEq] at hi
    omega
  · simp only [List.mem_singleton, Option.some.injEq] at h
    omega
theorem lt_grow {i new knew m : Nat} (h0 : i + 1 ≤ m) (h1 : knew < m) (h2 : new < m) : ((some new :: (ids 1 i ++ [some knew])).all fun x => match x with | some i => Nat.blt i m | none => true) = true := by
  refine List.all_eq_true.2 fun x hx => ?_
  rcases List.mem_cons.1 hx with rfl | hx
  · exact Nat.ble_eq_true_of_le (by omega)
  · rcases List.mem_append.1 hx with hx | hx
    · obtain ⟨q, hq, rfl⟩ := List.mem_map.1 hx
      have := List.mem_range.1 hq
      exact Nat.ble_eq_true_of_le (by omega)
    · simp only [List.mem_singleton] at hx
      subst hx
      exact Nat.ble_eq_true_of_le (by omega)
end
end Go.VL
namespace Go.VL
open Go.RowKit
section
variable {X : Cx} {all r : List Oper} {K : Sl → List Ob → Prop} {sl : Sl} {H : List Ob} {ty : TypeId} {ps : String} {af : Array Edge}
theorem v_clear {α : Type} {enc : α → List C} {ys : List α} {s : Operand} {t e : TypeId} {a b : Nat} {z : List Value} {L : Lay} {id m k : Nat} {tt : TypeId} (a0 : α) {H' : List Ob} (l : Nat) (he : ∀ a, (enc a).length = k) (hz : enc a0 = L.zero.map cOf) (hL : X.lay t = some ⟨.slice e, a, b, z⟩) (hLe : X.lay e = some L) (hk : L.size = k)
    (hs : rho X.G sl s = .c (.mu id (l * k) m k)) (ho : H[id]? = some ⟨flat enc ys, tt, true⟩) (hb : l + m ≤ ys.length) (hH : H.set id ⟨flat enc (ys.take l ++ List.replicate m a0 ++ ys.drop (l + m)), tt, true⟩ = H') (h : vops X all r K sl H') :
    vops X all (⟨none, .call ⟨.builtin .clear, #[s], #[t]⟩, ty, ps, af, none⟩ :: r) K sl H := by
  have hl : l * k + m * k ≤ (flat enc ys).length := by
    rw [flat_length he, ← Nat.add_mul]
    exact Nat.mul_le_mul_right _ hb
  refine v_e (f := ⟨.any, H', L.size = k ∧ true = true ∧ l * k + m * k ≤ (flat enc ys).length⟩) rfl rfl ?_ ⟨hk, rfl, hl⟩ rfl rfl h
  simp only [eve, hL, hLe, hs, ho]
  have hzf : zeros L m = flat enc (List.replicate m a0) := zeros_flat hz m
  have hc : setCells (flat enc ys) (l * k) (zeros L m) = flat enc (ys.take l ++ List.replicate m a0 ++ ys.drop (l + m)) := by
    have e1 : flat enc ys = flat enc (ys.take l) ++ (flat enc ((ys.drop l).take m) ++ flat enc (ys.drop (l + m))) := by
      rw [← flat_append, ← flat_append, ← List.drop_drop, List.take_append_drop, List.take_append_drop]
    have l1 : (flat enc (ys.take l)).length = l * k := by rw [flat_length he, List.length_take, Nat.min_eq_left (by omega)]
    have l2 : (flat enc ((ys.drop l).take m)).length = m * k := by rw [flat_length he, List.length_take, List.length_drop, Nat.min_eq_left (by omega)]
    have l3 : (flat enc (List.replicate m a0)).length = m * k := by rw [flat_length he, List.length_replicate]
    rw [hzf, flat_append, flat_append, e1]
    unfold setCells
    rw [l3]
    generalize flat enc (ys.take l) = A at l1 ⊢
    generalize flat enc ((ys.drop l).take m) = B at l2 ⊢
    rw [← l1, List.take_left, ← l2, ← List.drop_drop, List.drop_left, List.drop_left]
  rw [hc, hH]
theorem v_clear_end {s : Operand} {t e : TypeId} {a b : Nat} {z : List Value} {L : Lay} {o : Bool} {k : Nat} {cs : List C} (hL : X.lay t = some ⟨.slice e, a, b, z⟩) (hLe : X.lay e = some L) (hs : rho X.G sl s = .c (.sl o 0 k cs)) (h : vops X all r K sl H) :
    vops X all (⟨none, .call ⟨.builtin .clear, #[s], #[t]⟩, ty, ps, af, none⟩ :: r) K sl H :=
  v_e (f := ⟨.any, H, 0 = 0⟩) rfl rfl (by simp only [eve, hL, hLe, hs]) rfl rfl rfl h
end
/-- The first elements of a live slice, answered. -/
theorem a_flat_pre {α : Type} {enc : α → List C} {H : List Ob} {id q off k : Nat} {zs xs : List α} {t : TypeId} (hsc : ∀ a, (enc a).all sc = true) (he : ∀ a, (enc a).length = k) (ho : H[id]? = some ⟨flat enc zs, t, true⟩) (hoff : off = 0) (hx : zs.take q = xs) (hl : q ≤ zs.length) : TrV H [] (.c (.mu id off q k)) (.c (.sl true q k (flat enc xs))) := by
  subst hoff hx
  have h1 : q * k ≤ (flat enc zs).length := by rw [flat_length he]; exact Nat.mul_le_mul_right _ hl
  have hsub : sub (flat enc zs) 0 (q * k) = flat enc (zs.take q) := by
    have h2 : (flat enc (zs.take q)).length = q * k := by rw [flat_length he, List.length_take, Nat.min_eq_left hl]
    have e1 : flat enc zs = flat enc (zs.take q) ++ flat enc (zs.drop q) := by rw [← flat_append, List.take_append_drop]
    unfold sub
    rw [List.drop_zero, e1, ← h2, List.take_left]
  refine .c (.dn (.mu ho rfl gone_nil (by simpa using h1) (by rw [flat_length he, List.length_take, Nat.min_eq_left hl]) fun j c c' h2 h3 => ?_))
  simp only [] at h2
  rw [hsub] at h2
  have := Option.some.inj (h2.symm.trans h3)
  subst this
  exact Dn.sc (sc_flat hsc _ c (List.mem_of_getElem? h2))
theorem tr_fnp {H : List Ob} {gg : List (Option Nat)} {g : FuncId} {i j o : Nat} (h : gg[j]? = some (some i)) : TrV H gg (.c (.fn g [.pt i o])) (.c (.fn g [.pt j o])) := .c (.fn rfl (fun q c c' h1 h2 => by
  match q, h1, h2 with
  | 0, h1, h2 =>
    simp only [List.getElem?_cons_zero, Option.some.injEq] at h1 h2
    subst h1 h2
    exact .pt h
  | q + 1, h1, _ => simp at h1))
end Go.VL
namespace Go.VL
open Go.RowKit
def fe (x : Option Nat) : List C := [.f .f32 x]
theorem fe_len (x : Option Nat) : (fe x).length = 1 := rfl
theorem fe_sc (x : Option Nat) : (fe x).all sc = true := rfl
abbrev flo (o : Bool) (xs : List (Option Nat)) : C := .sl o xs.length 1 (flat fe xs)
theorem fe_inj {x y : Option Nat} : fe x = fe y ↔ x = y := by simp [fe]
section
variable {n : Nat} {α : Type}
def putF (g : Fin n → α) (i : Nat) (b : α) : Fin n → α := fun j => if j.val = i then b else g j
/-- The first i of one, the others of the other. -/
def mixF (i : Nat) (g h : Fin n → α) : Fin n → α := fun j => if j.val < i then g j else h j
theorem mixF_0 (g h : Fin n → α) : mixF 0 g h = h := by funext j; simp [mixF]
theorem mixF_all (g h : Fin n → α) : mixF n g h = g := by funext j; simp [mixF, j.isLt]
theorem mixF_put (g h : Fin n → α) {i : Nat} (hi : i < n) : putF (mixF i g h) i (g ⟨i, hi⟩) = mixF (i + 1) g h := by
  funext j
  unfold putF mixF
  by_cases e : j.val = i
  · have : j = ⟨i, hi⟩ := Fin.ext e
    subst this
    simp
  · rw [if_neg e]
    by_cases h1 : j.val < i
    · rw [if_pos h1, if_pos (by omega)]
    · rw [if_neg h1, if_neg (by omega)]
theorem fin_ext {g h : Fin n → α} : g = h ↔ ∀ i (hi : i < n), g ⟨i, hi⟩ = h ⟨i, hi⟩ := ⟨fun e i hi => by rw [e], fun e => by funext ⟨i, hi⟩; exact e i hi⟩
end
instance {n : Nat} {α : Type} [DecidableEq α] : DecidableEq (Fin n → α) := fun g h => decidable_of_iff (∀ i : Fin n, g i = h i) ⟨funext, fun e i => by rw [e]⟩
def l4 {α : Type} (g : Fin 4 → α) : List α := [g 0, g 1, g 2, g 3]
theorem l4_len {α : Type} (g : Fin 4 → α) : (l4 g).length = 4 := rfl
theorem l4_get {α : Type} (g : Fin 4 → α) {i : Nat} (h : i < 4) : (l4 g)[i]'(by rw [l4_len]; exact h) = g ⟨i, h⟩ := by
  match i, h with
  | 0, _ => rfl
  | 1, _ => rfl
  | 2, _ => rfl
  | 3, _ => rfl
theorem l4_set {α : Type} (g : Fin 4 → α) {i : Nat} (h : i < 4) (b : α) : (l4 g).set i b = l4 (putF g i b) := by
  match i, h with
  | 0, _ => rfl
  | 1, _ => rfl
  | 2, _ => rfl
  | 3, _ => rfl
theorem l4_inj {α : Type} {g h : Fin 4 → α} : l4 g = l4 h ↔ g = h := ⟨fun e => fin_ext.2 fun i hi => by
  have h1 := l4_get g hi
  have h2 := l4_get h hi
  rw [← h1, ← h2]
  simp only [e], fun e => by rw [e]⟩
def l16 {α : Type} (g : Fin 16 → α) : List α := [g 0, g 1, g 2, g 3, g 4, g 5, g 6, g 7, g 8, g 9, g 10, g 11, g 12, g 13, g 14, g 15]
theorem l16_len {α : Type} (g : Fin 16 → α) : (l16 g).length = 16 := rfl
theorem l16_get {α : Type} (g : Fin 16 → α) {i : Nat} (h : i < 16) : (l16 g)[i]'(by rw [l16_len]; exact h) = g ⟨i, h⟩ := by
  match i, h with
  | 0, _ => rfl
  | 1, _ => rfl
  | 2, _ => rfl
  | 3, _ => rfl
  | 4, _ => rfl
  | 5, _ => rfl
  | 6, _ => rfl
  | 7, _ => rfl
  | 8, _ => rfl
  | 9, _ => rfl
  | 10, _ => rfl
  | 11, _ => rfl
  | 12, _ => rfl
  | 13, _ => rfl
  | 14, _ => rfl
  | 15, _ => rfl
  | k + 16, h => exact absurd h (by omega)
theorem l16_set {α : Type} (g : Fin 16 → α) {i : Nat} (h : i < 16) (b : α) : (l16 g).set i b = l16 (putF g i b) := by
  match i, h with
  | 0, _ => rfl
  | 1, _ => rfl
  | 2, _ => rfl
  | 3, _ => rfl
  | 4, _ => rfl
  | 5, _ => rfl
  | 6, _ => rfl
  | 7, _ => rfl
  | 8, _ => rfl
  | 9, _ => rfl
  | 10, _ => rfl
  | 11, _ => rfl
  | 12, _ => rfl
  | 13, _ => rfl
  | 14, _ => rfl
  | 15, _ => rfl
  | k + 16, h => exact absurd h (by omega)
theorem l16_inj {α : Type} {g h : Fin 16 → α} : l16 g = l16 h ↔ g = h := ⟨fun e => fin_ext.2 fun i hi => by
  have h1 := l16_get g hi
  have h2 := l16_get h hi
  rw [← h1, ← h2]
  simp only [e], fun e => by rw [e]⟩
abbrev Fo := Fin 4 → Option Nat
abbrev foc (g : Fo) : List C := [.f .f32 (g 0), .f .f32 (g 1), .f .f32 (g 2), .f .f32 (g 3)]
theorem fo_flat (g : Fo) : foc g = flat fe (l4 g) := rfl
theorem foc_sub (g : Fo) (r : List C) {i : Nat} (h : i < 4) : sub (foc g ++ r) i 1 = [.f .f32 (g ⟨i, h⟩)] := by
  match i, h with
  | 0, _ => rfl
  | 1, _ => rfl
  | 2, _ => rfl
  | 3, _ => rfl
theorem foc_set (g : Fo) (r : List C) {i : Nat} (h : i < 4) (b : Option Nat) : setCells (foc g ++ r) i [.f .f32 b] = foc (putF g i b) ++ r := by
  match i, h with
  | 0, _ => rfl
  | 1, _ => rfl
  | 2, _ => rfl
  | 3, _ => rfl
abbrev Ca := Fin 16 → Option Nat
abbrev cac (g : Ca) : List C := [.f .f32 (g 0), .f .f32 (g 1), .f .f32 (g 2), .f .f32 (g 3), .f .f32 (g 4), .f .f32 (g 5), .f .f32 (g 6), .f .f32 (g 7), .f .f32 (g 8), .f .f32 (g 9), .f .f32 (g 10), .f .f32 (g 11), .f .f32 (g 12), .f .f32 (g 13), .f .f32 (g 14), .f .f32 (g 15)]
theorem ca_flat (g : Ca) : cac g = flat fe (l16 g) := rfl
theorem cac_sub (g : Ca) (r : List C) {i : Nat} (h : i < 16) : sub (cac g ++ r) i 1 = [.f .f32 (g ⟨i, h⟩)] := by
  match i, h with
  | 0, _ => rfl
  | 1, _ => rfl
  | 2, _ => rfl
  | 3, _ => rfl
  | 4, _ => rfl
  | 5, _ => rfl
  | 6, _ => rfl
  | 7, _ => rfl
  | 8, _ => rfl
  | 9, _ => rfl
  | 10, _ => rfl
  | 11, _ => rfl
  | 12, _ => rfl
  | 13, _ => rfl
  | 14, _ => rfl
  | 15, _ => rfl
  | k + 16, h => exact absurd h (by omega)
theorem cac_set (g : Ca) (r : List C) {i : Nat} (h : i < 16) (b : Option Nat) : setCells (cac g ++ r) i [.f .f32 b] = cac (putF g i b) ++ r := by
  match i, h with
  | 0, _ => rfl
  | 1, _ => rfl
  | 2, _ => rfl
  | 3, _ => rfl
  | 4, _ => rfl
  | 5, _ => rfl
  | 6, _ => rfl
  | 7, _ => rfl
  | 8, _ => rfl
  | 9, _ => rfl
  | 10, _ => rfl
  | 11, _ => rfl
  | 12, _ => rfl
  | 13, _ => rfl
  | 14, _ => rfl
  | 15, _ => rfl
  | k + 16, h => exact absurd h (by omega)
theorem f4_ld (g : Fo) {i : Nat} (h : i < 4) (h' : i < (l4 g).length) : mkV false (sub (fe ((l4 g)[i]'h')) 0 1) = some (.c (.f .f32 (g ⟨i, h⟩))) := by
  rw [l4_get g h]
  rfl
theorem f16_ld (g : Ca) {i : Nat} (h : i < 16) (h' : i < (l16 g).length) : mkV false (sub (fe ((l16 g)[i]'h')) 0 1) = some (.c (.f .f32 (g ⟨i, h⟩))) := by
  rw [l16_get g h]
  rfl
/-- Rows of four. -/
abbrev Fl := Fin 4 → Fo
theorem foc_len (g : Fo) : (foc g).length = 4 := rfl
theorem foc_sc (g : Fo) : (foc g).all sc = true := rfl
abbrev flc (T : Fl) : List C := [.f .f32 (T 0 0), .f .f32 (T 0 1), .f .f32 (T 0 2), .f .f32 (T 0 3), .f .f32 (T 1 0), .f .f32 (T 1 1), .f .f32 (T 1 2), .f .f32 (T 1 3), .f .f32 (T 2 0), .f .f32 (T 2 1), .f .f32 (T 2 2), .f .f32 (T 2 3), .f .f32 (T 3 0), .f .f32 (T 3 1), .f .f32 (T 3 2), .f .f32 (T 3 3)]
theorem fl_flat (T : Fl) : flc T = flat foc (l4 T) := rfl
theorem r4_ld (T : Fl) {i : Nat} (h : i < 4) (h' : i < (l4 T).length) : mkV true (sub (foc ((l4 T)[i]'h')) 0 4) = some (.agg (foc (T ⟨i, h⟩))) := by
  rw [l4_get T h]
  rfl
theorem fl_ld (T : Fl) {i k : Nat} (h : i < 4) (hk : k < 4) (h' : i < (l4 T).length) : mkV false (sub (foc ((l4 T)[i]'h')) k 1) = some (.c (.f .f32 (T ⟨i, h⟩ ⟨k, hk⟩))) := by
  rw [l4_get T h]
  have e : sub (foc (T ⟨i, h⟩)) k 1 = [.f .f32 (T ⟨i, h⟩ ⟨k, hk⟩)] := by
    simpa using foc_sub (T ⟨i, h⟩) [] hk
  rw [e]
  rfl
theorem flc_sub (T : Fl) (r : List C) {i k : Nat} (h : i < 4) (hk : k < 4) : sub (flc T ++ r) (i * 4 + k) 1 = [.f .f32 (T ⟨i, h⟩ ⟨k, hk⟩)] := by
  match i, h, k, hk with
  | 0, _, 0, _ => rfl
  | 0, _, 1, _ => rfl
  | 0, _, 2, _ => rfl
  | 0, _, 3, _ => rfl
  | 1, _, 0, _ => rfl
  | 1, _, 1, _ => rfl
  | 1, _, 2, _ => rfl
  | 1, _, 3, _ => rfl
  | 2, _, 0, _ => rfl
  | 2, _, 1, _ => rfl
  | 2, _, 2, _ => rfl
  | 2, _, 3, _ => rfl
  | 3, _, 0, _ => rfl
  | 3, _, 1, _ => rfl
  | 3, _, 2, _ => rfl
  | 3, _, 3, _ => rfl
theorem flc_row (T : Fl) (r : List C) {i : Nat} (h : i < 4) : sub (flc T ++ r) (i * 4) 4 = foc (T ⟨i, h⟩) := by
  match i, h with
  | 0, _ => rfl
  | 1, _ => rfl
  | 2, _ => rfl
  | 3, _ => rfl
end Go.VL
namespace Go.VL
open Go.RowKit
section
variable {X : Cx} {all r : List Oper} {K : Sl → List Ob → Prop} {sl : Sl} {H : List Ob} {d : Tmp} {ty : TypeId} {ps : String} {af : Array Edge}
theorem v_slice_arr {t e : TypeId} {x : Operand} {n a b : Nat} {z : List Value} {id off k : Nat} {L : Lay} {ob : Ob} (hL : X.lay t = some ⟨.array n e, a, b, z⟩) (hLe : X.lay e = some L) (hk : L.size = k) (hx : rho X.G sl x = .c (.pt id off)) (hob : H[id]? = some ob) (hlive : ob.live = true)
    (hn : n ≤ maxLen) (hf : off + n * k ≤ ob.cs.length) (h : vops X all r K (upd sl d (.c (.mu id off n k))) H) : vops X all (⟨some d, .slice t x none none none, ty, ps, af, none⟩ :: r) K sl H := by
  subst hk
  refine v_q _ rfl ?_ h
  simp only [evq, hL, hx, hLe, bnd, hob]
  rw [if_pos ⟨by omega, by omega, by omega, hn, hlive, hf, .inl trivial⟩]
  simp
theorem v_slice_av {t e : TypeId} {x : Operand} {n a b : Nat} {z : List Value} {o : Bool} {off k : Nat} {cs cs' : List C} {L : Lay} (hL : X.lay t = some ⟨.array n e, a, b, z⟩) (hLe : X.lay e = some L) (hk : L.size = k) (hx : rho X.G sl x = .c (.vw o cs off)) (hk0 : 0 < k)
    (hn : n ≤ maxLen) (hf : off + n * k ≤ cs.length) (hs : sub cs off (n * k) = cs') (h : vops X all r K (upd sl d (.c (.sl o n k cs'))) H) : vops X all (⟨some d, .slice t x none none none, ty, ps, af, none⟩ :: r) K sl H := by
  subst hk hs
  refine v_q _ rfl ?_ h
  simp only [evq, hL, hx, hLe, bnd]
  rw [if_pos ⟨hk0, by omega, by omega, by omega, hn, hf⟩]
  simp
end
/-- A part of an object, seen as a frozen list. -/
theorem vw_part {α : Type} {H : List Ob} {enc : α → List C} {id off n k : Nat} {xs : List α} {ob : Ob} (hsc : ∀ a, (enc a).all sc = true) (ho : H[id]? = some ob) (hlive : ob.live = true) (hs : sub ob.cs off (n * k) = flat enc xs) (hf : off + n * k ≤ ob.cs.length) : VwV H (.c (.mu id off n k)) (.c (.sl false n k (flat enc xs))) :=
  vw_dn (.mu ho hlive trivial hf (by rw [← hs, sub_length hf]) fun j c c' h1 h2 => by
    rw [hs, h2] at h1
    simp only [Option.some.injEq] at h1
    subst h1
    exact Dn.sc (sc_flat hsc xs _ (List.mem_of_getElem? h2))) rfl
end Go.VL
set_option maxRecDepth 20000
namespace Go.VL
open Go.RowKit
def layT : List (TypeId × Lay) := [
  (1, ⟨.other, 1, 8, [.nilFunc]⟩),
  (2, ⟨.int .i64, 1, 8, [.int .i64 0]⟩),
  (3, ⟨.int .i64, 1, 8, [.int .i64 0]⟩),
  (4, ⟨.bool, 1, 1, [.bool false]⟩),
  (5, ⟨.int .u8, 1, 1, [.int .u8 0]⟩),
  (6, ⟨.int .u8, 1, 1, [.int .u8 0]⟩),
  (7, ⟨.struct [(2, 0), (3, 1), (4, 2), (6, 3)], 4, 24, [.int .i64 0, .int .i64 0, .bool false, .int .u8 0]⟩),
  (8, ⟨.struct [(2, 0), (3, 1), (4, 2), (6, 3)], 4, 24, [.int .i64 0, .int .i64 0, .bool false, .int .u8 0]⟩),
  (9, ⟨.string, 1, 16, [.string ⟨#[]⟩]⟩),
  (10, ⟨.string, 1, 16, [.string ⟨#[]⟩]⟩),
  (11, ⟨.string, 1, 16, [.string ⟨#[]⟩]⟩),
  (12, ⟨.int .u64, 1, 8, [.int .u64 0]⟩),
  (13, ⟨.struct [(9, 0), (12, 1)], 2, 24, [.string ⟨#[]⟩, .int .u64 0]⟩),
  (14, ⟨.struct [(9, 0), (12, 1)], 2, 24, [.string ⟨#[]⟩, .int .u64 0]⟩),
  (15, ⟨.other, 1, 8, [.pointer none]⟩),
  (16, ⟨.other, 1, 8, [.pointer none]⟩),
  (17, ⟨.other, 1, 8, [.pointer none]⟩),
  (18, ⟨.struct [(17, 0)], 1, 8, [.pointer none]⟩),
  (19, ⟨.struct [(17, 0)], 1, 8, [.pointer none]⟩),
  (21, ⟨.int .i32, 1, 4, [.int .i32 0]⟩),
  (22, ⟨.slice 155, 1, 24, [.slice none 0 0]⟩),
  (23, ⟨.slice 26, 1, 24, [.slice none 0 0]⟩),
  (24, ⟨.slice 142, 1, 24, [.slice none 0 0]⟩),
  (25, ⟨.slice 146, 1, 24, [.slice none 0 0]⟩),
  (26, ⟨.float .f32, 1, 4, [.float .f32 0]⟩),
  (27, ⟨.struct [(22, 0), (23, 1), (24, 2), (25, 3), (2, 4), (26, 5), (26, 6)], 7, 112, [.slice none 0 0, .slice none 0 0, .slice none 0 0, .slice none 0 0, .int .i64 0, .float .f32 0, .float .f32 0]⟩),
  (28, ⟨.struct [(22, 0), (23, 1), (24, 2), (25, 3), (2, 4), (26, 5), (26, 6)], 7, 112, [.slice none 0 0, .slice none 0 0, .slice none 0 0, .slice none 0 0, .int .i64 0, .float .f32 0, .float .f32 0]⟩),
  (29, ⟨.other, 1, 8, [.nilFunc]⟩),
  (30, ⟨.other, 1, 8, [.nilFunc]⟩),
  (31, ⟨.slice 73, 1, 24, [.slice none 0 0]⟩),
  (32, ⟨.slice 56, 1, 24, [.slice none 0 0]⟩),
  (33, ⟨.slice 68, 1, 24, [.slice none 0 0]⟩),
  (34, ⟨.struct [(31, 0), (23, 1), (32, 2), (33, 3), (2, 4), (26, 5), (26, 6)], 7, 112, [.slice none 0 0, .slice none 0 0, .slice none 0 0, .slice none 0 0, .int .i64 0, .float .f32 0, .float .f32 0]⟩),
  (35, ⟨.struct [(31, 0), (23, 1), (32, 2), (33, 3), (2, 4), (26, 5), (26, 6)], 7, 112, [.slice none 0 0, .slice none 0 0, .slice none 0 0, .slice none 0 0, .int .i64 0, .float .f32 0, .float .f32 0]⟩),
  (36, ⟨.other, 1, 8, [.nilFunc]⟩),
  (37, ⟨.other, 1, 8, [.nilFunc]⟩),
  (38, ⟨.other, 1, 8, [.nilFunc]⟩),
  (40, ⟨.other, 1, 8, [.nilFunc]⟩),
  (41, ⟨.other, 1, 8, [.nilFunc]⟩),
  (42, ⟨.float .f64, 1, 8, [.float .f64 0]⟩),
  (44, ⟨.other, 1, 8, [.nilFunc]⟩),
  (45, ⟨.slice 5, 1, 24, [.slice none 0 0]⟩),
  (46, ⟨.other, 1, 8, [.nilFunc]⟩),
  (47, ⟨.other, 1, 8, [.nilFunc]⟩),
  (48, ⟨.array 4 26, 4, 16, [.float .f32 0, .float .f32 0, .float .f32 0, .float .f32 0]⟩),
  (49, ⟨.array 4 48, 16, 64, [.float .f32 0, .float .f32 0, .float .f32 0, .float .f32 0, .float .f32 0, .float .f32 0, .float .f32 0, .float .f32 0, .float .f32 0, .float .f32 0, .float .f32 0, .float .f32 0, .float .f32 0, .float .f32 0, .float .f32 0, .float .f32 0]⟩),
  (50, ⟨.array 4 48, 16, 64, [.float .f32 0, .float .f32 0, .float .f32 0, .float .f32 0, .float .f32 0, .float .f32 0, .float .f32 0, .float .f32 0, .float .f32 0, .float .f32 0, .float .f32 0, .float .f32 0, .float .f32 0, .float .f32 0, .float .f32 0, .float .f32 0]⟩),
  (51, ⟨.array 4 26, 4, 16, [.float .f32 0, .float .f32 0, .float .f32 0, .float .f32 0]⟩),
  (52, ⟨.struct [(2, 0), (2, 1), (50, 2), (51, 18)], 22, 96, [.int .i64 0, .int .i64 0, .float .f32 0, .float .f32 0, .float .f32 0, .float .f32 0, .float .f32 0, .float .f32 0, .float .f32 0, .float .f32 0, .float .f32 0, .float .f32 0, .float .f32 0, .float .f32 0, .float .f32 0, .float .f32 0, .float .f32 0, .float .f32 0, .float .f32 0, .float .f32 0, .float .f32 0, .float .f32 0]⟩),
  (53, ⟨.struct [(2, 0), (2, 1), (50, 2), (51, 18)], 22, 96, [.int .i64 0, .int .i64 0, .float .f32 0, .float .f32 0, .float .f32 0, .float .f32 0, .float .f32 0, .float .f32 0, .float .f32 0, .float .f32 0, .float .f32 0, .float .f32 0, .float .f32 0, .float .f32 0, .float .f32 0, .float .f32 0, .float .f32 0, .float .f32 0, .float .f32 0, .float .f32 0, .float .f32 0, .float .f32 0]⟩),
  (54, ⟨.slice 2, 1, 24, [.slice none 0 0]⟩),
  (55, ⟨.struct [(53, 0), (54, 22), (54, 23), (2, 24)], 25, 152, [.int .i64 0, .int .i64 0, .float .f32 0, .float .f32 0, .float .f32 0, .float .f32 0, .float .f32 0, .float .f32 0, .float .f32 0, .float .f32 0, .float .f32 0, .float .f32 0, .float .f32 0, .float .f32 0, .float .f32 0, .float .f32 0, .float .f32 0, .float .f32 0, .float .f32 0, .float .f32 0, .float .f32 0, .float .f32 0, .slice none 0 0, .slice none 0 0, .int .i64 0]⟩),
  (56, ⟨.struct [(53, 0), (54, 22), (54, 23), (2, 24)], 25, 152, [.int .i64 0, .int .i64 0, .float .f32 0, .float .f32 0, .float .f32 0, .float .f32 0, .float .f32 0, .float .f32 0, .float .f32 0, .float .f32 0, .float .f32 0, .float .f32 0, .float .f32 0, .float .f32 0, .float .f32 0, .float .f32 0, .float .f32 0, .float .f32 0, .float .f32 0, .float .f32 0, .float .f32 0, .float .f32 0, .slice none 0 0, .slice none 0 0, .int .i64 0]⟩),
  (57, ⟨.array 4 4, 4, 4, [.bool false, .bool false, .bool false, .bool false]⟩),
  (59, ⟨.other, 1, 8, [.nilFunc]⟩),
  (61, ⟨.other, 1, 8, [.nilFunc]⟩),
  (62, ⟨.array 8 4, 8, 8, [.bool false, .bool false, .bool false, .bool false, .bool false, .bool false, .bool false, .bool false]⟩),
  (63, ⟨.array 8 4, 8, 8, [.bool false, .bool false, .bool false, .bool false, .bool false, .bool false, .bool false, .bool false]⟩),
  (65, ⟨.other, 1, 8, [.nilFunc]⟩),
  (66, ⟨.slice 170, 1, 24, [.slice none 0 0]⟩),
  (67, ⟨.struct [(66, 0), (2, 1), (2, 2)], 3, 40, [.slice none 0 0, .int .i64 0, .int .i64 0]⟩),
  (68, ⟨.struct [(66, 0), (2, 1), (2, 2)], 3, 40, [.slice none 0 0, .int .i64 0, .int .i64 0]⟩),
  (69, ⟨.other, 1, 8, [.nilFunc]⟩),
  (70, ⟨.array 16 26, 16, 64, [.float .f32 0, .float .f32 0, .float .f32 0, .float .f32 0, .float .f32 0, .float .f32 0, .float .f32 0, .float .f32 0, .float .f32 0, .float .f32 0, .float .f32 0, .float .f32 0, .float .f32 0, .float .f32 0, .float .f32 0, .float .f32 0]⟩),
  (71, ⟨.array 16 26, 16, 64, [.float .f32 0, .float .f32 0, .float .f32 0, .float .f32 0, .float .f32 0, .float .f32 0, .float .f32 0, .float .f32 0, .float .f32 0, .float .f32 0, .float .f32 0, .float .f32 0, .float .f32 0, .float .f32 0, .float .f32 0, .float .f32 0]⟩),
  (72, ⟨.struct [(71, 0), (26, 16), (26, 17), (26, 18)], 19, 76, [.float .f32 0, .float .f32 0, .float .f32 0, .float .f32 0, .float .f32 0, .float .f32 0, .float .f32 0, .float .f32 0, .float .f32 0, .float .f32 0, .float .f32 0, .float .f32 0, .float .f32 0, .float .f32 0, .float .f32 0, .float .f32 0, .float .f32 0, .float .f32 0, .float .f32 0]⟩),
  (73, ⟨.struct [(71, 0), (26, 16), (26, 17), (26, 18)], 19, 76, [.float .f32 0, .float .f32 0, .float .f32 0, .float .f32 0, .float .f32 0, .float .f32 0, .float .f32 0, .float .f32 0, .float .f32 0, .float .f32 0, .float .f32 0, .float .f32 0, .float .f32 0, .float .f32 0, .float .f32 0, .float .f32 0, .float .f32 0, .float .f32 0, .float .f32 0]⟩),
  (74, ⟨.other, 1, 8, [.nilFunc]⟩),
  (75, ⟨.other, 1, 8, [.nilFunc]⟩),
  (76, ⟨.other, 1, 8, [.nilFunc]⟩),
  (77, ⟨.other, 1, 8, [.nilFunc]⟩),
  (79, ⟨.other, 1, 8, [.nilFunc]⟩),
  (80, ⟨.other, 1, 8, [.nilFunc]⟩),
  (81, ⟨.other, 1, 8, [.nilFunc]⟩),
  (82, ⟨.other, 1, 8, [.nilFunc]⟩),
  (83, ⟨.other, 1, 8, [.nilFunc]⟩),
  (84, ⟨.other, 1, 8, [.nilFunc]⟩),
  (85, ⟨.other, 1, 8, [.nilFunc]⟩),
  (86, ⟨.other, 1, 8, [.nilFunc]⟩),
  (87, ⟨.other, 1, 8, [.pointer none]⟩),
  (88, ⟨.other, 1, 8, [.nilFunc]⟩),
  (89, ⟨.other, 1, 8, [.nilFunc]⟩),
  (90, ⟨.other, 1, 8, [.nilFunc]⟩),
  (91, ⟨.other, 1, 8, [.nilFunc]⟩),
  (92, ⟨.other, 1, 8, [.nilFunc]⟩),
  (93, ⟨.other, 1, 8, [.nilFunc]⟩),
  (94, ⟨.other, 1, 8, [.nilFunc]⟩),
  (95, ⟨.other, 1, 8, [.nilFunc]⟩),
  (96, ⟨.other, 1, 8, [.nilFunc]⟩),
  (97, ⟨.other, 1, 8, [.nilFunc]⟩),
  (98, ⟨.other, 1, 8, [.nilFunc]⟩),
  (99, ⟨.other, 1, 8, [.nilFunc]⟩),
  (100, ⟨.other, 1, 8, [.nilFunc]⟩),
  (101, ⟨.other, 1, 8, [.nilFunc]⟩),
  (102, ⟨.other, 1, 8, [.nilFunc]⟩),
  (103, ⟨.other, 1, 8, [.nilFunc]⟩),
  (104, ⟨.other, 1, 8, [.nilFunc]⟩),
  (105, ⟨.other, 1, 8, [.pointer none]⟩),
  (106, ⟨.other, 1, 8, [.nilFunc]⟩),
  (107, ⟨.other, 1, 8, [.nilFunc]⟩),
  (109, ⟨.other, 1, 8, [.nilFunc]⟩),
  (110, ⟨.other, 1, 8, [.nilFunc]⟩),
  (111, ⟨.other, 1, 8, [.nilFunc]⟩),
  (112, ⟨.other, 1, 8, [.pointer none]⟩),
  (113, ⟨.other, 1, 8, [.nilFunc]⟩),
  (114, ⟨.other, 1, 8, [.nilFunc]⟩),
  (115, ⟨.other, 1, 8, [.nilFunc]⟩),
  (117, ⟨.other, 1, 8, [.nilFunc]⟩),
  (118, ⟨.other, 1, 8, [.nilFunc]⟩),
  (119, ⟨.other, 1, 8, [.nilFunc]⟩),
  (120, ⟨.other, 1, 8, [.pointer none]⟩),
  (121, ⟨.other, 1, 8, [.nilFunc]⟩),
  (123, ⟨.other, 1, 8, [.nilFunc]⟩),
  (124, ⟨.int .u32, 1, 4, [.int .u32 0]⟩),
  (125, ⟨.other, 1, 8, [.nilFunc]⟩),
  (126, ⟨.other, 1, 8, [.nilFunc]⟩),
  (127, ⟨.other, 1, 8, [.nilFunc]⟩),
  (128, ⟨.other, 1, 8, [.nilFunc]⟩),
  (129, ⟨.other, 1, 8, [.nilFunc]⟩),
  (130, ⟨.other, 1, 8, [.nilFunc]⟩),
  (131, ⟨.other, 1, 8, [.nilFunc]⟩),
  (132, ⟨.other, 1, 8, [.nilFunc]⟩),
  (133, ⟨.other, 1, 8, [.nilFunc]⟩),
  (134, ⟨.other, 1, 8, [.nilFunc]⟩),
  (135, ⟨.other, 1, 8, [.nilFunc]⟩),
  (136, ⟨.other, 1, 8, [.nilFunc]⟩),
  (137, ⟨.other, 1, 8, [.nilFunc]⟩),
  (138, ⟨.other, 1, 8, [.nilFunc]⟩),
  (139, ⟨.struct [(2, 0), (2, 1), (49, 2), (48, 18)], 22, 96, [.int .i64 0, .int .i64 0, .float .f32 0, .float .f32 0, .float .f32 0, .float .f32 0, .float .f32 0, .float .f32 0, .float .f32 0, .float .f32 0, .float .f32 0, .float .f32 0, .float .f32 0, .float .f32 0, .float .f32 0, .float .f32 0, .float .f32 0, .float .f32 0, .float .f32 0, .float .f32 0, .float .f32 0, .float .f32 0]⟩),
  (140, ⟨.struct [(2, 0), (2, 1), (49, 2), (48, 18)], 22, 96, [.int .i64 0, .int .i64 0, .float .f32 0, .float .f32 0, .float .f32 0, .float .f32 0, .float .f32 0, .float .f32 0, .float .f32 0, .float .f32 0, .float .f32 0, .float .f32 0, .float .f32 0, .float .f32 0, .float .f32 0, .float .f32 0, .float .f32 0, .float .f32 0, .float .f32 0, .float .f32 0, .float .f32 0, .float .f32 0]⟩),
  (141, ⟨.struct [(140, 0), (54, 22), (54, 23), (2, 24)], 25, 152, [.int .i64 0, .int .i64 0, .float .f32 0, .float .f32 0, .float .f32 0, .float .f32 0, .float .f32 0, .float .f32 0, .float .f32 0, .float .f32 0, .float .f32 0, .float .f32 0, .float .f32 0, .float .f32 0, .float .f32 0, .float .f32 0, .float .f32 0, .float .f32 0, .float .f32 0, .float .f32 0, .float .f32 0, .float .f32 0, .slice none 0 0, .slice none 0 0, .int .i64 0]⟩),
  (142, ⟨.struct [(140, 0), (54, 22), (54, 23), (2, 24)], 25, 152, [.int .i64 0, .int .i64 0, .float .f32 0, .float .f32 0, .float .f32 0, .float .f32 0, .float .f32 0, .float .f32 0, .float .f32 0, .float .f32 0, .float .f32 0, .float .f32 0, .float .f32 0, .float .f32 0, .float .f32 0, .float .f32 0, .float .f32 0, .float .f32 0, .float .f32 0, .float .f32 0, .float .f32 0, .float .f32 0, .slice none 0 0, .slice none 0 0, .int .i64 0]⟩),
  (143, ⟨.other, 1, 8, [.nilFunc]⟩),
  (144, ⟨.slice 252, 1, 24, [.slice none 0 0]⟩),
  (145, ⟨.struct [(144, 0), (2, 1), (2, 2)], 3, 40, [.slice none 0 0, .int .i64 0, .int .i64 0]⟩),
  (146, ⟨.struct [(144, 0), (2, 1), (2, 2)], 3, 40, [.slice none 0 0, .int .i64 0, .int .i64 0]⟩),
  (147, ⟨.slice 4, 1, 24, [.slice none 0 0]⟩),
  (149, ⟨.other, 1, 8, [.nilFunc]⟩),
  (150, ⟨.other, 1, 8, [.nilFunc]⟩),
  (151, ⟨.other, 1, 8, [.nilFunc]⟩),
  (152, ⟨.other, 1, 8, [.pointer none]⟩),
  (153, ⟨.other, 1, 8, [.nilFunc]⟩),
  (154, ⟨.struct [(70, 0), (26, 16), (26, 17), (26, 18)], 19, 76, [.float .f32 0, .float .f32 0, .float .f32 0, .float .f32 0, .float .f32 0, .float .f32 0, .float .f32 0, .float .f32 0, .float .f32 0, .float .f32 0, .float .f32 0, .float .f32 0, .float .f32 0, .float .f32 0, .float .f32 0, .float .f32 0, .float .f32 0, .float .f32 0, .float .f32 0]⟩),
  (155, ⟨.struct [(70, 0), (26, 16), (26, 17), (26, 18)], 19, 76, [.float .f32 0, .float .f32 0, .float .f32 0, .float .f32 0, .float .f32 0, .float .f32 0, .float .f32 0, .float .f32 0, .float .f32 0, .float .f32 0, .float .f32 0, .float .f32 0, .float .f32 0, .float .f32 0, .float .f32 0, .float .f32 0, .float .f32 0, .float .f32 0, .float .f32 0]⟩),
  (156, ⟨.other, 1, 8, [.nilFunc]⟩),
  (157, ⟨.other, 1, 8, [.nilFunc]⟩),
  (158, ⟨.other, 1, 8, [.nilFunc]⟩),
  (159, ⟨.other, 1, 8, [.nilFunc]⟩),
  (160, ⟨.other, 1, 8, [.nilFunc]⟩),
  (161, ⟨.other, 1, 8, [.nilFunc]⟩),
  (162, ⟨.other, 1, 8, [.nilFunc]⟩),
  (163, ⟨.other, 1, 8, [.nilFunc]⟩),
  (164, ⟨.other, 1, 8, [.nilFunc]⟩),
  (165, ⟨.other, 1, 8, [.nilFunc]⟩),
  (166, ⟨.other, 1, 8, [.nilFunc]⟩),
  (167, ⟨.other, 1, 8, [.nilFunc]⟩),
  (168, ⟨.other, 1, 8, [.nilFunc]⟩),
  (169, ⟨.struct [(63, 0), (2, 8)], 9, 16, [.bool false, .bool false, .bool false, .bool false, .bool false, .bool false, .bool false, .bool false, .int .i64 0]⟩),
  (170, ⟨.struct [(63, 0), (2, 8)], 9, 16, [.bool false, .bool false, .bool false, .bool false, .bool false, .bool false, .bool false, .bool false, .int .i64 0]⟩),
  (171, ⟨.other, 1, 8, [.nilFunc]⟩),
  (172, ⟨.other, 1, 8, [.nilFunc]⟩),
  (173, ⟨.other, 1, 8, [.nilFunc]⟩),
  (174, ⟨.other, 1, 8, [.nilFunc]⟩),
  (175, ⟨.other, 1, 8, [.nilFunc]⟩),
  (176, ⟨.other, 1, 8, [.nilFunc]⟩),
  (177, ⟨.other, 1, 8, [.nilFunc]⟩),
  (178, ⟨.other, 1, 8, [.nilFunc]⟩),
  (179, ⟨.other, 1, 8, [.nilFunc]⟩),
  (180, ⟨.int .u64, 1, 8, [.int .u64 0]⟩),
  (181, ⟨.struct [(45, 0), (3, 1), (180, 2)], 3, 40, [.slice none 0 0, .int .i64 0, .int .u64 0]⟩),
  (182, ⟨.struct [(45, 0), (3, 1), (180, 2)], 3, 40, [.slice none 0 0, .int .i64 0, .int .u64 0]⟩),
  (183, ⟨.other, 1, 8, [.nilFunc]⟩),
  (184, ⟨.other, 1, 8, [.nilFunc]⟩),
  (185, ⟨.other, 1, 8, [.nilFunc]⟩),
  (186, ⟨.other, 1, 8, [.nilFunc]⟩),
  (187, ⟨.other, 1, 8, [.pointer none]⟩),
  (188, ⟨.other, 1, 8, [.nilFunc]⟩),
  (189, ⟨.other, 1, 8, [.nilFunc]⟩),
  (190, ⟨.other, 1, 8, [.nilFunc]⟩),
  (191, ⟨.other, 1, 8, [.nilFunc]⟩),
  (192, ⟨.other, 1, 8, [.nilFunc]⟩),
  (193, ⟨.other, 1, 8, [.nilFunc]⟩),
  (194, ⟨.other, 1, 8, [.pointer none]⟩),
  (195, ⟨.array 17 26, 17, 68, [.float .f32 0, .float .f32 0, .float .f32 0, .float .f32 0, .float .f32 0, .float .f32 0, .float .f32 0, .float .f32 0, .float .f32 0, .float .f32 0, .float .f32 0, .float .f32 0, .float .f32 0, .float .f32 0, .float .f32 0, .float .f32 0, .float .f32 0]⟩),
  (196, ⟨.other, 1, 8, [.nilFunc]⟩),
  (197, ⟨.other, 1, 8, [.nilFunc]⟩),
  (198, ⟨.other, 1, 8, [.pointer none]⟩),
  (199, ⟨.other, 1, 8, [.nilFunc]⟩),
  (200, ⟨.other, 1, 8, [.nilFunc]⟩),
  (201, ⟨.other, 1, 8, [.nilFunc]⟩),
  (203, ⟨.other, 1, 8, [.nilFunc]⟩),
  (204, ⟨.other, 1, 8, [.nilFunc]⟩),
  (205, ⟨.other, 1, 8, [.nilFunc]⟩),
  (206, ⟨.other, 1, 8, [.nilFunc]⟩),
  (207, ⟨.other, 1, 8, [.nilFunc]⟩),
  (208, ⟨.other, 1, 8, [.nilFunc]⟩),
  (209, ⟨.other, 1, 8, [.nilFunc]⟩),
  (210, ⟨.other, 1, 8, [.nilFunc]⟩),
  (211, ⟨.other, 1, 8, [.nilFunc]⟩),
  (212, ⟨.other, 1, 8, [.nilFunc]⟩),
  (213, ⟨.other, 1, 8, [.nilFunc]⟩),
  (214, ⟨.other, 1, 8, [.nilFunc]⟩),
  (215, ⟨.other, 1, 8, [.nilFunc]⟩),
  (216, ⟨.other, 1, 8, [.nilFunc]⟩),
  (217, ⟨.other, 1, 8, [.nilFunc]⟩),
  (218, ⟨.other, 1, 8, [.nilFunc]⟩),
  (219, ⟨.other, 1, 8, [.nilFunc]⟩),
  (220, ⟨.other, 1, 8, [.nilFunc]⟩),
  (221, ⟨.other, 1, 8, [.nilFunc]⟩),
  (222, ⟨.other, 1, 8, [.nilFunc]⟩),
  (223, ⟨.other, 1, 8, [.nilFunc]⟩),
  (224, ⟨.other, 1, 8, [.nilFunc]⟩),
  (225, ⟨.other, 1, 8, [.nilFunc]⟩),
  (226, ⟨.other, 1, 8, [.nilFunc]⟩),
  (227, ⟨.array 4 2, 4, 32, [.int .i64 0, .int .i64 0, .int .i64 0, .int .i64 0]⟩),
  (228, ⟨.struct [(53, 0), (51, 22), (51, 26), (51, 30), (51, 34), (57, 38), (227, 42)], 46, 200, [.int .i64 0, .int .i64 0, .float .f32 0, .float .f32 0, .float .f32 0, .float .f32 0, .float .f32 0, .float .f32 0, .float .f32 0, .float .f32 0, .float .f32 0, .float .f32 0, .float .f32 0, .float .f32 0, .float .f32 0, .float .f32 0, .float .f32 0, .float .f32 0, .float .f32 0, .float .f32 0, .float .f32 0, .float .f32 0, .float .f32 0, .float .f32 0, .float .f32 0, .float .f32 0, .float .f32 0, .float .f32 0, .float .f32 0, .float .f32 0, .float .f32 0, .float .f32 0, .float .f32 0, .float .f32 0, .float .f32 0, .float .f32 0, .float .f32 0, .float .f32 0, .bool false, .bool false, .bool false, .bool false, .int .i64 0, .int .i64 0, .int .i64 0, .int .i64 0]⟩),
  (229, ⟨.struct [(53, 0), (51, 22), (51, 26), (51, 30), (51, 34), (57, 38), (227, 42)], 46, 200, [.int .i64 0, .int .i64 0, .float .f32 0, .float .f32 0, .float .f32 0, .float .f32 0, .float .f32 0, .float .f32 0, .float .f32 0, .float .f32 0, .float .f32 0, .float .f32 0, .float .f32 0, .float .f32 0, .float .f32 0, .float .f32 0, .float .f32 0, .float .f32 0, .float .f32 0, .float .f32 0, .float .f32 0, .float .f32 0, .float .f32 0, .float .f32 0, .float .f32 0, .float .f32 0, .float .f32 0, .float .f32 0, .float .f32 0, .float .f32 0, .float .f32 0, .float .f32 0, .float .f32 0, .float .f32 0, .float .f32 0, .float .f32 0, .float .f32 0, .float .f32 0, .bool false, .bool false, .bool false, .bool false, .int .i64 0, .int .i64 0, .int .i64 0, .int .i64 0]⟩),
  (230, ⟨.other, 1, 8, [.pointer none]⟩),
  (231, ⟨.other, 1, 8, [.nilFunc]⟩),
  (232, ⟨.other, 1, 8, [.nilFunc]⟩),
  (233, ⟨.other, 1, 8, [.pointer none]⟩),
  (234, ⟨.other, 1, 8, [.nilFunc]⟩),
  (235, ⟨.struct [(187, 0), (51, 1), (51, 5), (51, 9), (51, 13), (57, 17), (227, 21)], 25, 112, [.pointer none, .float .f32 0, .float .f32 0, .float .f32 0, .float .f32 0, .float .f32 0, .float .f32 0, .float .f32 0, .float .f32 0, .float .f32 0, .float .f32 0, .float .f32 0, .float .f32 0, .float .f32 0, .float .f32 0, .float .f32 0, .float .f32 0, .bool false, .bool false, .bool false, .bool false, .int .i64 0, .int .i64 0, .int .i64 0, .int .i64 0]⟩),
  (236, ⟨.struct [(187, 0), (51, 1), (51, 5), (51, 9), (51, 13), (57, 17), (227, 21)], 25, 112, [.pointer none, .float .f32 0, .float .f32 0, .float .f32 0, .float .f32 0, .float .f32 0, .float .f32 0, .float .f32 0, .float .f32 0, .float .f32 0, .float .f32 0, .float .f32 0, .float .f32 0, .float .f32 0, .float .f32 0, .float .f32 0, .float .f32 0, .bool false, .bool false, .bool false, .bool false, .int .i64 0, .int .i64 0, .int .i64 0, .int .i64 0]⟩),
  (237, ⟨.other, 1, 8, [.nilFunc]⟩),
  (238, ⟨.other, 1, 8, [.nilFunc]⟩),
  (239, ⟨.other, 1, 8, [.nilFunc]⟩),
  (240, ⟨.other, 1, 8, [.nilFunc]⟩),
  (241, ⟨.other, 1, 8, [.nilFunc]⟩),
  (242, ⟨.other, 1, 8, [.nilFunc]⟩),
  (243, ⟨.int .u64, 1, 8, [.int .u64 0]⟩),
  (245, ⟨.other, 1, 8, [.nilFunc]⟩),
  (246, ⟨.other, 1, 8, [.nilFunc]⟩),
  (247, ⟨.other, 1, 8, [.nilFunc]⟩),
  (248, ⟨.other, 1, 8, [.nilFunc]⟩),
  (249, ⟨.other, 1, 8, [.nilFunc]⟩),
  (250, ⟨.other, 1, 8, [.nilFunc]⟩),
  (251, ⟨.struct [(62, 0), (2, 8)], 9, 16, [.bool false, .bool false, .bool false, .bool false, .bool false, .bool false, .bool false, .bool false, .int .i64 0]⟩),
  (252, ⟨.struct [(62, 0), (2, 8)], 9, 16, [.bool false, .bool false, .bool false, .bool false, .bool false, .bool false, .bool false, .bool false, .int .i64 0]⟩),
  (253, ⟨.other, 1, 8, [.nilFunc]⟩),
  (254, ⟨.other, 1, 8, [.nilFunc]⟩),
  (255, ⟨.other, 1, 8, [.nilFunc]⟩),
  (256, ⟨.slice 48, 1, 24, [.slice none 0 0]⟩),
  (257, ⟨.other, 1, 8, [.nilFunc]⟩),
  (258, ⟨.other, 1, 8, [.nilFunc]⟩),
  (260, ⟨.other, 1, 8, [.nilFunc]⟩),
  (262, ⟨.other, 1, 8, [.nilFunc]⟩),
  (263, ⟨.other, 1, 8, [.nilFunc]⟩),
  (264, ⟨.other, 1, 8, [.nilFunc]⟩),
  (265, ⟨.other, 1, 8, [.nilFunc]⟩),
  (266, ⟨.other, 1, 8, [.nilFunc]⟩),
  (267, ⟨.other, 1, 8, [.nilFunc]⟩),
  (268, ⟨.other, 1, 8, [.nilFunc]⟩),
  (269, ⟨.other, 1, 8, [.nilFunc]⟩),
  (270, ⟨.other, 1, 8, [.nilFunc]⟩),
  (271, ⟨.other, 1, 8, [.nilFunc]⟩),
  (272, ⟨.struct [(17, 0), (17, 1), (17, 2), (9, 3)], 4, 40, [.pointer none, .pointer none, .pointer none, .string ⟨#[]⟩]⟩),
  (273, ⟨.struct [(17, 0), (17, 1), (17, 2), (9, 3)], 4, 40, [.pointer none, .pointer none, .pointer none, .string ⟨#[]⟩]⟩),
  (274, ⟨.array 0 16, 0, 0, []⟩),
  (277, ⟨.other, 1, 8, [.nilFunc]⟩),
  (278, ⟨.int .u8, 1, 1, [.int .u8 0]⟩),
  (279, ⟨.int .u8, 1, 1, [.int .u8 0]⟩),
  (280, ⟨.other, 1, 8, [.nilFunc]⟩),
  (281, ⟨.other, 1, 8, [.pointer none]⟩),
  (282, ⟨.int .i32, 1, 4, [.int .i32 0]⟩),
  (283, ⟨.int .i32, 1, 4, [.int .i32 0]⟩),
  (284, ⟨.struct [(12, 0), (12, 1), (124, 2), (278, 3), (5, 4), (5, 5), (279, 6), (280, 7), (281, 8), (282, 9), (283, 10)], 11, 48, [.int .u64 0, .int .u64 0, .int .u32 0, .int .u8 0, .int .u8 0, .int .u8 0, .int .u8 0, .nilFunc, .pointer none, .int .i32 0, .int .i32 0]⟩),
  (285, ⟨.struct [(12, 0), (12, 1), (124, 2), (278, 3), (5, 4), (5, 5), (279, 6), (280, 7), (281, 8), (282, 9), (283, 10)], 11, 48, [.int .u64 0, .int .u64 0, .int .u32 0, .int .u8 0, .int .u8 0, .int .u8 0, .int .u8 0, .nilFunc, .pointer none, .int .i32 0, .int .i32 0]⟩)]
theorem layT_ok : ∀ p ∈ layT, layOf Go.Proofs.Tryz.prog p.1 = some p.2 := by
  unfold layT
  refine List.forall_mem_cons.2 ⟨by kernel_rfl, ?_⟩
  refine List.forall_mem_cons.2 ⟨by kernel_rfl, ?_⟩
  refine List.forall_mem_cons.2 ⟨by kernel_rfl, ?_⟩
  refine List.forall_mem_cons.2 ⟨by kernel_rfl, ?_⟩
  refine List.forall_mem_cons.2 ⟨by kernel_rfl, ?_⟩
  refine List.forall_mem_cons.2 ⟨by kernel_rfl, ?_⟩
  refine List.forall_mem_cons.2 ⟨by kernel_rfl, ?_⟩
  refine List.forall_mem_cons.2 ⟨by kernel_rfl, ?_⟩
  refine List.forall_mem_cons.2 ⟨by kernel_rfl, ?_⟩
  refine List.forall_mem_cons.2 ⟨by kernel_rfl, ?_⟩
  refine List.forall_mem_cons.2 ⟨by kernel_rfl, ?_⟩
  refine List.forall_mem_cons.2 ⟨by kernel_rfl, ?_⟩
  refine List.forall_mem_cons.2 ⟨by kernel_rfl, ?_⟩
  refine List.forall_mem_cons.2 ⟨by kernel_rfl, ?_⟩
  refine List.forall_mem_cons.2 ⟨by kernel_rfl, ?_⟩
  refine List.forall_mem_cons.2 ⟨by kernel_rfl, ?_⟩
  refine List.forall_mem_cons.2 ⟨by kernel_rfl, ?_⟩
  refine List.forall_mem_cons.2 ⟨by kernel_rfl, ?_⟩
  refine List.forall_mem_cons.2 ⟨by kernel_rfl, ?_⟩
  refine List.forall_mem_cons.2 ⟨by kernel_rfl, ?_⟩
  refine List.forall_mem_cons.2 ⟨by kernel_rfl, ?_⟩
  refine List.forall_mem_cons.2 ⟨by kernel_rfl, ?_⟩
  refine List.forall_mem_cons.2 ⟨by kernel_rfl, ?_⟩
  refine List.forall_mem_cons.2 ⟨by kernel_rfl, ?_⟩
  refine List.forall_mem_cons.2 ⟨by kernel_rfl, ?_⟩
  refine List.forall_mem_cons.2 ⟨by kernel_rfl, ?_⟩
  refine List.forall_mem_cons.2 ⟨by kernel_rfl, ?_⟩
  refine List.forall_mem_cons.2 ⟨by kernel_rfl, ?_⟩
  refine List.forall_mem_cons.2 ⟨by kernel_rfl, ?_⟩
  refine List.forall_mem_cons.2 ⟨by kernel_rfl, ?_⟩
  refine List.forall_mem_cons.2 ⟨by kernel_rfl, ?_⟩
  refine List.forall_mem_cons.2 ⟨by kernel_rfl, ?_⟩
  refine List.forall_mem_cons.2 ⟨by kernel_rfl, ?_⟩
  refine List.forall_mem_cons.2 ⟨by kernel_rfl, ?_⟩
  refine List.forall_mem_cons.2 ⟨by kernel_rfl, ?_⟩
  refine List.forall_mem_cons.2 ⟨by kernel_rfl, ?_⟩
  refine List.forall_mem_cons.2 ⟨by kernel_rfl, ?_⟩
  refine List.forall_mem_cons.2 ⟨by kernel_rfl, ?_⟩
  refine List.forall_mem_cons.2 ⟨by kernel_rfl, ?_⟩
  refine List.forall_mem_cons.2 ⟨by kernel_rfl, ?_⟩
  refine List.forall_mem_cons.2 ⟨by kernel_rfl, ?_⟩
  refine List.forall_mem_cons.2 ⟨by kernel_rfl, ?_⟩
  refine List.forall_mem_cons.2 ⟨by kernel_rfl, ?_⟩
  refine List.forall_mem_cons.2 ⟨by kernel_rfl, ?_⟩
  refine List.forall_mem_cons.2 ⟨by kernel_rfl, ?_⟩
  refine List.forall_mem_cons.2 ⟨by kernel_rfl, ?_⟩
  refine List.forall_mem_cons.2 ⟨by kernel_rfl, ?_⟩
  refine List.forall_mem_cons.2 ⟨by kernel_rfl, ?_⟩
  refine List.forall_mem_cons.2 ⟨by kernel_rfl, ?_⟩
  refine List.forall_mem_cons.2 ⟨by kernel_rfl, ?_⟩
  refine List.forall_mem_cons.2 ⟨by kernel_rfl, ?_⟩
  refine List.forall_mem_cons.2 ⟨by kernel_rfl, ?_⟩
  refine List.forall_mem_cons.2 ⟨by kernel_rfl, ?_⟩
  refine List.forall_mem_cons.2 ⟨by kernel_rfl, ?_⟩
  refine List.forall_mem_cons.2 ⟨by kernel_rfl, ?_⟩
  refine List.forall_mem_cons.2 ⟨by kernel_rfl, ?_⟩
  refine List.forall_mem_cons.2 ⟨by kernel_rfl, ?_⟩
  refine List.forall_mem_cons.2 ⟨by kernel_rfl, ?_⟩
  refine List.forall_mem_cons.2 ⟨by kernel_rfl, ?_⟩
  refine List.forall_mem_cons.2 ⟨by kernel_rfl, ?_⟩
  refine List.forall_mem_cons.2 ⟨by kernel_rfl, ?_⟩
  refine List.forall_mem_cons.2 ⟨by kernel_rfl, ?_⟩
  refine List.forall_mem_cons.2 ⟨by kernel_rfl, ?_⟩
  refine List.forall_mem_cons.2 ⟨by kernel_rfl, ?_⟩
  refine List.forall_mem_cons.2 ⟨by kernel_rfl, ?_⟩
  refine List.forall_mem_cons.2 ⟨by kernel_rfl, ?_⟩
  refine List.forall_mem_cons.2 ⟨by kernel_rfl, ?_⟩
  refine List.forall_mem_cons.2 ⟨by kernel_rfl, ?_⟩
  refine List.forall_mem_cons.2 ⟨by kernel_rfl, ?_⟩
  refine List.forall_mem_cons.2 ⟨by kernel_rfl, ?_⟩
  refine List.forall_mem_cons.2 ⟨by kernel_rfl, ?_⟩
  refine List.forall_mem_cons.2 ⟨by kernel_rfl, ?_⟩
  refine List.forall_mem_cons.2 ⟨by kernel_rfl, ?_⟩
  refine List.forall_mem_cons.2 ⟨by kernel_rfl, ?_⟩
  refine List.forall_mem_cons.2 ⟨by kernel_rfl, ?_⟩
  refine List.forall_mem_cons.2 ⟨by kernel_rfl, ?_⟩
  refine List.forall_mem_cons.2 ⟨by kernel_rfl, ?_⟩
  refine List.forall_mem_cons.2 ⟨by kernel_rfl, ?_⟩
  refine List.forall_mem_cons.2 ⟨by kernel_rfl, ?_⟩
  refine List.forall_mem_cons.2 ⟨by kernel_rfl, ?_⟩
  refine List.forall_mem_cons.2 ⟨by kernel_rfl, ?_⟩
  refine List.forall_mem_cons.2 ⟨by kernel_rfl, ?_⟩
  refine List.forall_mem_cons.2 ⟨by kernel_rfl, ?_⟩
  refine List.forall_mem_cons.2 ⟨by kernel_rfl, ?_⟩
  refine List.forall_mem_cons.2 ⟨by kernel_rfl, ?_⟩
  refine List.forall_mem_cons.2 ⟨by kernel_rfl, ?_⟩
  refine List.forall_mem_cons.2 ⟨by kernel_rfl, ?_⟩
  refine List.forall_mem_cons.2 ⟨by kernel_rfl, ?_⟩
  refine List.forall_mem_cons.2 ⟨by kernel_rfl, ?_⟩
  refine List.forall_mem_cons.2 ⟨by kernel_rfl, ?_⟩
  refine List.forall_mem_cons.2 ⟨by kernel_rfl, ?_⟩
  refine List.forall_mem_cons.2 ⟨by kernel_rfl, ?_⟩
  refine List.forall_mem_cons.2 ⟨by kernel_rfl, ?_⟩
  refine List.forall_mem_cons.2 ⟨by kernel_rfl, ?_⟩
  refine List.forall_mem_cons.2 ⟨by kernel_rfl, ?_⟩
  refine List.forall_mem_cons.2 ⟨by kernel_rfl, ?_⟩
  refine List.forall_mem_cons.2 ⟨by kernel_rfl, ?_⟩
  refine List.forall_mem_cons.2 ⟨by kernel_rfl, ?_⟩
  refine List.forall_mem_cons.2 ⟨by kernel_rfl, ?_⟩
  refine List.forall_mem_cons.2 ⟨by kernel_rfl, ?_⟩
  refine List.forall_mem_cons.2 ⟨by kernel_rfl, ?_⟩
  refine List.forall_mem_cons.2 ⟨by kernel_rfl, ?_⟩
  refine List.forall_mem_cons.2 ⟨by kernel_rfl, ?_⟩
  refine List.forall_mem_cons.2 ⟨by kernel_rfl, ?_⟩
  refine List.forall_mem_cons.2 ⟨by kernel_rfl, ?_⟩
  refine List.forall_mem_cons.2 ⟨by kernel_rfl, ?_⟩
  refine List.forall_mem_cons.2 ⟨by kernel_rfl, ?_⟩
  refine List.forall_mem_cons.2 ⟨by kernel_rfl, ?_⟩
  refine List.forall_mem_cons.2 ⟨by kernel_rfl, ?_⟩
  refine List.forall_mem_cons.2 ⟨by kernel_rfl, ?_⟩
  refine List.forall_mem_cons.2 ⟨by kernel_rfl, ?_⟩
  refine List.forall_mem_cons.2 ⟨by kernel_rfl, ?_⟩
  refine List.forall_mem_cons.2 ⟨by kernel_rfl, ?_⟩
  refine List.forall_mem_cons.2 ⟨by kernel_rfl, ?_⟩
  refine List.forall_mem_cons.2 ⟨by kernel_rfl, ?_⟩
  refine List.forall_mem_cons.2 ⟨by kernel_rfl, ?_⟩
  refine List.forall_mem_cons.2 ⟨by kernel_rfl, ?_⟩
  refine List.forall_mem_cons.2 ⟨by kernel_rfl, ?_⟩
  refine List.forall_mem_cons.2 ⟨by kernel_rfl, ?_⟩
  refine List.forall_mem_cons.2 ⟨by kernel_rfl, ?_⟩
  refine List.forall_mem_cons.2 ⟨by kernel_rfl, ?_⟩
  refine List.forall_mem_cons.2 ⟨by kernel_rfl, ?_⟩
  refine List.forall_mem_cons.2 ⟨by kernel_rfl, ?_⟩
  refine List.forall_mem_cons.2 ⟨by kernel_rfl, ?_⟩
  refine List.forall_mem_cons.2 ⟨by kernel_rfl, ?_⟩
  refine List.forall_mem_cons.2 ⟨by kernel_rfl, ?_⟩
  refine List.forall_mem_cons.2 ⟨by kernel_rfl, ?_⟩
  refine List.forall_mem_cons.2 ⟨by kernel_rfl, ?_⟩
  refine List.forall_mem_cons.2 ⟨by kernel_rfl, ?_⟩
  refine List.forall_mem_cons.2 ⟨by kernel_rfl, ?_⟩
  refine List.forall_mem_cons.2 ⟨by kernel_rfl, ?_⟩
  refine List.forall_mem_cons.2 ⟨by kernel_rfl, ?_⟩
  refine List.forall_mem_cons.2 ⟨by kernel_rfl, ?_⟩
  refine List.forall_mem_cons.2 ⟨by kernel_rfl, ?_⟩
  refine List.forall_mem_cons.2 ⟨by kernel_rfl, ?_⟩
  refine List.forall_mem_cons.2 ⟨by kernel_rfl, ?_⟩
  refine List.forall_mem_cons.2 ⟨by kernel_rfl, ?_⟩
  refine List.forall_mem_cons.2 ⟨by kernel_rfl, ?_⟩
  refine List.forall_mem_cons.2 ⟨by kernel_rfl, ?_⟩
  refine List.forall_mem_cons.2 ⟨by kernel_rfl, ?_⟩
  refine List.forall_mem_cons.2 ⟨by kernel_rfl, ?_⟩
  refine List.forall_mem_cons.2 ⟨by kernel_rfl, ?_⟩
  refine List.forall_mem_cons.2 ⟨by kernel_rfl, ?_⟩
  refine List.forall_mem_cons.2 ⟨by kernel_rfl, ?_⟩
  refine List.forall_mem_cons.2 ⟨by kernel_rfl, ?_⟩
  refine List.forall_mem_cons.2 ⟨by kernel_rfl, ?_⟩
  refine List.forall_mem_cons.2 ⟨by kernel_rfl, ?_⟩
  refine List.forall_mem_cons.2 ⟨by kernel_rfl, ?_⟩
  refine List.forall_mem_cons.2 ⟨by kernel_rfl, ?_⟩
  refine List.forall_mem_cons.2 ⟨by kernel_rfl, ?_⟩
  refine List.forall_mem_cons.2 ⟨by kernel_rfl, ?_⟩
  refine List.forall_mem_cons.2 ⟨by kernel_rfl, ?_⟩
  refine List.forall_mem_cons.2 ⟨by kernel_rfl, ?_⟩
  refine List.forall_mem_cons.2 ⟨by kernel_rfl, ?_⟩
  refine List.forall_mem_cons.2 ⟨by kernel_rfl, ?_⟩
  refine List.forall_mem_cons.2 ⟨by kernel_rfl, ?_⟩
  refine List.forall_mem_cons.2 ⟨by kernel_rfl, ?_⟩
  refine List.forall_mem_cons.2 ⟨by kernel_rfl, ?_⟩
  refine List.forall_mem_cons.2 ⟨by kernel_rfl, ?_⟩
  refine List.forall_mem_cons.2 ⟨by kernel_rfl, ?_⟩
  refine List.forall_mem_cons.2 ⟨by kernel_rfl, ?_⟩
  refine List.forall_mem_cons.2 ⟨by kernel_rfl, ?_⟩
  refine List.forall_mem_cons.2 ⟨by kernel_rfl, ?_⟩
  refine List.forall_mem_cons.2 ⟨by kernel_rfl, ?_⟩
  refine List.forall_mem_cons.2 ⟨by kernel_rfl, ?_⟩
  refine List.forall_mem_cons.2 ⟨by kernel_rfl, ?_⟩
  refine List.forall_mem_cons.2 ⟨by kernel_rfl, ?_⟩
  refine List.forall_mem_cons.2 ⟨by kernel_rfl, ?_⟩
  refine List.forall_mem_cons.2 ⟨by kernel_rfl, ?_⟩
  refine List.forall_mem_cons.2 ⟨by kernel_rfl, ?_⟩
  refine List.forall_mem_cons.2 ⟨by kernel_rfl, ?_⟩
  refine List.forall_mem_cons.2 ⟨by kernel_rfl, ?_⟩
  refine List.forall_mem_cons.2 ⟨by kernel_rfl, ?_⟩
  refine List.forall_mem_cons.2 ⟨by kernel_rfl, ?_⟩
  refine List.forall_mem_cons.2 ⟨by kernel_rfl, ?_⟩
  refine List.forall_mem_cons.2 ⟨by kernel_rfl, ?_⟩
  refine List.forall_mem_cons.2 ⟨by kernel_rfl, ?_⟩
  refine List.forall_mem_cons.2 ⟨by kernel_rfl, ?_⟩
  refine List.forall_mem_cons.2 ⟨by kernel_rfl, ?_⟩
  refine List.forall_mem_cons.2 ⟨by kernel_rfl, ?_⟩
  refine List.forall_mem_cons.2 ⟨by kernel_rfl, ?_⟩
  refine List.forall_mem_cons.2 ⟨by kernel_rfl, ?_⟩
  refine List.forall_mem_cons.2 ⟨by kernel_rfl, ?_⟩
  refine List.forall_mem_cons.2 ⟨by kernel_rfl, ?_⟩
  refine List.forall_mem_cons.2 ⟨by kernel_rfl, ?_⟩
  refine List.forall_mem_cons.2 ⟨by kernel_rfl, ?_⟩
  refine List.forall_mem_cons.2 ⟨by kernel_rfl, ?_⟩
  refine List.forall_mem_cons.2 ⟨by kernel_rfl, ?_⟩
  refine List.forall_mem_cons.2 ⟨by kernel_rfl, ?_⟩
  refine List.forall_mem_cons.2 ⟨by kernel_rfl, ?_⟩
  refine List.forall_mem_cons.2 ⟨by kernel_rfl, ?_⟩
  refine List.forall_mem_cons.2 ⟨by kernel_rfl, ?_⟩
  refine List.forall_mem_cons.2 ⟨by kernel_rfl, ?_⟩
  refine List.forall_mem_cons.2 ⟨by kernel_rfl, ?_⟩
  refine List.forall_mem_cons.2 ⟨by kernel_rfl, ?_⟩
  refine List.forall_mem_cons.2 ⟨by kernel_rfl, ?_⟩
  refine List.forall_mem_cons.2 ⟨by kernel_rfl, ?_⟩
  refine List.forall_mem_cons.2 ⟨by kernel_rfl, ?_⟩
  refine List.forall_mem_cons.2 ⟨by kernel_rfl, ?_⟩
  refine List.forall_mem_cons.2 ⟨by kernel_rfl, ?_⟩
  refine List.forall_mem_cons.2 ⟨by kernel_rfl, ?_⟩
  refine List.forall_mem_cons.2 ⟨by kernel_rfl, ?_⟩
  refine List.forall_mem_cons.2 ⟨by kernel_rfl, ?_⟩
  refine List.forall_mem_cons.2 ⟨by kernel_rfl, ?_⟩
  refine List.forall_mem_cons.2 ⟨by kernel_rfl, ?_⟩
  refine List.forall_mem_cons.2 ⟨by kernel_rfl, ?_⟩
  refine List.forall_mem_cons.2 ⟨by kernel_rfl, ?_⟩
  refine List.forall_mem_cons.2 ⟨by kernel_rfl, ?_⟩
  refine List.forall_mem_cons.2 ⟨by kernel_rfl, ?_⟩
  refine List.forall_mem_cons.2 ⟨by kernel_rfl, ?_⟩
  refine List.forall_mem_cons.2 ⟨by kernel_rfl, ?_⟩
  refine List.forall_mem_cons.2 ⟨by kernel_rfl, ?_⟩
  refine List.forall_mem_cons.2 ⟨by kernel_rfl, ?_⟩
  refine List.forall_mem_cons.2 ⟨by kernel_rfl, ?_⟩
  refine List.forall_mem_cons.2 ⟨by kernel_rfl, ?_⟩
  refine List.forall_mem_cons.2 ⟨by kernel_rfl, ?_⟩
  refine List.forall_mem_cons.2 ⟨by kernel_rfl, ?_⟩
  refine List.forall_mem_cons.2 ⟨by kernel_rfl, ?_⟩
  refine List.forall_mem_cons.2 ⟨by kernel_rfl, ?_⟩
  refine List.forall_mem_cons.2 ⟨by kernel_rfl, ?_⟩
  refine List.forall_mem_cons.2 ⟨by kernel_rfl, ?_⟩
  refine List.forall_mem_cons.2 ⟨by kernel_rfl, ?_⟩
  refine List.forall_mem_cons.2 ⟨by kernel_rfl, ?_⟩
  refine List.forall_mem_cons.2 ⟨by kernel_rfl, ?_⟩
  refine List.forall_mem_cons.2 ⟨by kernel_rfl, ?_⟩
  refine List.forall_mem_cons.2 ⟨by kernel_rfl, ?_⟩
  refine List.forall_mem_cons.2 ⟨by kernel_rfl, ?_⟩
  refine List.forall_mem_cons.2 ⟨by kernel_rfl, ?_⟩
  refine List.forall_mem_cons.2 ⟨by kernel_rfl, ?_⟩
  refine List.forall_mem_cons.2 ⟨by kernel_rfl, ?_⟩
  refine List.forall_mem_cons.2 ⟨by kernel_rfl, ?_⟩
  refine List.forall_mem_cons.2 ⟨by kernel_rfl, ?_⟩
  refine List.forall_mem_cons.2 ⟨by kernel_rfl, ?_⟩
  refine List.forall_mem_cons.2 ⟨by kernel_rfl, ?_⟩
  refine List.forall_mem_cons.2 ⟨by kernel_rfl, ?_⟩
  refine List.forall_mem_cons.2 ⟨by kernel_rfl, ?_⟩
  refine List.forall_mem_cons.2 ⟨by kernel_rfl, ?_⟩
  refine List.forall_mem_cons.2 ⟨by kernel_rfl, ?_⟩
  refine List.forall_mem_cons.2 ⟨by kernel_rfl, ?_⟩
  refine List.forall_mem_cons.2 ⟨by kernel_rfl, ?_⟩
  refine List.forall_mem_cons.2 ⟨by kernel_rfl, ?_⟩
  refine List.forall_mem_cons.2 ⟨by kernel_rfl, ?_⟩
  refine List.forall_mem_cons.2 ⟨by kernel_rfl, ?_⟩
  refine List.forall_mem_cons.2 ⟨by kernel_rfl, ?_⟩
  refine List.forall_mem_cons.2 ⟨by kernel_rfl, ?_⟩
  refine List.forall_mem_cons.2 ⟨by kernel_rfl, ?_⟩
  refine List.forall_mem_cons.2 ⟨by kernel_rfl, ?_⟩
  refine List.forall_mem_cons.2 ⟨by kernel_rfl, ?_⟩
  refine List.forall_mem_cons.2 ⟨by kernel_rfl, ?_⟩
  refine List.forall_mem_cons.2 ⟨by kernel_rfl, ?_⟩
  refine List.forall_mem_cons.2 ⟨by kernel_rfl, ?_⟩
  refine List.forall_mem_cons.2 ⟨by kernel_rfl, ?_⟩
  refine List.forall_mem_cons.2 ⟨by kernel_rfl, ?_⟩
  refine List.forall_mem_cons.2 ⟨by kernel_rfl, ?_⟩
  refine List.forall_mem_cons.2 ⟨by kernel_rfl, ?_⟩
  refine List.forall_mem_cons.2 ⟨by kernel_rfl, ?_⟩
  refine List.forall_mem_cons.2 ⟨by kernel_rfl, ?_⟩
  refine List.forall_mem_cons.2 ⟨by kernel_rfl, ?_⟩
  refine List.forall_mem_cons.2 ⟨by kernel_rfl, ?_⟩
  refine List.forall_mem_cons.2 ⟨by kernel_rfl, ?_⟩
  refine List.forall_mem_cons.2 ⟨by kernel_rfl, ?_⟩
  refine List.forall_mem_cons.2 ⟨by kernel_rfl, ?_⟩
  refine List.forall_mem_cons.2 ⟨by kernel_rfl, ?_⟩
  refine List.forall_mem_cons.2 ⟨by kernel_rfl, ?_⟩
  refine List.forall_mem_cons.2 ⟨by kernel_rfl, ?_⟩
  refine List.forall_mem_cons.2 ⟨by kernel_rfl, ?_⟩
  refine List.forall_mem_cons.2 ⟨by kernel_rfl, ?_⟩
  refine List.forall_mem_cons.2 ⟨by kernel_rfl, ?_⟩
  exact fun p hp => absurd hp List.not_mem_nil
theorem mem_of_lookup {t : TypeId} {L : Lay} : ∀ {l : List (TypeId × Lay)}, l.lookup t = some L → (t, L) ∈ l
  | [], h => by simp at h
  | (a, b) :: l, h => by
    simp only [List.lookup] at h
    split at h
    · rename_i he
      simp only [beq_iff_eq, Option.some.injEq] at he h
      subst he h
      exact List.mem_cons_self
    · exact List.mem_cons_of_mem _ (mem_of_lookup h)
noncomputable def X : Cx := ⟨Go.Proofs.Tryz.prog, fun t => layT.lookup t, fun t L h => layOf_ok (layT_ok (t, L) (mem_of_lookup h)), [], by kernel_rfl⟩
theorem lay1 : X.lay 1 = some ⟨.other, 1, 8, [.nilFunc]⟩ := by kernel_rfl
theorem lay2 : X.lay 2 = some ⟨.int .i64, 1, 8, [.int .i64 0]⟩ := by kernel_rfl
theorem lay3 : X.lay 3 = some ⟨.int .i64, 1, 8, [.int .i64 0]⟩ := by kernel_rfl
theorem lay4 : X.lay 4 = some ⟨.bool, 1, 1, [.bool false]⟩ := by kernel_rfl
theorem lay5 : X.lay 5 = some ⟨.int .u8, 1, 1, [.int .u8 0]⟩ := by kernel_rfl
theorem lay6 : X.lay 6 = some ⟨.int .u8, 1, 1, [.int .u8 0]⟩ := by kernel_rfl
theorem lay7 : X.lay 7 = some ⟨.struct [(2, 0), (3, 1), (4, 2), (6, 3)], 4, 24, [.int .i64 0, .int .i64 0, .bool false, .int .u8 0]⟩ := by kernel_rfl
theorem lay8 : X.lay 8 = some ⟨.struct [(2, 0), (3, 1), (4, 2), (6, 3)], 4, 24, [.int .i64 0, .int .i64 0, .bool false, .int .u8 0]⟩ := by kernel_rfl
theorem lay9 : X.lay 9 = some ⟨.string, 1, 16, [.string ⟨#[]⟩]⟩ := by kernel_rfl
theorem lay10 : X.lay 10 = some ⟨.string, 1, 16, [.string ⟨#[]⟩]⟩ := by kernel_rfl
theorem lay11 : X.lay 11 = some ⟨.string, 1, 16, [.string ⟨#[]⟩]⟩ := by kernel_rfl
theorem lay12 : X.lay 12 = some ⟨.int .u64, 1, 8, [.int .u64 0]⟩ := by kernel_rfl
theorem lay13 : X.lay 13 = some ⟨.struct [(9, 0), (12, 1)], 2, 24, [.string ⟨#[]⟩, .int .u64 0]⟩ := by kernel_rfl
theorem lay14 : X.lay 14 = some ⟨.struct [(9, 0), (12, 1)], 2, 24, [.string ⟨#[]⟩, .int .u64 0]⟩ := by kernel_rfl
theorem lay15 : X.lay 15 = some ⟨.other, 1, 8, [.pointer none]⟩ := by kernel_rfl
theorem lay16 : X.lay 16 = some ⟨.other, 1, 8, [.pointer none]⟩ := by kernel_rfl
theorem lay17 : X.lay 17 = some ⟨.other, 1, 8, [.pointer none]⟩ := by kernel_rfl
theorem lay18 : X.lay 18 = some ⟨.struct [(17, 0)], 1, 8, [.pointer none]⟩ := by kernel_rfl
theorem lay19 : X.lay 19 = some ⟨.struct [(17, 0)], 1, 8, [.pointer none]⟩ := by kernel_rfl
theorem lay21 : X.lay 21 = some ⟨.int .i32, 1, 4, [.int .i32 0]⟩ := by kernel_rfl
theorem lay22 : X.lay 22 = some ⟨.slice 155, 1, 24, [.slice none 0 0]⟩ := by kernel_rfl
theorem lay23 : X.lay 23 = some ⟨.slice 26, 1, 24, [.slice none 0 0]⟩ := by kernel_rfl
theorem lay24 : X.lay 24 = some ⟨.slice 142, 1, 24, [.slice none 0 0]⟩ := by kernel_rfl
theorem lay25 : X.lay 25 = some ⟨.slice 146, 1, 24, [.slice none 0 0]⟩ := by kernel_rfl
theorem lay26 : X.lay 26 = some ⟨.float .f32, 1, 4, [.float .f32 0]⟩ := by kernel_rfl
theorem lay27 : X.lay 27 = some ⟨.struct [(22, 0), (23, 1), (24, 2), (25, 3), (2, 4), (26, 5), (26, 6)], 7, 112, [.slice none 0 0, .slice none 0 0, .slice none 0 0, .slice none 0 0, .int .i64 0, .float .f32 0, .float .f32 0]⟩ := by kernel_rfl
theorem lay28 : X.lay 28 = some ⟨.struct [(22, 0), (23, 1), (24, 2), (25, 3), (2, 4), (26, 5), (26, 6)], 7, 112, [.slice none 0 0, .slice none 0 0, .slice none 0 0, .slice none 0 0, .int .i64 0, .float .f32 0, .float .f32 0]⟩ := by kernel_rfl
theorem lay29 : X.lay 29 = some ⟨.other, 1, 8, [.nilFunc]⟩ := by kernel_rfl
theorem lay30 : X.lay 30 = some ⟨.other, 1, 8, [.nilFunc]⟩ := by kernel_rfl
theorem lay31 : X.lay 31 = some ⟨.slice 73, 1, 24, [.slice none 0 0]⟩ := by kernel_rfl
theorem lay32 : X.lay 32 = some ⟨.slice 56, 1, 24, [.slice none 0 0]⟩ := by kernel_rfl
theorem lay33 : X.lay 33 = some ⟨.slice 68, 1, 24, [.slice none 0 0]⟩ := by kernel_rfl
theorem lay34 : X.lay 34 = some ⟨.struct [(31, 0), (23, 1), (32, 2), (33, 3), (2, 4), (26, 5), (26, 6)], 7, 112, [.slice none 0 0, .slice none 0 0, .slice none 0 0, .slice none 0 0, .int .i64 0, .float .f32 0, .float .f32 0]⟩ := by kernel_rfl
theorem lay35 : X.lay 35 = some ⟨.struct [(31, 0), (23, 1), (32, 2), (33, 3), (2, 4), (26, 5), (26, 6)], 7, 112, [.slice none 0 0, .slice none 0 0, .slice none 0 0, .slice none 0 0, .int .i64 0, .float .f32 0, .float .f32 0]⟩ := by kernel_rfl
theorem lay36 : X.lay 36 = some ⟨.other, 1, 8, [.nilFunc]⟩ := by kernel_rfl
theorem lay37 : X.lay 37 = some ⟨.other, 1, 8, [.nilFunc]⟩ := by kernel_rfl
theorem lay38 : X.lay 38 = some ⟨.other, 1, 8, [.nilFunc]⟩ := by kernel_rfl
theorem lay40 : X.lay 40 = some ⟨.other, 1, 8, [.nilFunc]⟩ := by kernel_rfl
theorem lay41 : X.lay 41 = some ⟨.other, 1, 8, [.nilFunc]⟩ := by kernel_rfl
theorem lay42 : X.lay 42 = some ⟨.float .f64, 1, 8, [.float .f64 0]⟩ := by kernel_rfl
theorem lay44 : X.lay 44 = some ⟨.other, 1, 8, [.nilFunc]⟩ := by kernel_rfl
theorem lay45 : X.lay 45 = some ⟨.slice 5, 1, 24, [.slice none 0 0]⟩ := by kernel_rfl
theorem lay46 : X.lay 46 = some ⟨.other, 1, 8, [.nilFunc]⟩ := by kernel_rfl
theorem lay47 : X.lay 47 = some ⟨.other, 1, 8, [.nilFunc]⟩ := by kernel_rfl
theorem lay48 : X.lay 48 = some ⟨.array 4 26, 4, 16, [.float .f32 0, .float .f32 0, .float .f32 0, .float .f32 0]⟩ := by kernel_rfl
theorem lay49 : X.lay 49 = some ⟨.array 4 48, 16, 64, [.float .f32 0, .float .f32 0, .float .f32 0, .float .f32 0, .float .f32 0, .float .f32 0, .float .f32 0, .float .f32 0, .float .f32 0, .float .f32 0, .float .f32 0, .float .f32 0, .float .f32 0, .float .f32 0, .float .f32 0, .float .f32 0]⟩ := by kernel_rfl
theorem lay50 : X.lay 50 = some ⟨.array 4 48, 16, 64, [.float .f32 0, .float .f32 0, .float .f32 0, .float .f32 0, .float .f32 0, .float .f32 0, .float .f32 0, .float .f32 0, .float .f32 0, .float .f32 0, .float .f32 0, .float .f32 0, .float .f32 0, .float .f32 0, .float .f32 0, .float .f32 0]⟩ := by kernel_rfl
theorem lay51 : X.lay 51 = some ⟨.array 4 26, 4, 16, [.float .f32 0, .float .f32 0, .float .f32 0, .float .f32 0]⟩ := by kernel_rfl
theorem lay52 : X.lay 52 = some ⟨.struct [(2, 0), (2, 1), (50, 2), (51, 18)], 22, 96, [.int .i64 0, .int .i64 0, .float .f32 0, .float .f32 0, .float .f32 0, .float .f32 0, .float .f32 0, .float .f32 0, .float .f32 0, .float .f32 0, .float .f32 0, .float .f32 0, .float .f32 0, .float .f32 0, .float .f32 0, .float .f32 0, .float .f32 0, .float .f32 0, .float .f32 0, .float .f32 0, .float .f32 0, .float .f32 0]⟩ := by kernel_rfl
theorem lay53 : X.lay 53 = some ⟨.struct [(2, 0), (2, 1), (50, 2), (51, 18)], 22, 96, [.int .i64 0, .int .i64 0, .float .f32 0, .float .f32 0, .float .f32 0, .float .f32 0, .float .f32 0, .float .f32 0, .float .f32 0, .float .f32 0, .float .f32 0, .float .f32 0, .float .f32 0, .float .f32 0, .float .f32 0, .float .f32 0, .float .f32 0, .float .f32 0, .float .f32 0, .float .f32 0, .float .f32 0, .float .f32 0]⟩ := by kernel_rfl
theorem lay54 : X.lay 54 = some ⟨.slice 2, 1, 24, [.slice none 0 0]⟩ := by kernel_rfl
theorem lay55 : X.lay 55 = some ⟨.struct [(53, 0), (54, 22), (54, 23), (2, 24)], 25, 152, [.int .i64 0, .int .i64 0, .float .f32 0, .float .f32 0, .float .f32 0, .float .f32 0, .float .f32 0, .float .f32 0, .float .f32 0, .float .f32 0, .float .f32 0, .float .f32 0, .float .f32 0, .float .f32 0, .float .f32 0, .float .f32 0, .float .f32 0, .float .f32 0, .float .f32 0, .float .f32 0, .float .f32 0, .float .f32 0, .slice none 0 0, .slice none 0 0, .int .i64 0]⟩ := by kernel_rfl
theorem lay56 : X.lay 56 = some ⟨.struct [(53, 0), (54, 22), (54, 23), (2, 24)], 25, 152, [.int .i64 0, .int .i64 0, .float .f32 0, .float .f32 0, .float .f32 0, .float .f32 0, .float .f32 0, .float .f32 0, .float .f32 0, .float .f32 0, .float .f32 0, .float .f32 0, .float .f32 0, .float .f32 0, .float .f32 0, .float .f32 0, .float .f32 0, .float .f32 0, .float .f32 0, .float .f32 0, .float .f32 0, .float .f32 0, .slice none 0 0, .slice none 0 0, .int .i64 0]⟩ := by kernel_rfl
theorem lay57 : X.lay 57 = some ⟨.array 4 4, 4, 4, [.bool false, .bool false, .bool false, .bool false]⟩ := by kernel_rfl
theorem lay59 : X.lay 59 = some ⟨.other, 1, 8, [.nilFunc]⟩ := by kernel_rfl
theorem lay61 : X.lay 61 = some ⟨.other, 1, 8, [.nilFunc]⟩ := by kernel_rfl
theorem lay62 : X.lay 62 = some ⟨.array 8 4, 8, 8, [.bool false, .bool false, .bool false, .bool false, .bool false, .bool false, .bool false, .bool false]⟩ := by kernel_rfl
theorem lay63 : X.lay 63 = some ⟨.array 8 4, 8, 8, [.bool false, .bool false, .bool false, .bool false, .bool false, .bool false, .bool false, .bool false]⟩ := by kernel_rfl
theorem lay65 : X.lay 65 = some ⟨.other, 1, 8, [.nilFunc]⟩ := by kernel_rfl
theorem lay66 : X.lay 66 = some ⟨.slice 170, 1, 24, [.slice none 0 0]⟩ := by kernel_rfl
theorem lay67 : X.lay 67 = some ⟨.struct [(66, 0), (2, 1), (2, 2)], 3, 40, [.slice none 0 0, .int .i64 0, .int .i64 0]⟩ := by kernel_rfl
theorem lay68 : X.lay 68 = some ⟨.struct [(66, 0), (2, 1), (2, 2)], 3, 40, [.slice none 0 0, .int .i64 0, .int .i64 0]⟩ := by kernel_rfl
theorem lay69 : X.lay 69 = some ⟨.other, 1, 8, [.nilFunc]⟩ := by kernel_rfl
theorem lay70 : X.lay 70 = some ⟨.array 16 26, 16, 64, [.float .f32 0, .float .f32 0, .float .f32 0, .float .f32 0, .float .f32 0, .float .f32 0, .float .f32 0, .float .f32 0, .float .f32 0, .float .f32 0, .float .f32 0, .float .f32 0, .float .f32 0, .float .f32 0, .float .f32 0, .float .f32 0]⟩ := by kernel_rfl
theorem lay71 : X.lay 71 = some ⟨.array 16 26, 16, 64, [.float .f32 0, .float .f32 0, .float .f32 0, .float .f32 0, .float .f32 0, .float .f32 0, .float .f32 0, .float .f32 0, .float .f32 0, .float .f32 0, .float .f32 0, .float .f32 0, .float .f32 0, .float .f32 0, .float .f32 0, .float .f32 0]⟩ := by kernel_rfl
theorem lay72 : X.lay 72 = some ⟨.struct [(71, 0), (26, 16), (26, 17), (26, 18)], 19, 76, [.float .f32 0, .float .f32 0, .float .f32 0, .float .f32 0, .float .f32 0, .float .f32 0, .float .f32 0, .float .f32 0, .float .f32 0, .float .f32 0, .float .f32 0, .float .f32 0, .float .f32 0, .float .f32 0, .float .f32 0, .float .f32 0, .float .f32 0, .float .f32 0, .float .f32 0]⟩ := by kernel_rfl
theorem lay73 : X.lay 73 = some ⟨.struct [(71, 0), (26, 16), (26, 17), (26, 18)], 19, 76, [.float .f32 0, .float .f32 0, .float .f32 0, .float .f32 0, .float .f32 0, .float .f32 0, .float .f32 0, .float .f32 0, .float .f32 0, .float .f32 0, .float .f32 0, .float .f32 0, .float .f32 0, .float .f32 0, .float .f32 0, .float .f32 0, .float .f32 0, .float .f32 0, .float .f32 0]⟩ := by kernel_rfl
theorem lay74 : X.lay 74 = some ⟨.other, 1, 8, [.nilFunc]⟩ := by kernel_rfl
theorem lay75 : X.lay 75 = some ⟨.other, 1, 8, [.nilFunc]⟩ := by kernel_rfl
theorem lay76 : X.lay 76 = some ⟨.other, 1, 8, [.nilFunc]⟩ := by kernel_rfl
theorem lay77 : X.lay 77 = some ⟨.other, 1, 8, [.nilFunc]⟩ := by kernel_rfl
theorem lay79 : X.lay 79 = some ⟨.other, 1, 8, [.nilFunc]⟩ := by kernel_rfl
theorem lay80 : X.lay 80 = some ⟨.other, 1, 8, [.nilFunc]⟩ := by kernel_rfl
theorem lay81 : X.lay 81 = some ⟨.other, 1, 8, [.nilFunc]⟩ := by kernel_rfl
theorem lay82 : X.lay 82 = some ⟨.other, 1, 8, [.nilFunc]⟩ := by kernel_rfl
theorem lay83 : X.lay 83 = some ⟨.other, 1, 8, [.nilFunc]⟩ := by kernel_rfl
theorem lay84 : X.lay 84 = some ⟨.other, 1, 8, [.nilFunc]⟩ := by kernel_rfl
theorem lay85 : X.lay 85 = some ⟨.other, 1, 8, [.nilFunc]⟩ := by kernel_rfl
theorem lay86 : X.lay 86 = some ⟨.other, 1, 8, [.nilFunc]⟩ := by kernel_rfl
theorem lay87 : X.lay 87 = some ⟨.other, 1, 8, [.pointer none]⟩ := by kernel_rfl
theorem lay88 : X.lay 88 = some ⟨.other, 1, 8, [.nilFunc]⟩ := by kernel_rfl
theorem lay89 : X.lay 89 = some ⟨.other, 1, 8, [.nilFunc]⟩ := by kernel_rfl
theorem lay90 : X.lay 90 = some ⟨.other, 1, 8, [.nilFunc]⟩ := by kernel_rfl
theorem lay91 : X.lay 91 = some ⟨.other, 1, 8, [.nilFunc]⟩ := by kernel_rfl
theorem lay92 : X.lay 92 = some ⟨.other, 1, 8, [.nilFunc]⟩ := by kernel_rfl
theorem lay93 : X.lay 93 = some ⟨.other, 1, 8, [.nilFunc]⟩ := by kernel_rfl
theorem lay94 : X.lay 94 = some ⟨.other, 1, 8, [.nilFunc]⟩ := by kernel_rfl
theorem lay95 : X.lay 95 = some ⟨.other, 1, 8, [.nilFunc]⟩ := by kernel_rfl
theorem lay96 : X.lay 96 = some ⟨.other, 1, 8, [.nilFunc]⟩ := by kernel_rfl
theorem lay97 : X.lay 97 = some ⟨.other, 1, 8, [.nilFunc]⟩ := by kernel_rfl
theorem lay98 : X.lay 98 = some ⟨.other, 1, 8, [.nilFunc]⟩ := by kernel_rfl
theorem lay99 : X.lay 99 = some ⟨.other, 1, 8, [.nilFunc]⟩ := by kernel_rfl
theorem lay100 : X.lay 100 = some ⟨.other, 1, 8, [.nilFunc]⟩ := by kernel_rfl
theorem lay101 : X.lay 101 = some ⟨.other, 1, 8, [.nilFunc]⟩ := by kernel_rfl
theorem lay102 : X.lay 102 = some ⟨.other, 1, 8, [.nilFunc]⟩ := by kernel_rfl
theorem lay103 : X.lay 103 = some ⟨.other, 1, 8, [.nilFunc]⟩ := by kernel_rfl
theorem lay104 : X.lay 104 = some ⟨.other, 1, 8, [.nilFunc]⟩ := by kernel_rfl
theorem lay105 : X.lay 105 = some ⟨.other, 1, 8, [.pointer none]⟩ := by kernel_rfl
theorem lay106 : X.lay 106 = some ⟨.other, 1, 8, [.nilFunc]⟩ := by kernel_rfl
theorem lay107 : X.lay 107 = some ⟨.other, 1, 8, [.nilFunc]⟩ := by kernel_rfl
theorem lay109 : X.lay 109 = some ⟨.other, 1, 8, [.nilFunc]⟩ := by kernel_rfl
theorem lay110 : X.lay 110 = some ⟨.other, 1, 8, [.nilFunc]⟩ := by kernel_rfl
theorem lay111 : X.lay 111 = some ⟨.other, 1, 8, [.nilFunc]⟩ := by kernel_rfl
theorem lay112 : X.lay 112 = some ⟨.other, 1, 8, [.pointer none]⟩ := by kernel_rfl
theorem lay113 : X.lay 113 = some ⟨.other, 1, 8, [.nilFunc]⟩ := by kernel_rfl
theorem lay114 : X.lay 114 = some ⟨.other, 1, 8, [.nilFunc]⟩ := by kernel_rfl
theorem lay115 : X.lay 115 = some ⟨.other, 1, 8, [.nilFunc]⟩ := by kernel_rfl
theorem lay117 : X.lay 117 = some ⟨.other, 1, 8, [.nilFunc]⟩ := by kernel_rfl
theorem lay118 : X.lay 118 = some ⟨.other, 1, 8, [.nilFunc]⟩ := by kernel_rfl
theorem lay119 : X.lay 119 = some ⟨.other, 1, 8, [.nilFunc]⟩ := by kernel_rfl
theorem lay120 : X.lay 120 = some ⟨.other, 1, 8, [.pointer none]⟩ := by kernel_rfl
theorem lay121 : X.lay 121 = some ⟨.other, 1, 8, [.nilFunc]⟩ := by kernel_rfl
theorem lay123 : X.lay 123 = some ⟨.other, 1, 8, [.nilFunc]⟩ := by kernel_rfl
theorem lay124 : X.lay 124 = some ⟨.int .u32, 1, 4, [.int .u32 0]⟩ := by kernel_rfl
theorem lay125 : X.lay 125 = some ⟨.other, 1, 8, [.nilFunc]⟩ := by kernel_rfl
theorem lay126 : X.lay 126 = some ⟨.other, 1, 8, [.nilFunc]⟩ := by kernel_rfl
theorem lay127 : X.lay 127 = some ⟨.other, 1, 8, [.nilFunc]⟩ := by kernel_rfl
theorem lay128 : X.lay 128 = some ⟨.other, 1, 8, [.nilFunc]⟩ := by kernel_rfl
theorem lay129 : X.lay 129 = some ⟨.other, 1, 8, [.nilFunc]⟩ := by kernel_rfl
theorem lay130 : X.lay 130 = some ⟨.other, 1, 8, [.nilFunc]⟩ := by kernel_rfl
theorem lay131 : X.lay 131 = some ⟨.other, 1, 8, [.nilFunc]⟩ := by kernel_rfl
theorem lay132 : X.lay 132 = some ⟨.other, 1, 8, [.nilFunc]⟩ := by kernel_rfl
theorem lay133 : X.lay 133 = some ⟨.other, 1, 8, [.nilFunc]⟩ := by kernel_rfl
theorem lay134 : X.lay 134 = some ⟨.other, 1, 8, [.nilFunc]⟩ := by kernel_rfl
theorem lay135 : X.lay 135 = some ⟨.other, 1, 8, [.nilFunc]⟩ := by kernel_rfl
theorem lay136 : X.lay 136 = some ⟨.other, 1, 8, [.nilFunc]⟩ := by kernel_rfl
theorem lay137 : X.lay 137 = some ⟨.other, 1, 8, [.nilFunc]⟩ := by kernel_rfl
theorem lay138 : X.lay 138 = some ⟨.other, 1, 8, [.nilFunc]⟩ := by kernel_rfl
theorem lay139 : X.lay 139 = some ⟨.struct [(2, 0), (2, 1), (49, 2), (48, 18)], 22, 96, [.int .i64 0, .int .i64 0, .float .f32 0, .float .f32 0, .float .f32 0, .float .f32 0, .float .f32 0, .float .f32 0, .float .f32 0, .float .f32 0, .float .f32 0, .float .f32 0, .float .f32 0, .float .f32 0, .float .f32 0, .float .f32 0, .float .f32 0, .float .f32 0, .float .f32 0, .float .f32 0, .float .f32 0, .float .f32 0]⟩ := by kernel_rfl
theorem lay140 : X.lay 140 = some ⟨.struct [(2, 0), (2, 1), (49, 2), (48, 18)], 22, 96, [.int .i64 0, .int .i64 0, .float .f32 0, .float .f32 0, .float .f32 0, .float .f32 0, .float .f32 0, .float .f32 0, .float .f32 0, .float .f32 0, .float .f32 0, .float .f32 0, .float .f32 0, .float .f32 0, .float .f32 0, .float .f32 0, .float .f32 0, .float .f32 0, .float .f32 0, .float .f32 0, .float .f32 0, .float .f32 0]⟩ := by kernel_rfl
theorem lay141 : X.lay 141 = some ⟨.struct [(140, 0), (54, 22), (54, 23), (2, 24)], 25, 152, [.int .i64 0, .int .i64 0, .float .f32 0, .float .f32 0, .float .f32 0, .float .f32 0, .float .f32 0, .float .f32 0, .float .f32 0, .float .f32 0, .float .f32 0, .float .f32 0, .float .f32 0, .float .f32 0, .float .f32 0, .float .f32 0, .float .f32 0, .float .f32 0, .float .f32 0, .float .f32 0, .float .f32 0, .float .f32 0, .slice none 0 0, .slice none 0 0, .int .i64 0]⟩ := by kernel_rfl
theorem lay142 : X.lay 142 = some ⟨.struct [(140, 0), (54, 22), (54, 23), (2, 24)], 25, 152, [.int .i64 0, .int .i64 0, .float .f32 0, .float .f32 0, .float .f32 0, .float .f32 0, .float .f32 0, .float .f32 0, .float .f32 0, .float .f32 0, .float .f32 0, .float .f32 0, .float .f32 0, .float .f32 0, .float .f32 0, .float .f32 0, .float .f32 0, .float .f32 0, .float .f32 0, .float .f32 0, .float .f32 0, .float .f32 0, .slice none 0 0, .slice none 0 0, .int .i64 0]⟩ := by kernel_rfl
theorem lay143 : X.lay 143 = some ⟨.other, 1, 8, [.nilFunc]⟩ := by kernel_rfl
theorem lay144 : X.lay 144 = some ⟨.slice 252, 1, 24, [.slice none 0 0]⟩ := by kernel_rfl
theorem lay145 : X.lay 145 = some ⟨.struct [(144, 0), (2, 1), (2, 2)], 3, 40, [.slice none 0 0, .int .i64 0, .int .i64 0]⟩ := by kernel_rfl
theorem lay146 : X.lay 146 = some ⟨.struct [(144, 0), (2, 1), (2, 2)], 3, 40, [.slice none 0 0, .int .i64 0, .int .i64 0]⟩ := by kernel_rfl
theorem lay147 : X.lay 147 = some ⟨.slice 4, 1, 24, [.slice none 0 0]⟩ := by kernel_rfl
theorem lay149 : X.lay 149 = some ⟨.other, 1, 8, [.nilFunc]⟩ := by kernel_rfl
theorem lay150 : X.lay 150 = some ⟨.other, 1, 8, [.nilFunc]⟩ := by kernel_rfl
theorem lay151 : X.lay 151 = some ⟨.other, 1, 8, [.nilFunc]⟩ := by kernel_rfl
theorem lay152 : X.lay 152 = some ⟨.other, 1, 8, [.pointer none]⟩ := by kernel_rfl
theorem lay153 : X.lay 153 = some ⟨.other, 1, 8, [.nilFunc]⟩ := by kernel_rfl
theorem lay154 : X.lay 154 = some ⟨.struct [(70, 0), (26, 16), (26, 17), (26, 18)], 19, 76, [.float .f32 0, .float .f32 0, .float .f32 0, .float .f32 0, .float .f32 0, .float .f32 0, .float .f32 0, .float .f32 0, .float .f32 0, .float .f32 0, .float .f32 0, .float .f32 0, .float .f32 0, .float .f32 0, .float .f32 0, .float .f32 0, .float .f32 0, .float .f32 0, .float .f32 0]⟩ := by kernel_rfl
theorem lay155 : X.lay 155 = some ⟨.struct [(70, 0), (26, 16), (26, 17), (26, 18)], 19, 76, [.float .f32 0, .float .f32 0, .float .f32 0, .float .f32 0, .float .f32 0, .float .f32 0, .float .f32 0, .float .f32 0, .float .f32 0, .float .f32 0, .float .f32 0, .float .f32 0, .float .f32 0, .float .f32 0, .float .f32 0, .float .f32 0, .float .f32 0, .float .f32 0, .float .f32 0]⟩ := by kernel_rfl
theorem lay156 : X.lay 156 = some ⟨.other, 1, 8, [.nilFunc]⟩ := by kernel_rfl
theorem lay157 : X.lay 157 = some ⟨.other, 1, 8, [.nilFunc]⟩ := by kernel_rfl
theorem lay158 : X.lay 158 = some ⟨.other, 1, 8, [.nilFunc]⟩ := by kernel_rfl
theorem lay159 : X.lay 159 = some ⟨.other, 1, 8, [.nilFunc]⟩ := by kernel_rfl
theorem lay160 : X.lay 160 = some ⟨.other, 1, 8, [.nilFunc]⟩ := by kernel_rfl
theorem lay161 : X.lay 161 = some ⟨.other, 1, 8, [.nilFunc]⟩ := by kernel_rfl
theorem lay162 : X.lay 162 = some ⟨.other, 1, 8, [.nilFunc]⟩ := by kernel_rfl
theorem lay163 : X.lay 163 = some ⟨.other, 1, 8, [.nilFunc]⟩ := by kernel_rfl
theorem lay164 : X.lay 164 = some ⟨.other, 1, 8, [.nilFunc]⟩ := by kernel_rfl
theorem lay165 : X.lay 165 = some ⟨.other, 1, 8, [.nilFunc]⟩ := by kernel_rfl
theorem lay166 : X.lay 166 = some ⟨.other, 1, 8, [.nilFunc]⟩ := by kernel_rfl
theorem lay167 : X.lay 167 = some ⟨.other, 1, 8, [.nilFunc]⟩ := by kernel_rfl
theorem lay168 : X.lay 168 = some ⟨.other, 1, 8, [.nilFunc]⟩ := by kernel_rfl
theorem lay169 : X.lay 169 = some ⟨.struct [(63, 0), (2, 8)], 9, 16, [.bool false, .bool false, .bool false, .bool false, .bool false, .bool false, .bool false, .bool false, .int .i64 0]⟩ := by kernel_rfl
theorem lay170 : X.lay 170 = some ⟨.struct [(63, 0), (2, 8)], 9, 16, [.bool false, .bool false, .bool false, .bool false, .bool false, .bool false, .bool false, .bool false, .int .i64 0]⟩ := by kernel_rfl
theorem lay171 : X.lay 171 = some ⟨.other, 1, 8, [.nilFunc]⟩ := by kernel_rfl
theorem lay172 : X.lay 172 = some ⟨.other, 1, 8, [.nilFunc]⟩ := by kernel_rfl
theorem lay173 : X.lay 173 = some ⟨.other, 1, 8, [.nilFunc]⟩ := by kernel_rfl
theorem lay174 : X.lay 174 = some ⟨.other, 1, 8, [.nilFunc]⟩ := by kernel_rfl
theorem lay175 : X.lay 175 = some ⟨.other, 1, 8, [.nilFunc]⟩ := by kernel_rfl
theorem lay176 : X.lay 176 = some ⟨.other, 1, 8, [.nilFunc]⟩ := by kernel_rfl
theorem lay177 : X.lay 177 = some ⟨.other, 1, 8, [.nilFunc]⟩ := by kernel_rfl
theorem lay178 : X.lay 178 = some ⟨.other, 1, 8, [.nilFunc]⟩ := by kernel_rfl
theorem lay179 : X.lay 179 = some ⟨.other, 1, 8, [.nilFunc]⟩ := by kernel_rfl
theorem lay180 : X.lay 180 = some ⟨.int .u64, 1, 8, [.int .u64 0]⟩ := by kernel_rfl
theorem lay181 : X.lay 181 = some ⟨.struct [(45, 0), (3, 1), (180, 2)], 3, 40, [.slice none 0 0, .int .i64 0, .int .u64 0]⟩ := by kernel_rfl
theorem lay182 : X.lay 182 = some ⟨.struct [(45, 0), (3, 1), (180, 2)], 3, 40, [.slice none 0 0, .int .i64 0, .int .u64 0]⟩ := by kernel_rfl
theorem lay183 : X.lay 183 = some ⟨.other, 1, 8, [.nilFunc]⟩ := by kernel_rfl
theorem lay184 : X.lay 184 = some ⟨.other, 1, 8, [.nilFunc]⟩ := by kernel_rfl
theorem lay185 : X.lay 185 = some ⟨.other, 1, 8, [.nilFunc]⟩ := by kernel_rfl
theorem lay186 : X.lay 186 = some ⟨.other, 1, 8, [.nilFunc]⟩ := by kernel_rfl
theorem lay187 : X.lay 187 = some ⟨.other, 1, 8, [.pointer none]⟩ := by kernel_rfl
theorem lay188 : X.lay 188 = some ⟨.other, 1, 8, [.nilFunc]⟩ := by kernel_rfl
theorem lay189 : X.lay 189 = some ⟨.other, 1, 8, [.nilFunc]⟩ := by kernel_rfl
theorem lay190 : X.lay 190 = some ⟨.other, 1, 8, [.nilFunc]⟩ := by kernel_rfl
theorem lay191 : X.lay 191 = some ⟨.other, 1, 8, [.nilFunc]⟩ := by kernel_rfl
theorem lay192 : X.lay 192 = some ⟨.other, 1, 8, [.nilFunc]⟩ := by kernel_rfl
theorem lay193 : X.lay 193 = some ⟨.other, 1, 8, [.nilFunc]⟩ := by kernel_rfl
theorem lay194 : X.lay 194 = some ⟨.other, 1, 8, [.pointer none]⟩ := by kernel_rfl
theorem lay195 : X.lay 195 = some ⟨.array 17 26, 17, 68, [.float .f32 0, .float .f32 0, .float .f32 0, .float .f32 0, .float .f32 0, .float .f32 0, .float .f32 0, .float .f32 0, .float .f32 0, .float .f32 0, .float .f32 0, .float .f32 0, .float .f32 0, .float .f32 0, .float .f32 0, .float .f32 0, .float .f32 0]⟩ := by kernel_rfl
theorem lay196 : X.lay 196 = some ⟨.other, 1, 8, [.nilFunc]⟩ := by kernel_rfl
theorem lay197 : X.lay 197 = some ⟨.other, 1, 8, [.nilFunc]⟩ := by kernel_rfl
theorem lay198 : X.lay 198 = some ⟨.other, 1, 8, [.pointer none]⟩ := by kernel_rfl
theorem lay199 : X.lay 199 = some ⟨.other, 1, 8, [.nilFunc]⟩ := by kernel_rfl
theorem lay200 : X.lay 200 = some ⟨.other, 1, 8, [.nilFunc]⟩ := by kernel_rfl
theorem lay201 : X.lay 201 = some ⟨.other, 1, 8, [.nilFunc]⟩ := by kernel_rfl
theorem lay203 : X.lay 203 = some ⟨.other, 1, 8, [.nilFunc]⟩ := by kernel_rfl
theorem lay204 : X.lay 204 = some ⟨.other, 1, 8, [.nilFunc]⟩ := by kernel_rfl
theorem lay205 : X.lay 205 = some ⟨.other, 1, 8, [.nilFunc]⟩ := by kernel_rfl
theorem lay206 : X.lay 206 = some ⟨.other, 1, 8, [.nilFunc]⟩ := by kernel_rfl
theorem lay207 : X.lay 207 = some ⟨.other, 1, 8, [.nilFunc]⟩ := by kernel_rfl
theorem lay208 : X.lay 208 = some ⟨.other, 1, 8, [.nilFunc]⟩ := by kernel_rfl
theorem lay209 : X.lay 209 = some ⟨.other, 1, 8, [.nilFunc]⟩ := by kernel_rfl
theorem lay210 : X.lay 210 = some ⟨.other, 1, 8, [.nilFunc]⟩ := by kernel_rfl
theorem lay211 : X.lay 211 = some ⟨.other, 1, 8, [.nilFunc]⟩ := by kernel_rfl
theorem lay212 : X.lay 212 = some ⟨.other, 1, 8, [.nilFunc]⟩ := by kernel_rfl
theorem lay213 : X.lay 213 = some ⟨.other, 1, 8, [.nilFunc]⟩ := by kernel_rfl
theorem lay214 : X.lay 214 = some ⟨.other, 1, 8, [.nilFunc]⟩ := by kernel_rfl
theorem lay215 : X.lay 215 = some ⟨.other, 1, 8, [.nilFunc]⟩ := by kernel_rfl
theorem lay216 : X.lay 216 = some ⟨.other, 1, 8, [.nilFunc]⟩ := by kernel_rfl
theorem lay217 : X.lay 217 = some ⟨.other, 1, 8, [.nilFunc]⟩ := by kernel_rfl
theorem lay218 : X.lay 218 = some ⟨.other, 1, 8, [.nilFunc]⟩ := by kernel_rfl
theorem lay219 : X.lay 219 = some ⟨.other, 1, 8, [.nilFunc]⟩ := by kernel_rfl
theorem lay220 : X.lay 220 = some ⟨.other, 1, 8, [.nilFunc]⟩ := by kernel_rfl
theorem lay221 : X.lay 221 = some ⟨.other, 1, 8, [.nilFunc]⟩ := by kernel_rfl
theorem lay222 : X.lay 222 = some ⟨.other, 1, 8, [.nilFunc]⟩ := by kernel_rfl
theorem lay223 : X.lay 223 = some ⟨.other, 1, 8, [.nilFunc]⟩ := by kernel_rfl
theorem lay224 : X.lay 224 = some ⟨.other, 1, 8, [.nilFunc]⟩ := by kernel_rfl
theorem lay225 : X.lay 225 = some ⟨.other, 1, 8, [.nilFunc]⟩ := by kernel_rfl
theorem lay226 : X.lay 226 = some ⟨.other, 1, 8, [.nilFunc]⟩ := by kernel_rfl
theorem lay227 : X.lay 227 = some ⟨.array 4 2, 4, 32, [.int .i64 0, .int .i64 0, .int .i64 0, .int .i64 0]⟩ := by kernel_rfl
theorem lay228 : X.lay 228 = some ⟨.struct [(53, 0), (51, 22), (51, 26), (51, 30), (51, 34), (57, 38), (227, 42)], 46, 200, [.int .i64 0, .int .i64 0, .float .f32 0, .float .f32 0, .float .f32 0, .float .f32 0, .float .f32 0, .float .f32 0, .float .f32 0, .float .f32 0, .float .f32 0, .float .f32 0, .float .f32 0, .float .f32 0, .float .f32 0, .float .f32 0, .float .f32 0, .float .f32 0, .float .f32 0, .float .f32 0, .float .f32 0, .float .f32 0, .float .f32 0, .float .f32 0, .float .f32 0, .float .f32 0, .float .f32 0, .float .f32 0, .float .f32 0, .float .f32 0, .float .f32 0, .float .f32 0, .float .f32 0, .float .f32 0, .float .f32 0, .float .f32 0, .float .f32 0, .float .f32 0, .bool false, .bool false, .bool false, .bool false, .int .i64 0, .int .i64 0, .int .i64 0, .int .i64 0]⟩ := by kernel_rfl
theorem lay229 : X.lay 229 = some ⟨.struct [(53, 0), (51, 22), (51, 26), (51, 30), (51, 34), (57, 38), (227, 42)], 46, 200, [.int .i64 0, .int .i64 0, .float .f32 0, .float .f32 0, .float .f32 0, .float .f32 0, .float .f32 0, .float .f32 0, .float .f32 0, .float .f32 0, .float .f32 0, .float .f32 0, .float .f32 0, .float .f32 0, .float .f32 0, .float .f32 0, .float .f32 0, .float .f32 0, .float .f32 0, .float .f32 0, .float .f32 0, .float .f32 0, .float .f32 0, .float .f32 0, .float .f32 0, .float .f32 0, .float .f32 0, .float .f32 0, .float .f32 0, .float .f32 0, .float .f32 0, .float .f32 0, .float .f32 0, .float .f32 0, .float .f32 0, .float .f32 0, .float .f32 0, .float .f32 0, .bool false, .bool false, .bool false, .bool false, .int .i64 0, .int .i64 0, .int .i64 0, .int .i64 0]⟩ := by kernel_rfl
theorem lay230 : X.lay 230 = some ⟨.other, 1, 8, [.pointer none]⟩ := by kernel_rfl
theorem lay231 : X.lay 231 = some ⟨.other, 1, 8, [.nilFunc]⟩ := by kernel_rfl
theorem lay232 : X.lay 232 = some ⟨.other, 1, 8, [.nilFunc]⟩ := by kernel_rfl
theorem lay233 : X.lay 233 = some ⟨.other, 1, 8, [.pointer none]⟩ := by kernel_rfl
theorem lay234 : X.lay 234 = some ⟨.other, 1, 8, [.nilFunc]⟩ := by kernel_rfl
theorem lay235 : X.lay 235 = some ⟨.struct [(187, 0), (51, 1), (51, 5), (51, 9), (51, 13), (57, 17), (227, 21)], 25, 112, [.pointer none, .float .f32 0, .float .f32 0, .float .f32 0, .float .f32 0, .float .f32 0, .float .f32 0, .float .f32 0, .float .f32 0, .float .f32 0, .float .f32 0, .float .f32 0, .float .f32 0, .float .f32 0, .float .f32 0, .float .f32 0, .float .f32 0, .bool false, .bool false, .bool false, .bool false, .int .i64 0, .int .i64 0, .int .i64 0, .int .i64 0]⟩ := by kernel_rfl
theorem lay236 : X.lay 236 = some ⟨.struct [(187, 0), (51, 1), (51, 5), (51, 9), (51, 13), (57, 17), (227, 21)], 25, 112, [.pointer none, .float .f32 0, .float .f32 0, .float .f32 0, .float .f32 0, .float .f32 0, .float .f32 0, .float .f32 0, .float .f32 0, .float .f32 0, .float .f32 0, .float .f32 0, .float .f32 0, .float .f32 0, .float .f32 0, .float .f32 0, .float .f32 0, .bool false, .bool false, .bool false, .bool false, .int .i64 0, .int .i64 0, .int .i64 0, .int .i64 0]⟩ := by kernel_rfl
theorem lay237 : X.lay 237 = some ⟨.other, 1, 8, [.nilFunc]⟩ := by kernel_rfl
theorem lay238 : X.lay 238 = some ⟨.other, 1, 8, [.nilFunc]⟩ := by kernel_rfl
theorem lay239 : X.lay 239 = some ⟨.other, 1, 8, [.nilFunc]⟩ := by kernel_rfl
theorem lay240 : X.lay 240 = some ⟨.other, 1, 8, [.nilFunc]⟩ := by kernel_rfl
theorem lay241 : X.lay 241 = some ⟨.other, 1, 8, [.nilFunc]⟩ := by kernel_rfl
theorem lay242 : X.lay 242 = some ⟨.other, 1, 8, [.nilFunc]⟩ := by kernel_rfl
theorem lay243 : X.lay 243 = some ⟨.int .u64, 1, 8, [.int .u64 0]⟩ := by kernel_rfl
theorem lay245 : X.lay 245 = some ⟨.other, 1, 8, [.nilFunc]⟩ := by kernel_rfl
theorem lay246 : X.lay 246 = some ⟨.other, 1, 8, [.nilFunc]⟩ := by kernel_rfl
theorem lay247 : X.lay 247 = some ⟨.other, 1, 8, [.nilFunc]⟩ := by kernel_rfl
theorem lay248 : X.lay 248 = some ⟨.other, 1, 8, [.nilFunc]⟩ := by kernel_rfl
theorem lay249 : X.lay 249 = some ⟨.other, 1, 8, [.nilFunc]⟩ := by kernel_rfl
theorem lay250 : X.lay 250 = some ⟨.other, 1, 8, [.nilFunc]⟩ := by kernel_rfl
theorem lay251 : X.lay 251 = some ⟨.struct [(62, 0), (2, 8)], 9, 16, [.bool false, .bool false, .bool false, .bool false, .bool false, .bool false, .bool false, .bool false, .int .i64 0]⟩ := by kernel_rfl
theorem lay252 : X.lay 252 = some ⟨.struct [(62, 0), (2, 8)], 9, 16, [.bool false, .bool false, .bool false, .bool false, .bool false, .bool false, .bool false, .bool false, .int .i64 0]⟩ := by kernel_rfl
theorem lay253 : X.lay 253 = some ⟨.other, 1, 8, [.nilFunc]⟩ := by kernel_rfl
theorem lay254 : X.lay 254 = some ⟨.other, 1, 8, [.nilFunc]⟩ := by kernel_rfl
theorem lay255 : X.lay 255 = some ⟨.other, 1, 8, [.nilFunc]⟩ := by kernel_rfl
theorem lay256 : X.lay 256 = some ⟨.slice 48, 1, 24, [.slice none 0 0]⟩ := by kernel_rfl
theorem lay257 : X.lay 257 = some ⟨.other, 1, 8, [.nilFunc]⟩ := by kernel_rfl
theorem lay258 : X.lay 258 = some ⟨.other, 1, 8, [.nilFunc]⟩ := by kernel_rfl
theorem lay260 : X.lay 260 = some ⟨.other, 1, 8, [.nilFunc]⟩ := by kernel_rfl
theorem lay262 : X.lay 262 = some ⟨.other, 1, 8, [.nilFunc]⟩ := by kernel_rfl
theorem lay263 : X.lay 263 = some ⟨.other, 1, 8, [.nilFunc]⟩ := by kernel_rfl
theorem lay264 : X.lay 264 = some ⟨.other, 1, 8, [.nilFunc]⟩ := by kernel_rfl
theorem lay265 : X.lay 265 = some ⟨.other, 1, 8, [.nilFunc]⟩ := by kernel_rfl
theorem lay266 : X.lay 266 = some ⟨.other, 1, 8, [.nilFunc]⟩ := by kernel_rfl
theorem lay267 : X.lay 267 = some ⟨.other, 1, 8, [.nilFunc]⟩ := by kernel_rfl
theorem lay268 : X.lay 268 = some ⟨.other, 1, 8, [.nilFunc]⟩ := by kernel_rfl
theorem lay269 : X.lay 269 = some ⟨.other, 1, 8, [.nilFunc]⟩ := by kernel_rfl
theorem lay270 : X.lay 270 = some ⟨.other, 1, 8, [.nilFunc]⟩ := by kernel_rfl
theorem lay271 : X.lay 271 = some ⟨.other, 1, 8, [.nilFunc]⟩ := by kernel_rfl
theorem lay272 : X.lay 272 = some ⟨.struct [(17, 0), (17, 1), (17, 2), (9, 3)], 4, 40, [.pointer none, .pointer none, .pointer none, .string ⟨#[]⟩]⟩ := by kernel_rfl
theorem lay273 : X.lay 273 = some ⟨.struct [(17, 0), (17, 1), (17, 2), (9, 3)], 4, 40, [.pointer none, .pointer none, .pointer none, .string ⟨#[]⟩]⟩ := by kernel_rfl
theorem lay274 : X.lay 274 = some ⟨.array 0 16, 0, 0, []⟩ := by kernel_rfl
theorem lay277 : X.lay 277 = some ⟨.other, 1, 8, [.nilFunc]⟩ := by kernel_rfl
theorem lay278 : X.lay 278 = some ⟨.int .u8, 1, 1, [.int .u8 0]⟩ := by kernel_rfl
theorem lay279 : X.lay 279 = some ⟨.int .u8, 1, 1, [.int .u8 0]⟩ := by kernel_rfl
theorem lay280 : X.lay 280 = some ⟨.other, 1, 8, [.nilFunc]⟩ := by kernel_rfl
theorem lay281 : X.lay 281 = some ⟨.other, 1, 8, [.pointer none]⟩ := by kernel_rfl
theorem lay282 : X.lay 282 = some ⟨.int .i32, 1, 4, [.int .i32 0]⟩ := by kernel_rfl
theorem lay283 : X.lay 283 = some ⟨.int .i32, 1, 4, [.int .i32 0]⟩ := by kernel_rfl
theorem lay284 : X.lay 284 = some ⟨.struct [(12, 0), (12, 1), (124, 2), (278, 3), (5, 4), (5, 5), (279, 6), (280, 7), (281, 8), (282, 9), (283, 10)], 11, 48, [.int .u64 0, .int .u64 0, .int .u32 0, .int .u8 0, .int .u8 0, .int .u8 0, .int .u8 0, .nilFunc, .pointer none, .int .i32 0, .int .i32 0]⟩ := by kernel_rfl
theorem lay285 : X.lay 285 = some ⟨.struct [(12, 0), (12, 1), (124, 2), (278, 3), (5, 4), (5, 5), (279, 6), (280, 7), (281, 8), (282, 9), (283, 10)], 11, 48, [.int .u64 0, .int .u64 0, .int .u32 0, .int .u8 0, .int .u8 0, .int .u8 0, .int .u8 0, .nilFunc, .pointer none, .int .i32 0, .int .i32 0]⟩ := by kernel_rfl
end Go.VL
namespace Go.VL
open Go.RowKit
set_option maxRecDepth 20000
set_option maxHeartbeats 8000000
theorem cSFs (b : Nat) (hx : okF .f64 (some b)) : PureC X 18 [.c (.f .f64 (some b)), .c (.f .f64 (some b))] (cB (decide True)) := by
  refine PureC.of_body (drawD_ok X) (fun _ _ => Go.Proofs.Tryz.call18 _ _) Go.Proofs.Tryz.func18 rfl (n := 37) rfl ?_
  refine w_seq ?_
  refine w_reg rfl ?_
  refine v_assign (c := .v (.bool false)) rfl ?_
  refine v_nil ?_
  refine q_n ?_
  refine w_seq ?_
  refine w_seq ?_
  refine w_reg rfl ?_
  refine v_move rfl ?_
  refine v_move rfl ?_
  refine v_binb lay42 rfl rfl rfl (fun h1 => ?_) (fun h1 => ?_)
  · exact absurd h1 (by rw [ford_self hx]; decide)
  refine v_move rfl ?_
  refine v_guard_on rfl rfl ?_
  refine v_move rfl ?_
  refine v_guard_on rfl rfl ?_
  refine v_move rfl ?_
  refine v_guard_on rfl rfl ?_
  refine v_binb lay42 rfl rfl rfl (fun h2 => ?_) (fun h2 => ?_)
  · exact absurd h2 (by rw [ford_self hx]; decide)
  refine v_pick_f rfl rfl ?_
  refine v_nil ?_
  refine q_n ?_
  refine w_f rfl ?_
  refine w_skip ?_
  refine q_n ?_
  refine w_seq ?_
  refine w_seq ?_
  refine w_reg rfl ?_
  refine v_move rfl ?_
  refine v_binb lay42 rfl rfl rfl (fun h3 => ?_) (fun h3 => ?_)
  rotate_left
  · refine v_move rfl ?_
    refine v_guard_off rfl rfl rfl ?_
    refine v_guard_off rfl rfl rfl ?_
    refine v_pick_f (v := .v (.bool false)) rfl rfl ?_
    refine v_nil ?_
    refine q_n ?_
    refine w_f rfl ?_
    refine w_skip ?_
    refine q_n ?_
    refine w_seq ?_
    refine w_reg rfl ?_
    refine v_move rfl ?_
    refine v_move rfl ?_
    refine v_binb lay42 rfl rfl rfl (fun h8 => ?_) (fun h8 => ?_)
    rotate_left
    · exact absurd h8 (by rw [ford_self hx]; decide)
    refine v_assign rfl ?_
    refine v_nil ?_
    refine q_n ?_
    refine w_ret ?_
    refine r_r rfl ?_
    exact a_b ⟨fun _ => trivial, fun _ => rfl⟩
  refine v_move rfl ?_
  refine v_guard_on rfl rfl ?_
  refine v_move rfl ?_
  refine v_guard_on rfl rfl ?_
  refine v_binb lay42 rfl rfl rfl (fun h4 => ?_) (fun h4 => ?_)
  rotate_left
  · exact absurd (h3.symm.trans h4) (by decide)
  refine v_pick_t rfl rfl ?_
  refine v_nil ?_
  refine q_n ?_
  refine w_t rfl ?_
  refine w_seq ?_
  refine w_reg rfl ?_
  refine v_move rfl ?_
  refine v_bin (c := .f _ _) lay42 rfl rfl rfl ?_
  refine v_binb lay42 rfl rfl rfl (fun h5 => ?_) (fun h5 => ?_)
  rotate_left
  · refine v_move rfl ?_
    refine v_bin (c := .f _ _) lay42 rfl rfl rfl ?_
    refine v_binb lay42 rfl rfl rfl (fun h7 => ?_) (fun h7 => ?_)
    · exact absurd (h7.symm.trans h5) (by decide)
    refine v_bin (c := .v (.bool true)) lay4 rfl rfl rfl ?_
    refine v_assign rfl ?_
    refine v_nil ?_
    refine q_n ?_
    refine w_ret (q_r ?_)
    refine r_r rfl ?_
    exact a_b ⟨fun _ => trivial, fun _ => rfl⟩
  refine v_move rfl ?_
  refine v_bin (c := .f _ _) lay42 rfl rfl rfl ?_
  refine v_binb lay42 rfl rfl rfl (fun h6 => ?_) (fun h6 => ?_)
  rotate_left
  · exact absurd (h5.symm.trans h6) (by decide)
  refine v_bin (c := .v (.bool true)) lay4 rfl rfl rfl ?_
  refine v_assign rfl ?_
  refine v_nil ?_
  refine q_n ?_
  refine w_ret (q_r ?_)
  refine r_r rfl ?_
  exact a_b ⟨fun _ => trivial, fun _ => rfl⟩
theorem cSFn : PureC X 18 [.c (.f .f64 none), .c (.f .f64 none)] (cB (decide True)) := by
  refine PureC.of_body (drawD_ok X) (fun _ _ => Go.Proofs.Tryz.call18 _ _) Go.Proofs.Tryz.func18 rfl (n := 37) rfl ?_
  refine w_seq ?_
  refine w_reg rfl ?_
  refine v_assign (c := .v (.bool false)) rfl ?_
  refine v_nil ?_
  refine q_n ?_
  refine w_seq ?_
  refine w_seq ?_
  refine w_reg rfl ?_
  refine v_move rfl ?_
  refine v_move rfl ?_
  refine v_binb lay42 rfl rfl rfl (fun h1 => ?_) (fun h1 => ?_)
  rotate_left
  · exact absurd h1 (by decide)
  refine v_move rfl ?_
  refine v_guard_off rfl rfl rfl ?_
  refine v_guard_off rfl rfl rfl ?_
  refine v_guard_off rfl rfl rfl ?_
  refine v_pick_t (v := .v (.bool true)) rfl rfl ?_
  refine v_nil ?_
  refine q_n ?_
  refine w_t rfl ?_
  refine w_seq ?_
  refine w_reg rfl ?_
  refine v_move rfl ?_
  refine v_move rfl ?_
  refine v_binb lay42 rfl rfl rfl (fun h2 => ?_) (fun h2 => ?_)
  rotate_left
  · exact absurd h2 (by decide)
  refine v_move rfl ?_
  refine v_guard_on rfl rfl ?_
  refine v_move rfl ?_
  refine v_guard_on rfl rfl ?_
  refine v_move rfl ?_
  refine v_guard_on rfl rfl ?_
  refine v_binb lay42 rfl rfl rfl (fun h3 => ?_) (fun h3 => ?_)
  rotate_left
  · exact absurd h3 (by decide)
  refine v_pick_t rfl rfl ?_
  refine v_assign rfl ?_
  refine v_nil ?_
  refine q_n ?_
  refine w_ret (q_r ?_)
  refine r_r rfl ?_
  exact a_b ⟨fun _ => trivial, fun _ => rfl⟩
theorem cSF (x : Option Nat) (hx : okF .f64 x) : PureC X 18 [.c (.f .f64 x), .c (.f .f64 x)] (cB (decide True)) := by
  cases x with
  | none => exact cSFn
  | some b => exact cSFs b hx
theorem cFB (b : Nat) : PureC X 141 [.c (.f .f32 (some b))] (.c (.v (.int .u32 b))) := pure_f32bits Go.Proofs.Tryz.func141 (by kernel_rfl) rfl (by kernel_rfl) (by kernel_rfl) b
theorem cBOn : PureC X 76 [.c (.f .f32 none)] (.c (.v (.int .u32 2143289344))) := by
  refine PureC.of_body (drawD_ok X) (fun _ _ => Go.Proofs.Tryz.call76 _ _) Go.Proofs.Tryz.func76 rfl (n := 8) rfl ?_
  refine w_seq ?_
  refine w_reg rfl ?_
  refine v_assign (c := .v (.int .u32 0)) rfl ?_
  refine v_nil ?_
  refine q_n ?_
  refine w_seq ?_
  refine w_seq ?_
  refine w_reg rfl ?_
  refine v_move rfl ?_
  refine v_move rfl ?_
  refine v_binb lay26 rfl rfl rfl (fun h1 => ?_) (fun h1 => ?_)
  rotate_left
  · exact absurd h1 (by decide)
  refine v_nil ?_
  refine q_n ?_
  refine w_t rfl ?_
  refine w_seq ?_
  refine w_reg rfl ?_
  refine v_assign (c := .v (.int .u32 2143289344)) rfl ?_
  refine v_nil ?_
  refine q_n ?_
  refine w_ret (q_r ?_)
  refine r_r rfl ?_
  exact tr_v
theorem cBOs (a : Nat) (ha : okF .f32 (some a)) : PureC X 76 [.c (.f .f32 (some a))] (.c (.v (.int .u32 a))) := by
  refine PureC.of_body (drawD_ok X) (fun _ _ => Go.Proofs.Tryz.call76 _ _) Go.Proofs.Tryz.func76 rfl (n := 8) rfl ?_
  refine w_seq ?_
  refine w_reg rfl ?_
  refine v_assign (c := .v (.int .u32 0)) rfl ?_
  refine v_nil ?_
  refine q_n ?_
  refine w_seq ?_
  refine w_seq ?_
  refine w_reg rfl ?_
  refine v_move rfl ?_
  refine v_move rfl ?_
  refine v_binb lay26 rfl rfl rfl (fun h1 => ?_) (fun h1 => ?_)
  · exact absurd h1 (by rw [ford_self ha]; decide)
  refine v_nil ?_
  refine q_n ?_
  refine w_f rfl ?_
  refine w_skip ?_
  refine q_n ?_
  refine w_seq ?_
  refine w_reg rfl ?_
  refine v_move rfl ?_
  refine v_call (cFB _) rfl rfl rfl (.cons vw_f .nil) ?_
  refine v_assign rfl ?_
  refine v_nil ?_
  refine q_n ?_
  refine w_ret ?_
  refine r_r rfl ?_
  exact tr_v
def fb : Option Nat → Int
  | none => 2143289344
  | some a => a
theorem fb_inj {x y : Option Nat} (hx : okF .f32 x) (hy : okF .f32 y) : fb x = fb y ↔ x = y := by
  have hn : ∀ b : Nat, okF .f32 (some b) → (2143289344 : Int) ≠ b := fun b h e => by
    have h1 := h b rfl
    obtain rfl : b = 2143289344 := by omega
    exact absurd h1 (by decide)
  cases x with
  | none => cases y with
    | none => simp
    | some b => simp only [fb, hn b hy, false_iff]; exact fun h => by cases h
  | some a => cases y with
    | none => simp only [fb, (hn a hx).symm, false_iff]; exact fun h => by cases h
    | some b => simp only [fb, Option.some.injEq]; omega
theorem cBO (x : Option Nat) (hx : okF .f32 x) : PureC X 76 [.c (.f .f32 x)] (.c (.v (.int .u32 (fb x)))) := by
  cases x with
  | none => exact cBOn
  | some a => exact cBOs a hx
theorem cSN (x y : Option Nat) (hx : okF .f32 x) (hy : okF .f32 y) : PureC X 27 [.c (.f .f32 x), .c (.f .f32 y)] (cB (decide (x = y))) := by
  refine PureC.of_body (drawD_ok X) (fun _ _ => Go.Proofs.Tryz.call27 _ _) Go.Proofs.Tryz.func27 rfl (n := 10) rfl ?_
  refine w_seq ?_
  refine w_reg rfl ?_
  refine v_assign (c := .v (.bool false)) rfl ?_
  refine v_nil ?_
  refine q_n ?_
  refine w_seq ?_
  refine w_reg rfl ?_
  refine v_move rfl ?_
  refine v_call (cBO _ (by assumption)) rfl rfl rfl (.cons vw_f .nil) ?_
  refine v_move rfl ?_
  refine v_call (cBO _ (by assumption)) rfl rfl rfl (.cons vw_f .nil) ?_
  refine v_eql lay124 rfl rfl (fun h1 => ?_) (fun h1 => ?_)
  · refine v_assign rfl ?_
    refine v_nil ?_
    refine q_n ?_
    refine w_ret ?_
    refine r_r rfl ?_
    exact a_b (by rw [← fb_inj hx hy]; simp_all)
  refine v_assign rfl ?_
  refine v_nil ?_
  refine q_n ?_
  refine w_ret ?_
  refine r_r rfl ?_
  exact a_b (by rw [← fb_inj hx hy]; simp_all)
theorem cToCars (g : Fin 16 → Option Nat) : PureC X 169 [.agg (cac g)] (.agg (cac g)) := by
  refine PureC.of_body (drawD_ok X) (fun _ _ => Go.Proofs.Tryz.call169 _ _) Go.Proofs.Tryz.func169 rfl (n := 15) rfl ?_
  refine w_seq ?_
  refine w_reg rfl ?_
  refine v_box (m := 0) (H' := [_]) lay70 rfl rfl rfl ?_
  refine v_alloc (m := 1) (H' := [_, ⟨[.f _ _, .f _ _, .f _ _, .f _ _, .f _ _, .f _ _, .f _ _, .f _ _, .f _ _, .f _ _, .f _ _, .f _ _, .f _ _, .f _ _, .f _ _, .f _ _], 71, true⟩]) lay71 rfl rfl ?_
  refine v_nil ?_
  refine q_n ?_
  refine w_seq ?_
  refine w_reg rfl ?_
  refine v_alloc (m := 2) (H' := [_, _, ⟨[.f _ _, .f _ _, .f _ _, .f _ _, .f _ _, .f _ _, .f _ _, .f _ _, .f _ _, .f _ _, .f _ _, .f _ _, .f _ _, .f _ _, .f _ _, .f _ _], 71, true⟩]) lay71 rfl rfl ?_
  refine v_nil ?_
  refine q_n ?_
  refine w_seq ?_
  refine w_seq ?_
  refine w_reg rfl ?_
  refine v_assign (c := .v (.int .i64 0)) rfl ?_
  refine v_nil ?_
  refine q_n ?_
  refine w_block ?_
  refine w_loop (fun k sl H => ∃ i : Nat, k = 16 - i ∧ i ≤ 16 ∧ sl = sls [(1, .c (.pt 0 0)), (2, .c (.pt 1 0)), (3, .c (.pt 2 0)), (4, cI i)] ∧ H = [⟨flat fe (l16 g), 70, true⟩, ⟨flat fe (l16 (fun _ => some 0)), 71, true⟩, ⟨flat fe (l16 (mixF i g (fun _ => some 0))), 71, true⟩]) ?_ ?_
  · refine ⟨_, _, _, ?_, 0, rfl, Nat.zero_le _, rfl, rfl⟩
    exact turn [some 0, some 1, some 2] rfl rfl rfl ⟨⟨_, rfl, trc_flat fe_sc rfl⟩, ⟨_, rfl, trc_flat fe_sc rfl⟩, ⟨_, rfl, trc_flat fe_sc (by rw [mixF_0]; rfl)⟩, trivial⟩ ⟨tr_pt rfl, tr_pt rfl, tr_pt rfl, tr_v, trivial⟩
  rintro k sl H ⟨i, rfl, hi, rfl, rfl⟩
  refine w_seq ?_
  refine w_seq ?_
  refine w_reg rfl ?_
  refine v_move rfl ?_
  refine v_lss lay3 rfl rfl (fun h1 => ?_) (fun h1 => ?_)
  rotate_left
  · refine v_nil ?_
    refine q_n ?_
    refine w_f rfl ?_
    refine w_exit ?_
    refine q_e ?_
    refine q_e ?_
    refine q_hit ?_
    refine q_n ?_
    refine w_seq ?_
    refine w_reg rfl ?_
    refine v_load_pt (.agg [_, _, _, _, _, _, _, _, _, _, _, _, _, _, _, _]) lay71 rfl rfl rfl rfl ?_
    refine v_store (H' := [_, ⟨[_, _, _, _, _, _, _, _, _, _, _, _, _, _, _, _], 71, true⟩, _]) lay71 rfl rfl rfl rfl rfl rfl ?_
    refine v_nil ?_
    refine q_n ?_
    refine w_ret ?_
    refine r_r rfl ?_
    obtain rfl : i = 16 := by omega
    exact a_agg (.cons tr_f (.cons tr_f (.cons tr_f (.cons tr_f (.cons tr_f (.cons tr_f (.cons tr_f (.cons tr_f (.cons tr_f (.cons tr_f (.cons tr_f (.cons tr_f (.cons tr_f (.cons tr_f (.cons tr_f (.cons tr_f .nil))))))))))))))))
  have hi1 : i < 16 := by omega
  refine v_nil ?_
  refine q_n ?_
  refine w_t rfl ?_
  refine w_skip ?_
  refine q_n ?_
  refine w_seq ?_
  refine w_block ?_
  refine w_reg rfl ?_
  refine v_move rfl ?_
  refine v_move rfl ?_
  refine v_idx_arr_e (k := 1) (i) lay70 lay26 rfl rfl rfl (rfl) (hi1) ?_
  refine v_load_flat_e (enc := fe) (ys := l16 g) i 0 (.c (.f .f32 (g ⟨i, hi1⟩))) fe_len lay26 rfl rfl (by omega) hi1 (by decide) (f16_ld g hi1 _) ?_
  refine v_idx_arr_e (k := 1) (i) lay71 lay26 rfl rfl rfl (rfl) (hi1) ?_
  refine v_store_flat (H' := [_, _, _]) i 0 (g ⟨i, hi1⟩) fe_len lay26 rfl rfl rfl (by omega) (by rw [l16_len]; exact hi1) rfl rfl (rfl) rfl ?_
  refine v_nil ?_
  refine q_bn ?_
  refine q_n ?_
  refine w_reg rfl ?_
  refine v_move rfl ?_
  refine v_add lay3 rfl rfl (i64r (by omega)) ?_
  refine v_assign rfl ?_
  refine v_nil ?_
  refine q_n ?_
  refine ⟨_, _, _, ?_, ⟨i + 1, rfl, by omega, rfl, rfl⟩, by omega⟩
  exact turn [some 0, some 1, some 2] rfl rfl rfl ⟨⟨_, rfl, trc_flat fe_sc rfl⟩, ⟨_, rfl, trc_flat fe_sc rfl⟩, ⟨_, rfl, trc_flat fe_sc (congrArg (flat fe) ((l16_set _ hi1 _).trans (congrArg l16 (mixF_put _ _ hi1))))⟩, trivial⟩ ⟨tr_pt rfl, tr_pt rfl, tr_pt rfl, tr_v, trivial⟩
theorem cToFour (g : Fin 4 → Option Nat) : PureC X 213 [.agg (foc g)] (.agg (foc g)) := by
  refine PureC.of_body (drawD_ok X) (fun _ _ => Go.Proofs.Tryz.call213 _ _) Go.Proofs.Tryz.func213 rfl (n := 15) rfl ?_
  refine w_seq ?_
  refine w_reg rfl ?_
  refine v_box (m := 0) (H' := [_]) lay48 rfl rfl rfl ?_
  refine v_alloc (m := 1) (H' := [_, ⟨[.f _ _, .f _ _, .f _ _, .f _ _], 51, true⟩]) lay51 rfl rfl ?_
  refine v_nil ?_
  refine q_n ?_
  refine w_seq ?_
  refine w_reg rfl ?_
  refine v_alloc (m := 2) (H' := [_, _, ⟨[.f _ _, .f _ _, .f _ _, .f _ _], 51, true⟩]) lay51 rfl rfl ?_
  refine v_nil ?_
  refine q_n ?_
  refine w_seq ?_
  refine w_seq ?_
  refine w_reg rfl ?_
  refine v_assign (c := .v (.int .i64 0)) rfl ?_
  refine v_nil ?_
  refine q_n ?_
  refine w_block ?_
  refine w_loop (fun k sl H => ∃ i : Nat, k = 4 - i ∧ i ≤ 4 ∧ sl = sls [(1, .c (.pt 0 0)), (2, .c (.pt 1 0)), (3, .c (.pt 2 0)), (4, cI i)] ∧ H = [⟨flat fe (l4 g), 48, true⟩, ⟨flat fe (l4 (fun _ => some 0)), 51, true⟩, ⟨flat fe (l4 (mixF i g (fun _ => some 0))), 51, true⟩]) ?_ ?_
  · refine ⟨_, _, _, ?_, 0, rfl, Nat.zero_le _, rfl, rfl⟩
    exact turn [some 0, some 1, some 2] rfl rfl rfl ⟨⟨_, rfl, trc_flat fe_sc rfl⟩, ⟨_, rfl, trc_flat fe_sc rfl⟩, ⟨_, rfl, trc_flat fe_sc (by rw [mixF_0]; rfl)⟩, trivial⟩ ⟨tr_pt rfl, tr_pt rfl, tr_pt rfl, tr_v, trivial⟩
  rintro k sl H ⟨i, rfl, hi, rfl, rfl⟩
  refine w_seq ?_
  refine w_seq ?_
  refine w_reg rfl ?_
  refine v_move rfl ?_
  refine v_lss lay3 rfl rfl (fun h1 => ?_) (fun h1 => ?_)
  rotate_left
  · refine v_nil ?_
    refine q_n ?_
    refine w_f rfl ?_
    refine w_exit ?_
    refine q_e ?_
    refine q_e ?_
    refine q_hit ?_
    refine q_n ?_
    refine w_seq ?_
    refine w_reg rfl ?_
    refine v_load_pt (.agg [_, _, _, _]) lay51 rfl rfl rfl rfl ?_
    refine v_store (H' := [_, ⟨[_, _, _, _], 51, true⟩, _]) lay51 rfl rfl rfl rfl rfl rfl ?_
    refine v_nil ?_
    refine q_n ?_
    refine w_ret ?_
    refine r_r rfl ?_
    obtain rfl : i = 4 := by omega
    exact a_agg (.cons tr_f (.cons tr_f (.cons tr_f (.cons tr_f .nil))))
  have hi1 : i < 4 := by omega
  refine v_nil ?_
  refine q_n ?_
  refine w_t rfl ?_
  refine w_skip ?_
  refine q_n ?_
  refine w_seq ?_
  refine w_block ?_
  refine w_reg rfl ?_
  refine v_move rfl ?_
  refine v_move rfl ?_
  refine v_idx_arr_e (k := 1) (i) lay48 lay26 rfl rfl rfl (rfl) (hi1) ?_
  refine v_load_flat_e (enc := fe) (ys := l4 g) i 0 (.c (.f .f32 (g ⟨i, hi1⟩))) fe_len lay26 rfl rfl (by omega) hi1 (by decide) (f4_ld g hi1 _) ?_
  refine v_idx_arr_e (k := 1) (i) lay51 lay26 rfl rfl rfl (rfl) (hi1) ?_
  refine v_store_flat (H' := [_, _, _]) i 0 (g ⟨i, hi1⟩) fe_len lay26 rfl rfl rfl (by omega) (by rw [l4_len]; exact hi1) rfl rfl (rfl) rfl ?_
  refine v_nil ?_
  refine q_bn ?_
  refine q_n ?_
  refine w_reg rfl ?_
  refine v_move rfl ?_
  refine v_add lay3 rfl rfl (i64r (by omega)) ?_
  refine v_assign rfl ?_
  refine v_nil ?_
  refine q_n ?_
  refine ⟨_, _, _, ?_, ⟨i + 1, rfl, by omega, rfl, rfl⟩, by omega⟩
  exact turn [some 0, some 1, some 2] rfl rfl rfl ⟨⟨_, rfl, trc_flat fe_sc rfl⟩, ⟨_, rfl, trc_flat fe_sc rfl⟩, ⟨_, rfl, trc_flat fe_sc (congrArg (flat fe) ((l4_set _ hi1 _).trans (congrArg l4 (mixF_put _ _ hi1))))⟩, trivial⟩ ⟨tr_pt rfl, tr_pt rfl, tr_pt rfl, tr_v, trivial⟩
theorem cToA4 (g : Fin 4 → Option Nat) : PureC X 231 [.agg (foc g)] (.agg (foc g)) := by
  refine PureC.of_body (drawD_ok X) (fun _ _ => Go.Proofs.Tryz.call231 _ _) Go.Proofs.Tryz.func231 rfl (n := 15) rfl ?_
  refine w_seq ?_
  refine w_reg rfl ?_
  refine v_box (m := 0) (H' := [_]) lay48 rfl rfl rfl ?_
  refine v_alloc (m := 1) (H' := [_, ⟨[.f _ _, .f _ _, .f _ _, .f _ _], 48, true⟩]) lay48 rfl rfl ?_
  refine v_nil ?_
  refine q_n ?_
  refine w_seq ?_
  refine w_reg rfl ?_
  refine v_alloc (m := 2) (H' := [_, _, ⟨[.f _ _, .f _ _, .f _ _, .f _ _], 48, true⟩]) lay48 rfl rfl ?_
  refine v_nil ?_
  refine q_n ?_
  refine w_seq ?_
  refine w_seq ?_
  refine w_reg rfl ?_
  refine v_assign (c := .v (.int .i64 0)) rfl ?_
  refine v_nil ?_
  refine q_n ?_
  refine w_block ?_
  refine w_loop (fun k sl H => ∃ i : Nat, k = 4 - i ∧ i ≤ 4 ∧ sl = sls [(1, .c (.pt 0 0)), (2, .c (.pt 1 0)), (3, .c (.pt 2 0)), (4, cI i)] ∧ H = [⟨flat fe (l4 g), 48, true⟩, ⟨flat fe (l4 (fun _ => some 0)), 48, true⟩, ⟨flat fe (l4 (mixF i g (fun _ => some 0))), 48, true⟩]) ?_ ?_
  · refine ⟨_, _, _, ?_, 0, rfl, Nat.zero_le _, rfl, rfl⟩
    exact turn [some 0, some 1, some 2] rfl rfl rfl ⟨⟨_, rfl, trc_flat fe_sc rfl⟩, ⟨_, rfl, trc_flat fe_sc rfl⟩, ⟨_, rfl, trc_flat fe_sc (by rw [mixF_0]; rfl)⟩, trivial⟩ ⟨tr_pt rfl, tr_pt rfl, tr_pt rfl, tr_v, trivial⟩
  rintro k sl H ⟨i, rfl, hi, rfl, rfl⟩
  refine w_seq ?_
  refine w_seq ?_
  refine w_reg rfl ?_
  refine v_move rfl ?_
  refine v_lss lay3 rfl rfl (fun h1 => ?_) (fun h1 => ?_)
  rotate_left
  · refine v_nil ?_
    refine q_n ?_
    refine w_f rfl ?_
    refine w_exit ?_
    refine q_e ?_
    refine q_e ?_
    refine q_hit ?_
    refine q_n ?_
    refine w_seq ?_
    refine w_reg rfl ?_
    refine v_load_pt (.agg [_, _, _, _]) lay48 rfl rfl rfl rfl ?_
    refine v_store (H' := [_, ⟨[_, _, _, _], 48, true⟩, _]) lay48 rfl rfl rfl rfl rfl rfl ?_
    refine v_nil ?_
    refine q_n ?_
    refine w_ret ?_
    refine r_r rfl ?_
    obtain rfl : i = 4 := by omega
    exact a_agg (.cons tr_f (.cons tr_f (.cons tr_f (.cons tr_f .nil))))
  have hi1 : i < 4 := by omega
  refine v_nil ?_
  refine q_n ?_
  refine w_t rfl ?_
  refine w_skip ?_
  refine q_n ?_
  refine w_seq ?_
  refine w_block ?_
  refine w_reg rfl ?_
  refine v_move rfl ?_
  refine v_move rfl ?_
  refine v_idx_arr_e (k := 1) (i) lay48 lay26 rfl rfl rfl (rfl) (hi1) ?_
  refine v_load_flat_e (enc := fe) (ys := l4 g) i 0 (.c (.f .f32 (g ⟨i, hi1⟩))) fe_len lay26 rfl rfl (by omega) hi1 (by decide) (f4_ld g hi1 _) ?_
  refine v_idx_arr_e (k := 1) (i) lay48 lay26 rfl rfl rfl (rfl) (hi1) ?_
  refine v_store_flat (H' := [_, _, _]) i 0 (g ⟨i, hi1⟩) fe_len lay26 rfl rfl rfl (by omega) (by rw [l4_len]; exact hi1) rfl rfl (rfl) rfl ?_
  refine v_nil ?_
  refine q_bn ?_
  refine q_n ?_
  refine w_reg rfl ?_
  refine v_move rfl ?_
  refine v_add lay3 rfl rfl (i64r (by omega)) ?_
  refine v_assign rfl ?_
  refine v_nil ?_
  refine q_n ?_
  refine ⟨_, _, _, ?_, ⟨i + 1, rfl, by omega, rfl, rfl⟩, by omega⟩
  exact turn [some 0, some 1, some 2] rfl rfl rfl ⟨⟨_, rfl, trc_flat fe_sc rfl⟩, ⟨_, rfl, trc_flat fe_sc rfl⟩, ⟨_, rfl, trc_flat fe_sc (congrArg (flat fe) ((l4_set _ hi1 _).trans (congrArg l4 (mixF_put _ _ hi1))))⟩, trivial⟩ ⟨tr_pt rfl, tr_pt rfl, tr_pt rfl, tr_v, trivial⟩
theorem cEqCars (g : Fin 16 → Option Nat) (hg : ∀ i (hi : i < 16), okF .f32 (g ⟨i, hi⟩)) : PureC X 184 [.agg (cac g), .agg (cac g)] (cB (decide True)) := by
  refine PureC.of_body (drawD_ok X) (fun _ _ => Go.Proofs.Tryz.call184 _ _) Go.Proofs.Tryz.func184 rfl (n := 20) rfl ?_
  refine w_seq ?_
  refine w_reg rfl ?_
  refine v_box (m := 0) (H' := [_]) lay71 rfl rfl rfl ?_
  refine v_box (m := 1) (H' := [_, _]) lay71 rfl rfl rfl ?_
  refine v_assign (c := .v (.bool false)) rfl ?_
  refine v_nil ?_
  refine q_n ?_
  refine w_seq ?_
  refine w_seq ?_
  refine w_reg rfl ?_
  refine v_assign (c := .v (.int .i64 0)) rfl ?_
  refine v_nil ?_
  refine q_n ?_
  refine w_block ?_
  refine w_loop (fun k sl H => ∃ i : Nat, k = 16 - i ∧ i ≤ 16 ∧ sl = sls [(2, .c (.pt 0 0)), (3, .c (.pt 1 0)), (5, cI i)] ∧ H = [⟨flat fe (l16 g), 71, true⟩, ⟨flat fe (l16 g), 71, true⟩]) ?_ ?_
  · refine ⟨_, _, _, ?_, 0, rfl, Nat.zero_le _, rfl, rfl⟩
    exact turn [some 0, some 1] rfl rfl rfl ⟨⟨_, rfl, trc_flat fe_sc rfl⟩, ⟨_, rfl, trc_flat fe_sc rfl⟩, trivial⟩ ⟨tr_pt rfl, tr_pt rfl, tr_v, trivial⟩
  rintro k sl H ⟨i, rfl, hi, rfl, rfl⟩
  refine w_seq ?_
  refine w_seq ?_
  refine w_reg rfl ?_
  refine v_move rfl ?_
  refine v_lss lay3 rfl rfl (fun h1 => ?_) (fun h1 => ?_)
  rotate_left
  · refine v_nil ?_
    refine q_n ?_
    refine w_f rfl ?_
    refine w_exit ?_
    refine q_e ?_
    refine q_e ?_
    refine q_hit ?_
    refine q_n ?_
    refine w_seq ?_
    refine w_reg rfl ?_
    refine v_assign (c := .v (.bool true)) rfl ?_
    refine v_nil ?_
    refine q_n ?_
    refine w_ret ?_
    refine r_r rfl ?_
    exact a_b ⟨fun _ => trivial, fun _ => rfl⟩
  have hi1 : i < 16 := by omega
  refine v_nil ?_
  refine q_n ?_
  refine w_t rfl ?_
  refine w_skip ?_
  refine q_n ?_
  refine w_seq ?_
  refine w_block ?_
  refine w_seq ?_
  refine w_draw [0, 1, 3, 7, 0, 16, 48, 112, 255, 511] [⟨0, 0, []⟩, ⟨1, 0, []⟩, ⟨2, 0, []⟩, ⟨3, 0, []⟩, ⟨4, 0, []⟩, ⟨5, 0, []⟩, ⟨6, 0, []⟩, ⟨7, 0, []⟩, ⟨8, 0, []⟩, ⟨9, 0, []⟩] rfl rfl ?_
  refine d_q rfl rfl rfl rfl rfl ?_
  refine v_move rfl ?_
  refine v_nil ?_
  refine d_q rfl rfl rfl rfl rfl ?_
  refine v_idx_arr_e (k := 1) (i) lay71 lay26 rfl rfl rfl (rfl) (hi1) ?_
  refine v_nil ?_
  refine d_q rfl rfl rfl rfl rfl ?_
  refine v_load_flat_e (enc := fe) (ys := l16 g) i 0 (.c (.f .f32 (g ⟨i, hi1⟩))) fe_len lay26 rfl rfl (by omega) hi1 (by decide) (f16_ld g hi1 _) ?_
  refine v_nil ?_
  refine d_q rfl rfl rfl rfl rfl ?_
  refine v_conv_ff _ lay26 lay42 rfl (convF_single (hg i hi1)) ?_
  refine v_nil ?_
  refine d_q rfl rfl rfl rfl rfl ?_
  refine v_move rfl ?_
  refine v_nil ?_
  refine d_q rfl rfl rfl rfl rfl ?_
  refine v_idx_arr_e (k := 1) (i) lay71 lay26 rfl rfl rfl (rfl) (hi1) ?_
  refine v_nil ?_
  refine d_q rfl rfl rfl rfl rfl ?_
  refine v_load_flat_e (enc := fe) (ys := l16 g) i 0 (.c (.f .f32 (g ⟨i, hi1⟩))) fe_len lay26 rfl rfl (by omega) hi1 (by decide) (f16_ld g hi1 _) ?_
  refine v_nil ?_
  refine d_q rfl rfl rfl rfl rfl ?_
  refine v_conv_ff _ lay26 lay42 rfl (convF_single (hg i hi1)) ?_
  refine v_nil ?_
  refine d_callb (cSF _ (wide_ok (hg i hi1))) rfl rfl rfl rfl (.cons vw_f (.cons vw_f .nil)) (fun h2 => ?_) (fun h2 => ?_)
  rotate_left
  · exact absurd trivial h2
  refine d_q rfl rfl rfl rfl rfl ?_
  refine v_not false rfl rfl ?_
  refine v_nil ?_
  refine d_nil ?_
  refine q_n ?_
  refine w_f rfl ?_
  refine w_skip ?_
  refine q_bn ?_
  refine q_n ?_
  refine w_reg rfl ?_
  refine v_move rfl ?_
  refine v_add lay3 rfl rfl (i64r (by omega)) ?_
  refine v_assign rfl ?_
  refine v_nil ?_
  refine q_n ?_
  refine ⟨_, _, _, ?_, ⟨i + 1, rfl, by omega, rfl, rfl⟩, by omega⟩
  exact turn [some 0, some 1] rfl rfl rfl ⟨⟨_, rfl, trc_flat fe_sc rfl⟩, ⟨_, rfl, trc_flat fe_sc rfl⟩, trivial⟩ ⟨tr_pt rfl, tr_pt rfl, tr_v, trivial⟩
theorem cEqFour (g : Fin 4 → Option Nat) (hg : ∀ i (hi : i < 4), okF .f32 (g ⟨i, hi⟩)) : PureC X 215 [.agg (foc g), .agg (foc g)] (cB (decide True)) := by
  refine PureC.of_body (drawD_ok X) (fun _ _ => Go.Proofs.Tryz.call215 _ _) Go.Proofs.Tryz.func215 rfl (n := 20) rfl ?_
  refine w_seq ?_
  refine w_reg rfl ?_
  refine v_box (m := 0) (H' := [_]) lay51 rfl rfl rfl ?_
  refine v_box (m := 1) (H' := [_, _]) lay51 rfl rfl rfl ?_
  refine v_assign (c := .v (.bool false)) rfl ?_
  refine v_nil ?_
  refine q_n ?_
  refine w_seq ?_
  refine w_seq ?_
  refine w_reg rfl ?_
  refine v_assign (c := .v (.int .i64 0)) rfl ?_
  refine v_nil ?_
  refine q_n ?_
  refine w_block ?_
  refine w_loop (fun k sl H => ∃ i : Nat, k = 4 - i ∧ i ≤ 4 ∧ sl = sls [(2, .c (.pt 0 0)), (3, .c (.pt 1 0)), (5, cI i)] ∧ H = [⟨flat fe (l4 g), 51, true⟩, ⟨flat fe (l4 g), 51, true⟩]) ?_ ?_
  · refine ⟨_, _, _, ?_, 0, rfl, Nat.zero_le _, rfl, rfl⟩
    exact turn [some 0, some 1] rfl rfl rfl ⟨⟨_, rfl, trc_flat fe_sc rfl⟩, ⟨_, rfl, trc_flat fe_sc rfl⟩, trivial⟩ ⟨tr_pt rfl, tr_pt rfl, tr_v, trivial⟩
  rintro k sl H ⟨i, rfl, hi, rfl, rfl⟩
  refine w_seq ?_
  refine w_seq ?_
  refine w_reg rfl ?_
  refine v_move rfl ?_
  refine v_lss lay3 rfl rfl (fun h1 => ?_) (fun h1 => ?_)
  rotate_left
  · refine v_nil ?_
    refine q_n ?_
    refine w_f rfl ?_
    refine w_exit ?_
    refine q_e ?_
    refine q_e ?_
    refine q_hit ?_
    refine q_n ?_
    refine w_seq ?_
    refine w_reg rfl ?_
    refine v_assign (c := .v (.bool true)) rfl ?_
    refine v_nil ?_
    refine q_n ?_
    refine w_ret ?_
    refine r_r rfl ?_
    exact a_b ⟨fun _ => trivial, fun _ => rfl⟩
  have hi1 : i < 4 := by omega
  refine v_nil ?_
  refine q_n ?_
  refine w_t rfl ?_
  refine w_skip ?_
  refine q_n ?_
  refine w_seq ?_
  refine w_block ?_
  refine w_seq ?_
  refine w_draw [0, 1, 3, 7, 0, 16, 48, 112, 255, 511] [⟨0, 0, []⟩, ⟨1, 0, []⟩, ⟨2, 0, []⟩, ⟨3, 0, []⟩, ⟨4, 0, []⟩, ⟨5, 0, []⟩, ⟨6, 0, []⟩, ⟨7, 0, []⟩, ⟨8, 0, []⟩, ⟨9, 0, []⟩] rfl rfl ?_
  refine d_q rfl rfl rfl rfl rfl ?_
  refine v_move rfl ?_
  refine v_nil ?_
  refine d_q rfl rfl rfl rfl rfl ?_
  refine v_idx_arr_e (k := 1) (i) lay51 lay26 rfl rfl rfl (rfl) (hi1) ?_
  refine v_nil ?_
  refine d_q rfl rfl rfl rfl rfl ?_
  refine v_load_flat_e (enc := fe) (ys := l4 g) i 0 (.c (.f .f32 (g ⟨i, hi1⟩))) fe_len lay26 rfl rfl (by omega) hi1 (by decide) (f4_ld g hi1 _) ?_
  refine v_nil ?_
  refine d_q rfl rfl rfl rfl rfl ?_
  refine v_conv_ff _ lay26 lay42 rfl (convF_single (hg i hi1)) ?_
  refine v_nil ?_
  refine d_q rfl rfl rfl rfl rfl ?_
  refine v_move rfl ?_
  refine v_nil ?_
  refine d_q rfl rfl rfl rfl rfl ?_
  refine v_idx_arr_e (k := 1) (i) lay51 lay26 rfl rfl rfl (rfl) (hi1) ?_
  refine v_nil ?_
  refine d_q rfl rfl rfl rfl rfl ?_
  refine v_load_flat_e (enc := fe) (ys := l4 g) i 0 (.c (.f .f32 (g ⟨i, hi1⟩))) fe_len lay26 rfl rfl (by omega) hi1 (by decide) (f4_ld g hi1 _) ?_
  refine v_nil ?_
  refine d_q rfl rfl rfl rfl rfl ?_
  refine v_conv_ff _ lay26 lay42 rfl (convF_single (hg i hi1)) ?_
  refine v_nil ?_
  refine d_callb (cSF _ (wide_ok (hg i hi1))) rfl rfl rfl rfl (.cons vw_f (.cons vw_f .nil)) (fun h2 => ?_) (fun h2 => ?_)
  rotate_left
  · exact absurd trivial h2
  refine d_q rfl rfl rfl rfl rfl ?_
  refine v_not false rfl rfl ?_
  refine v_nil ?_
  refine d_nil ?_
  refine q_n ?_
  refine w_f rfl ?_
  refine w_skip ?_
  refine q_bn ?_
  refine q_n ?_
  refine w_reg rfl ?_
  refine v_move rfl ?_
  refine v_add lay3 rfl rfl (i64r (by omega)) ?_
  refine v_assign rfl ?_
  refine v_nil ?_
  refine q_n ?_
  refine ⟨_, _, _, ?_, ⟨i + 1, rfl, by omega, rfl, rfl⟩, by omega⟩
  exact turn [some 0, some 1] rfl rfl rfl ⟨⟨_, rfl, trc_flat fe_sc rfl⟩, ⟨_, rfl, trc_flat fe_sc rfl⟩, trivial⟩ ⟨tr_pt rfl, tr_pt rfl, tr_v, trivial⟩
theorem cEqA4 (g : Fin 4 → Option Nat) (hg : ∀ i (hi : i < 4), okF .f32 (g ⟨i, hi⟩)) : PureC X 82 [.agg (foc g), .agg (foc g)] (cB (decide True)) := by
  refine PureC.of_body (drawD_ok X) (fun _ _ => Go.Proofs.Tryz.call82 _ _) Go.Proofs.Tryz.func82 rfl (n := 20) rfl ?_
  refine w_seq ?_
  refine w_reg rfl ?_
  refine v_box (m := 0) (H' := [_]) lay48 rfl rfl rfl ?_
  refine v_box (m := 1) (H' := [_, _]) lay48 rfl rfl rfl ?_
  refine v_assign (c := .v (.bool false)) rfl ?_
  refine v_nil ?_
  refine q_n ?_
  refine w_seq ?_
  refine w_seq ?_
  refine w_reg rfl ?_
  refine v_assign (c := .v (.int .i64 0)) rfl ?_
  refine v_nil ?_
  refine q_n ?_
  refine w_block ?_
  refine w_loop (fun k sl H => ∃ i : Nat, k = 4 - i ∧ i ≤ 4 ∧ sl = sls [(2, .c (.pt 0 0)), (3, .c (.pt 1 0)), (5, cI i)] ∧ H = [⟨flat fe (l4 g), 48, true⟩, ⟨flat fe (l4 g), 48, true⟩]) ?_ ?_
  · refine ⟨_, _, _, ?_, 0, rfl, Nat.zero_le _, rfl, rfl⟩
    exact turn [some 0, some 1] rfl rfl rfl ⟨⟨_, rfl, trc_flat fe_sc rfl⟩, ⟨_, rfl, trc_flat fe_sc rfl⟩, trivial⟩ ⟨tr_pt rfl, tr_pt rfl, tr_v, trivial⟩
  rintro k sl H ⟨i, rfl, hi, rfl, rfl⟩
  refine w_seq ?_
  refine w_seq ?_
  refine w_reg rfl ?_
  refine v_move rfl ?_
  refine v_lss lay3 rfl rfl (fun h1 => ?_) (fun h1 => ?_)
  rotate_left
  · refine v_nil ?_
    refine q_n ?_
    refine w_f rfl ?_
    refine w_exit ?_
    refine q_e ?_
    refine q_e ?_
    refine q_hit ?_
    refine q_n ?_
    refine w_seq ?_
    refine w_reg rfl ?_
    refine v_assign (c := .v (.bool true)) rfl ?_
    refine v_nil ?_
    refine q_n ?_
    refine w_ret ?_
    refine r_r rfl ?_
    exact a_b ⟨fun _ => trivial, fun _ => rfl⟩
  have hi1 : i < 4 := by omega
  refine v_nil ?_
  refine q_n ?_
  refine w_t rfl ?_
  refine w_skip ?_
  refine q_n ?_
  refine w_seq ?_
  refine w_block ?_
  refine w_seq ?_
  refine w_draw [0, 1, 3, 7, 0, 16, 48, 112, 255, 511] [⟨0, 0, []⟩, ⟨1, 0, []⟩, ⟨2, 0, []⟩, ⟨3, 0, []⟩, ⟨4, 0, []⟩, ⟨5, 0, []⟩, ⟨6, 0, []⟩, ⟨7, 0, []⟩, ⟨8, 0, []⟩, ⟨9, 0, []⟩] rfl rfl ?_
  refine d_q rfl rfl rfl rfl rfl ?_
  refine v_move rfl ?_
  refine v_nil ?_
  refine d_q rfl rfl rfl rfl rfl ?_
  refine v_idx_arr_e (k := 1) (i) lay48 lay26 rfl rfl rfl (rfl) (hi1) ?_
  refine v_nil ?_
  refine d_q rfl rfl rfl rfl rfl ?_
  refine v_load_flat_e (enc := fe) (ys := l4 g) i 0 (.c (.f .f32 (g ⟨i, hi1⟩))) fe_len lay26 rfl rfl (by omega) hi1 (by decide) (f4_ld g hi1 _) ?_
  refine v_nil ?_
  refine d_q rfl rfl rfl rfl rfl ?_
  refine v_conv_ff _ lay26 lay42 rfl (convF_single (hg i hi1)) ?_
  refine v_nil ?_
  refine d_q rfl rfl rfl rfl rfl ?_
  refine v_move rfl ?_
  refine v_nil ?_
  refine d_q rfl rfl rfl rfl rfl ?_
  refine v_idx_arr_e (k := 1) (i) lay48 lay26 rfl rfl rfl (rfl) (hi1) ?_
  refine v_nil ?_
  refine d_q rfl rfl rfl rfl rfl ?_
  refine v_load_flat_e (enc := fe) (ys := l4 g) i 0 (.c (.f .f32 (g ⟨i, hi1⟩))) fe_len lay26 rfl rfl (by omega) hi1 (by decide) (f4_ld g hi1 _) ?_
  refine v_nil ?_
  refine d_q rfl rfl rfl rfl rfl ?_
  refine v_conv_ff _ lay26 lay42 rfl (convF_single (hg i hi1)) ?_
  refine v_nil ?_
  refine d_callb (cSF _ (wide_ok (hg i hi1))) rfl rfl rfl rfl (.cons vw_f (.cons vw_f .nil)) (fun h2 => ?_) (fun h2 => ?_)
  rotate_left
  · exact absurd trivial h2
  refine d_q rfl rfl rfl rfl rfl ?_
  refine v_not false rfl rfl ?_
  refine v_nil ?_
  refine d_nil ?_
  refine q_n ?_
  refine w_f rfl ?_
  refine w_skip ?_
  refine q_bn ?_
  refine q_n ?_
  refine w_reg rfl ?_
  refine v_move rfl ?_
  refine v_add lay3 rfl rfl (i64r (by omega)) ?_
  refine v_assign rfl ?_
  refine v_nil ?_
  refine q_n ?_
  refine ⟨_, _, _, ?_, ⟨i + 1, rfl, by omega, rfl, rfl⟩, by omega⟩
  exact turn [some 0, some 1] rfl rfl rfl ⟨⟨_, rfl, trc_flat fe_sc rfl⟩, ⟨_, rfl, trc_flat fe_sc rfl⟩, trivial⟩ ⟨tr_pt rfl, tr_pt rfl, tr_v, trivial⟩
end Go.VL
