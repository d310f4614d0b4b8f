/- Texts of one proof, put together: V44, V45, V46, V47, V48, V49, V50, V51, V52, V53, V54, V55, V58, V59, V60, V61, V62, V63, V64, V65, V66, V67, V68, X3. -/
import Derived.Test.YtinnefdhocdmmaaDoorM2
import Derived.DeepKeys
import Derived.Laws.BytesString
import Derived.Lib.AppendIntMem
import Derived.Lib.LaidTab
import Derived.Lib.ParseIntB
import Derived.Lib.Bytealg
import Derived.Lib.ItoaNum
import Derived.Test.YtinnefdhocdmmaaDoorProg
namespace Go.VL
open Go.RowKit
/-- The caller's cell, and what the called function sees: its objects are the caller's 'ids'; the other ones are frozen. -/
inductive Gv (H : List Ob) (ids : List Nat) : C → C → Prop
  | pt {i j off : Nat} (h : ids[i]? = some j) : Gv H ids (.pt j off) (.pt i off)
  | mu {i j off n k : Nat} (h : ids[i]? = some j) : Gv H ids (.mu j off n k) (.mu i off n k)
  | dn {c c' : C} (h : Dn false H (fun id => id ∉ ids) c c') (ho : c'.own = false) : Gv H ids c c'
inductive GvL (H : List Ob) (ids : List Nat) : List C → List C → Prop
  | nil : GvL H ids [] []
  | cons {c c' : C} {cs cs' : List C} (h : Gv H ids c c') (hs : GvL H ids cs cs') : GvL H ids (c :: cs) (c' :: cs')
  | sc {cs : List C} (h : ∀ c ∈ cs, sc c = true) : GvL H ids cs cs
inductive GvV (H : List Ob) (ids : List Nat) : V → V → Prop
  | c {x y : C} (h : Gv H ids x y) : GvV H ids (.c x) (.c y)
  | agg {cs cs' : List C} (h : GvL H ids cs cs') : GvV H ids (.agg cs) (.agg cs')
  | any {v : V} : GvV H ids v .any
inductive GvVs (H : List Ob) (ids : List Nat) : List V → List V → Prop
  | nil : GvVs H ids [] []
  | cons {v v' : V} {vs vs' : List V} (h : GvV H ids v v') (hs : GvVs H ids vs vs') : GvVs H ids (v :: vs) (v' :: vs')
theorem own_sc {c : C} (h : sc c = true) : c.own = false := by cases c <;> first | rfl | cases h
theorem GvL.spec {H : List Ob} {ids : List Nat} {cs cs' : List C} (h : GvL H ids cs cs') : cs'.length = cs.length ∧ ∀ (j : Nat) (c c' : C), cs[j]? = some c → cs'[j]? = some c' → Gv H ids c c' := by
  induction h with
  | nil => exact ⟨rfl, fun j c c' h => by simp at h⟩
  | cons h hs ih =>
    refine ⟨by simp [ih.1], fun j x x' hj hj' => ?_⟩
    cases j with
    | zero => simp at hj hj'; subst hj hj'; exact h
    | succ j => exact ih.2 j x x' (by simpa using hj) (by simpa using hj')
  | sc h => exact ⟨rfl, same_of fun c hc => .dn (.sc (h c hc)) (own_sc (h c hc))⟩
theorem GvVs.spec {H : List Ob} {ids : List Nat} {vs vs' : List V} (h : GvVs H ids vs vs') : vs'.length = vs.length ∧ ∀ (j : Nat) (v v' : V), vs[j]? = some v → vs'[j]? = some v' → GvV H ids v v' := by
  induction h with
  | nil => exact ⟨rfl, fun j c c' h => by simp at h⟩
  | cons h hs ih =>
    refine ⟨by simp [ih.1], fun j x x' hj hj' => ?_⟩
    cases j with
    | zero => simp at hj hj'; subst hj hj'; exact h
    | succ j => exact ih.2 j x x' (by simpa using hj) (by simpa using hj')
/-- A cell that such a call may leave or answer. -/
def gC : C → Bool
  | .v _ => true
  | .f _ _ => true
  | .any => true
  | .pt _ _ => true
  | .mu _ _ _ _ => true
  | _ => false
def gV1 : V → Bool
  | .c x => gC x
  | .agg cs => cs.all gC
  | .any => true
  | .tup _ => false
def gV : V → Bool
  | .tup vs => vs.all gV1
  | v => gV1 v
/-- The caller's number of an object. -/
def rnI (ids : List Nat) (N i : Nat) : Nat := match ids[i]? with
  | some j => j
  | none => N + (i - ids.length)
def rnC (ids : List Nat) (N : Nat) : C → C
  | .mu id off n k => .mu (rnI ids N id) off n k
  | .pt id off => .pt (rnI ids N id) off
  | c => c
def rnV1 (ids : List Nat) (N : Nat) : V → V
  | .c x => .c (rnC ids N x)
  | .agg cs => .agg (cs.map (rnC ids N))
  | v => v
def rnV (ids : List Nat) (N : Nat) : V → V
  | .tup vs => .tup (vs.map (rnV1 ids N))
  | v => rnV1 ids N v
def rnO (ids : List Nat) (N : Nat) (o : Ob) : Ob := ⟨o.cs.map (rnC ids N), o.t, o.live⟩
/-- The caller's objects behind the call. -/
def graft (ids : List Nat) (H H1 : List Ob) : List Ob :=
  ((List.range ids.length).foldl (fun (acc : List Ob) i => match ids[i]?, H1[i]? with
    | some j, some o => acc.set j (rnO ids H.length o)
    | _, _ => acc) H) ++ (H1.drop ids.length).map (rnO ids H.length)

section
variable {m m' : Mem} {ids : List Nat} {N : Nat} (hμ : ∀ i, i < m.N → m'.μ (rnI ids N i) = m.μ i ∧ rnI ids N i < m'.N)
include hμ
theorem R.rn {c : C} (h : gC c = true) {u : Value} (hr : R m c u) : R m' (rnC ids N c) u := by
  cases c with
  | mu id off n k =>
    rcases (RV.c hr).muI with ⟨rfl, rfl, rfl, hid, hg⟩ | ⟨cap, rfl, hid, hn, hs, hm, hg⟩
    · obtain ⟨e, hlt⟩ := hμ id hid
      exact .mn hlt (by rw [e]; exact hg)
    · obtain ⟨e, hlt⟩ := hμ id hid
      have := R.mu (m := m') (id := rnI ids N id) (off := off) (n := n) (k := k) (cap := cap) hlt (by rw [e]; exact hg) hn (by rw [e]; exact hs) hm
      rw [e] at this
      exact this
  | pt id off =>
    obtain ⟨rfl, hid, hg⟩ := (RV.c hr).ptI
    obtain ⟨e, hlt⟩ := hμ id hid
    have := R.pt (m := m') (id := rnI ids N id) (off := off) hlt (by rw [e]; exact hg)
    rw [e] at this
    exact this
  | v x => exact hr.sc rfl
  | f k x => exact hr.sc rfl
  | any => cases hr with
    | fz hr => cases hr with | any h => exact .any h
  | _ => cases h
theorem RV.rn1 {v : V} (h : gV1 v = true) {u : Value} (hr : RV m v u) : RV m' (rnV1 ids N v) u := by
  cases v with
  | c x => exact .c (hr.cell.rn hμ h)
  | agg cs =>
    obtain ⟨arr, rfl, h1, h2⟩ := hr.aggI
    refine .agg (by simpa using h1) fun j c hj => ?_
    rw [List.getElem?_map, Option.map_eq_some_iff] at hj
    obtain ⟨c', hj, rfl⟩ := hj
    obtain ⟨u, g1, g2⟩ := h2 j c' hj
    exact ⟨u, g1, g2.rn hμ (List.all_eq_true.1 h c' (List.mem_of_getElem? hj))⟩
  | any => exact .any
  | tup vs => cases h
theorem RV.rn {v : V} (h : gV v = true) {u : Value} (hr : RV m v u) : RV m' (rnV ids N v) u := by
  cases v with
  | tup vs =>
    cases hr with
    | tup us hl hw' hr =>
      refine .tup us (by simpa using hl) (fun j v hj => ?_) fun j v hj => ?_
      · rw [List.getElem?_map, Option.map_eq_some_iff] at hj
        obtain ⟨v', hj, rfl⟩ := hj
        exact hw' j v' hj
      · rw [List.getElem?_map, Option.map_eq_some_iff] at hj
        obtain ⟨v', hj, rfl⟩ := hj
        exact (hr j v' hj).rn1 hμ (List.all_eq_true.1 h v' (List.mem_of_getElem? hj))
  | c x => exact RV.rn1 hμ (v := .c x) h hr
  | agg cs => exact RV.rn1 hμ (v := .agg cs) h hr
  | any => exact .any
end

theorem foldl_set_len (f : Nat → Option (Nat × Ob)) : ∀ (l : List Nat) (H : List Ob), (l.foldl (fun (acc : List Ob) i => match f i with | some (j, o) => acc.set j o | none => acc) H).length = H.length
  | [], H => rfl
  | i :: l, H => by
    rw [List.foldl_cons, foldl_set_len f l]
    split <;> simp
theorem foldl_set_get (f : Nat → Option (Nat × Ob)) (hf : ∀ i i' j o o', f i = some (j, o) → f i' = some (j, o') → i = i') : ∀ (l : List Nat) (H : List Ob), l.Nodup → ∀ x, (l.foldl (fun (acc : List Ob) i => match f i with | some (j, o) => acc.set j o | none => acc) H)[x]? =
    if x < H.length then (match (l.filterMap f).find? (fun p => p.1 == x) with | some p => some p.2 | none => H[x]?) else none
  | [], H, _, x => by
    by_cases h : x < H.length
    · simp [h]
    · simp [h]
  | i :: l, H, hnd, x => by
    obtain ⟨hn1, hn2⟩ := List.nodup_cons.1 hnd
    rw [List.foldl_cons, foldl_set_get f hf l _ hn2 x, List.filterMap_cons]
    cases hfi : f i with
    | none => simp
    | some p =>
      obtain ⟨j, o⟩ := p
      simp only [List.length_set, List.find?_cons]
      by_cases hx : x < H.length
      · simp only [hx, if_true]
        by_cases hj : j = x
        · subst hj
          simp only [beq_self_eq_true]
          have hno : (l.filterMap f).find? (fun p => p.1 == j) = none := by
            rw [List.find?_eq_none]
            intro p hp
            obtain ⟨i', hi', hfi'⟩ := List.mem_filterMap.1 hp
            intro he
            have he' : p.1 = j := by simpa using he
            obtain ⟨pj, po⟩ := p
            simp only at he'
            subst he'
            exact hn1 (hf i i' pj o po hfi hfi' ▸ hi')
          rw [hno]
          simp [hx]
        · have hb : (j == x) = false := by simpa using hj
          simp only [hb]
          rw [List.getElem?_set_ne hj]
      · simp [hx]
theorem graft_eq (ids : List Nat) (H H1 : List Ob) : graft ids H H1 = ((List.range ids.length).foldl (fun (acc : List Ob) i => match (match ids[i]?, H1[i]? with | some j, some o => some (j, rnO ids H.length o) | _, _ => none) with | some (j, o) => acc.set j o | none => acc) H) ++ (H1.drop ids.length).map (rnO ids H.length) := by
  unfold graft
  congr 1
  congr 1
  funext acc i
  cases ids[i]? <;> cases H1[i]? <;> rfl
theorem graft_spec {ids : List Nat} {H H1 : List Ob} (hnd : ids.Nodup) (_hlt : ∀ j ∈ ids, j < H.length) (hk : ids.length ≤ H1.length) {x : Nat} {o : Ob} (h : (graft ids H H1)[x]? = some o) :
    (x < H.length ∧ x ∉ ids ∧ H[x]? = some o) ∨ (∃ (i : Nat) (o1 : Ob), ids[i]? = some x ∧ H1[i]? = some o1 ∧ o = rnO ids H.length o1) ∨ ∃ (i : Nat) (o1 : Ob), x = H.length + i ∧ H1[ids.length + i]? = some o1 ∧ o = rnO ids H.length o1 := by
  rw [graft_eq] at h
  generalize hf : (fun (i : Nat) => (match ids[i]?, H1[i]? with | some j, some o => some (j, rnO ids H.length o) | _, _ => (none : Option (Nat × Ob)))) = f at h
  have hfold : ((List.range ids.length).foldl (fun (acc : List Ob) i => match (match ids[i]?, H1[i]? with | some j, some o => some (j, rnO ids H.length o) | _, _ => none) with | some (j, o) => acc.set j o | none => acc) H) = ((List.range ids.length).foldl (fun (acc : List Ob) i => match f i with | some (j, o) => acc.set j o | none => acc) H) := by
    rw [← hf]
  rw [hfold] at h
  have hfi : ∀ i j o, f i = some (j, o) → ids[i]? = some j ∧ ∃ o1, H1[i]? = some o1 ∧ o = rnO ids H.length o1 := fun i j o hh => by
    rw [← hf] at hh
    simp only at hh
    split at hh
    · rename_i a b h1 h2
      simp only [Option.some.injEq, Prod.mk.injEq] at hh
      obtain ⟨rfl, rfl⟩ := hh
      exact ⟨h1, b, h2, rfl⟩
    · cases hh
  have hinj : ∀ i i' j o o', f i = some (j, o) → f i' = some (j, o') → i = i' := fun i i' j o o' h1 h2 => by
    obtain ⟨a1, -⟩ := hfi i j o h1
    obtain ⟨a2, -⟩ := hfi i' j o' h2
    exact (List.getElem?_inj (List.getElem?_eq_some_iff.1 a1).1 hnd).1 (a1.trans a2.symm)
  have hlen := foldl_set_len f (List.range ids.length) H
  by_cases hx : x < H.length
  · rw [List.getElem?_append_left (by rw [hlen]; exact hx), foldl_set_get f hinj _ H List.nodup_range x, if_pos hx] at h
    cases hfd : ((List.range ids.length).filterMap f).find? (fun p => p.1 == x) with
    | some p =>
      rw [hfd] at h
      have hp := List.find?_some hfd
      have hm := List.mem_of_find?_eq_some hfd
      obtain ⟨i, hi, hfi'⟩ := List.mem_filterMap.1 hm
      obtain ⟨pj, po⟩ := p
      simp only [Option.some.injEq] at h
      have hpx : pj = x := by simpa using hp
      subst hpx h
      obtain ⟨a1, o1, a2, a3⟩ := hfi i pj po hfi'
      exact .inr (.inl ⟨i, o1, a1, a2, a3⟩)
    | none =>
      rw [hfd] at h
      refine .inl ⟨hx, fun hmem => ?_, h⟩
      obtain ⟨i, hi⟩ := List.getElem?_of_mem hmem
      have hil := (List.getElem?_eq_some_iff.1 hi).1
      obtain ⟨o1, ho1⟩ : ∃ o1, H1[i]? = some o1 := ⟨H1[i]'(by omega), List.getElem?_eq_getElem (by omega)⟩
      have : f i = some (x, rnO ids H.length o1) := by rw [← hf]; simp only [hi, ho1]
      rw [List.find?_eq_none] at hfd
      exact hfd (x, rnO ids H.length o1) (List.mem_filterMap.2 ⟨i, by simpa using hil, this⟩) (by simp)
  · rw [List.getElem?_append_right (by rw [hlen]; omega), hlen, List.getElem?_map, Option.map_eq_some_iff] at h
    obtain ⟨o1, h1, rfl⟩ := h
    rw [List.getElem?_drop] at h1
    exact .inr (.inr ⟨x - H.length, o1, by omega, h1, rfl⟩)
theorem graft_len (ids : List Nat) (H H1 : List Ob) : (graft ids H H1).length = H.length + (H1.length - ids.length) := by
  rw [graft_eq, List.length_append]
  have := foldl_set_len (fun (i : Nat) => (match ids[i]?, H1[i]? with | some j, some o => some (j, rnO ids H.length o) | _, _ => (none : Option (Nat × Ob)))) (List.range ids.length) H
  rw [this, List.length_map, List.length_drop]

/-- A call that writes into some objects, in the midst of others. -/
theorem CallC.of_graph {X : Cx} {H H0 : List Ob} {ids : List Nat} {g : FuncId} {args args0 : List V} {P : V → List Ob → Prop} (hp : CallC X g args0 H0 P) (hk : ids.length = H0.length) (hnd : ids.Nodup)
    (hob : ∀ (i j : Nat) (o0 : Ob), ids[i]? = some j → H0[i]? = some o0 → ∃ o, H[j]? = some o ∧ o.live = true ∧ o0.live = true ∧ o.t = o0.t ∧ GvL H ids o.cs o0.cs) (hv : GvVs H ids args args0)
    (hP : ∀ r H1, P r H1 → gV r = true ∧ (∀ o ∈ H1, o.live = true → ∀ c ∈ o.cs, gC c = true) ∧ ids.length ≤ H1.length) {Q : V → List Ob → Prop} (hQ : ∀ r H1, P r H1 → Q (rnV ids H.length r) (graft ids H H1)) : CallC X g args H Q := by
  intro m arr hS hr
  have hlt : ∀ j ∈ ids, j < H.length := fun j hj => by
    obtain ⟨i, hi⟩ := List.getElem?_of_mem hj
    have hil := (List.getElem?_eq_some_iff.1 hi).1
    obtain ⟨o, h1, -⟩ := hob i j _ hi (List.getElem?_eq_getElem (by omega))
    exact (List.getElem?_eq_some_iff.1 h1).1
  let m1 : Mem := ⟨m.w, fun b => m.F b ∨ ∃ (i : Nat) (o : Ob), H[i]? = some o ∧ o.live = true ∧ (m.μ i).gh = false ∧ i ∉ ids ∧ (m.μ i).block = b, m.B, H0.length, fun i => match ids[i]? with | some j => m.μ j | none => ⟨0, 0, 0, true⟩⟩
  have hμ1 : ∀ {i j : Nat}, ids[i]? = some j → m1.μ i = m.μ j := fun {i j} h => by
    show (match ids[i]? with | some j => m.μ j | none => (⟨0, 0, 0, true⟩ : Pl)) = m.μ j
    rw [h]
  have hget0 : ∀ {i : Nat} {o0 : Ob}, H0[i]? = some o0 → ∃ j, ids[i]? = some j := fun {i o0} h => by
    have := (List.getElem?_eq_some_iff.1 h).1
    exact ⟨ids[i]'(by omega), List.getElem?_eq_getElem (by omega)⟩
  have hgv : ∀ {c c0 : C}, Gv H ids c c0 → ∀ {u : Value}, R m c u → R m1 c0 u := fun {c c0} h {u} hr => by
    cases h with
    | @pt i j off h =>
      obtain ⟨rfl, hid, hg⟩ := (RV.c hr).ptI
      have hil := (List.getElem?_eq_some_iff.1 h).1
      have := R.pt (m := m1) (id := i) (off := off) (show i < H0.length by omega) (by rw [hμ1 h]; exact hg)
      rw [hμ1 h] at this
      exact this
    | @mu i j off n k h =>
      have hil := (List.getElem?_eq_some_iff.1 h).1
      rcases (RV.c hr).muI with ⟨rfl, rfl, rfl, hid, hg⟩ | ⟨cap, rfl, hid, hn, hs, hm, hg⟩
      · exact .mn (show i < H0.length by omega) (by rw [hμ1 h]; exact hg)
      · have := R.mu (m := m1) (id := i) (off := off) (n := n) (k := k) (cap := cap) (show i < H0.length by omega) (by rw [hμ1 h]; exact hg) hn (by rw [hμ1 h]; exact hs) hm
        rw [hμ1 h] at this
        exact this
    | dn h ho => exact .fz (by
        rw [ho]
        exact hr.dn hS (m' := m1) rfl (fun b hb _ => .inl hb) (fun id ob h1 h2 h3 h4 => .inr ⟨id, ob, h1, h2, h3, h4, rfl⟩) (fun h => by cases h) h)
  have hS1 : Sim X.G m1 H0 := by
    refine ⟨rfl, fun b hb => ?_, hS.bs, fun i hi hg => ?_, fun i o0 hi hl hg => ?_, fun i o0 hi hl hg => ?_, fun i i' oi oi' hi hi' l1 l2 q1 q2 hne => ?_, fun z hz => ?_⟩
    · rcases hb with hb | ⟨i, o, a1, a2, a3, a4, rfl⟩
      · exact hS.lo b hb
      · exact hS.blk i (Mem.N_lt hS a1) a3
    · obtain ⟨j, hj⟩ := hget0 (List.getElem?_eq_getElem (show i < H0.length from hi))
      rw [hμ1 hj] at hg ⊢
      exact hS.blk j (by rw [hS.N]; exact hlt j (List.mem_of_getElem? hj)) hg
    · obtain ⟨j, hj⟩ := hget0 hi
      rw [hμ1 hj] at hg ⊢
      obtain ⟨o, a1, a2, a3, a4, a5⟩ := hob i j o0 hj hi
      obtain ⟨arr, k1, k2, k3, k4, k5, k6⟩ := hS.ob j o a1 a2 hg
      obtain ⟨s1, s2⟩ := a5.spec
      refine ⟨arr, by rw [← a4]; exact k1, k2, by omega, fun q c hq => ?_, ?_, k6⟩
      · have hql := (List.getElem?_eq_some_iff.1 hq).1
        obtain ⟨u, hu, hr⟩ := k4 q _ (List.getElem?_eq_getElem (by omega))
        exact ⟨u, hu, hgv (s2 q _ c (List.getElem?_eq_getElem (by omega)) hq) hr⟩
      · rintro (hF | ⟨x, ox, b1, b2, b3, b4, b5⟩)
        · exact k5 hF
        · exact hS.inj x j ox o b1 a1 b2 a2 b3 hg (fun e => b4 (e ▸ List.mem_of_getElem? hj)) b5
    · obtain ⟨j, hj⟩ := hget0 hi
      rw [hμ1 hj] at hg
      obtain ⟨o, a1, a2, a3, a4, a5⟩ := hob i j o0 hj hi
      have := hS.gho j o a1 a2 hg
      have hl0 := a5.spec.1
      rw [this] at hl0
      exact List.eq_nil_of_length_eq_zero (by simpa using hl0)
    · obtain ⟨j, hj⟩ := hget0 hi
      obtain ⟨j', hj'⟩ := hget0 hi'
      rw [hμ1 hj] at q1 ⊢
      rw [hμ1 hj'] at q2 ⊢
      obtain ⟨o, a1, a2, -⟩ := hob i j oi hj hi
      obtain ⟨o', b1, b2, -⟩ := hob i' j' oi' hj' hi'
      refine hS.inj j j' o o' a1 b1 a2 b2 q1 q2 fun e => hne ?_
      subst e
      exact (List.getElem?_inj (List.getElem?_eq_some_iff.1 hj).1 hnd).1 (hj.trans hj'.symm)
    · obtain ⟨a1, a2⟩ := hS.gl z hz
      exact ⟨.inl a1, a2⟩
  have hr1 : RVs m1 args0 arr := by
    obtain ⟨v1, v2⟩ := hv.spec
    refine ⟨by rw [hr.1, v1], fun j v0 hj => ?_⟩
    have hjl := (List.getElem?_eq_some_iff.1 hj).1
    obtain ⟨u, a1, a2⟩ := hr.2 j _ (List.getElem?_eq_getElem (by omega))
    refine ⟨u, a1, ?_⟩
    have hg := v2 j _ v0 (List.getElem?_eq_getElem (by omega)) hj
    revert hg a2
    generalize args[j]'(by omega) = v
    intro a2 hg
    cases hg with
    | c h => exact .c (hgv h a2.cell)
    | agg h =>
      obtain ⟨arr', rfl, h1, h2⟩ := a2.aggI
      obtain ⟨s1, s2⟩ := h.spec
      refine .agg (by omega) fun q c hq => ?_
      have hql := (List.getElem?_eq_some_iff.1 hq).1
      obtain ⟨u, hu, hr⟩ := h2 q _ (List.getElem?_eq_getElem (by omega))
      exact ⟨u, hu, hgv (s2 q _ c (List.getElem?_eq_getElem (by omega)) hq) hr⟩
    | any => exact .any
  refine (hp m1 arr hS1 hr1).mono fun u w' ⟨m2, r, H1, hmw, hPr, hS2, hE2, hru⟩ => ?_
  subst hmw
  obtain ⟨p1, p2, p3⟩ := hP r H1 hPr
  have hN2 : m2.N = H1.length := hS2.N
  have hμ2 : ∀ {i j : Nat}, ids[i]? = some j → m2.μ i = m.μ j := fun {i j} h => by
    have hil := (List.getElem?_eq_some_iff.1 h).1
    rw [hE2.μ i (show i < H0.length by omega), hμ1 h]
  let m' : Mem := ⟨m2.w, m.F, m.B, m.N + (H1.length - ids.length), fun i => if i < m.N then m.μ i else m2.μ (ids.length + (i - m.N))⟩
  have hμo : ∀ {i : Nat}, i < m.N → m'.μ i = m.μ i := fun hi => if_pos hi
  have hμn : ∀ i, m'.μ (m.N + i) = m2.μ (ids.length + i) := fun i => by
    show (if m.N + i < m.N then m.μ (m.N + i) else m2.μ (ids.length + (m.N + i - m.N))) = _
    rw [if_neg (by omega), Nat.add_sub_cancel_left]
  have hE : Ext m m' := ⟨hE2.os, hE2.tape, hE2.output, hE2.size, fun b hb => hE2.keep b (hb.imp .inl fun h => h), fun b hb => hb, rfl, Nat.le_add_right _ _, fun i hi => hμo hi, fun b hb => .inl hb⟩
  have hrn : ∀ i, i < m2.N → m'.μ (rnI ids H.length i) = m2.μ i ∧ rnI ids H.length i < m'.N := fun i hi => by
    unfold rnI
    cases hii : ids[i]? with
    | some j =>
      have hj := hlt j (List.mem_of_getElem? hii)
      simp only
      rw [hμo (by rw [hS.N]; exact hj), hμ2 hii]
      exact ⟨rfl, Nat.lt_of_lt_of_le (by rw [hS.N]; exact hj) (Nat.le_add_right _ _)⟩
    | none =>
      have hge : ids.length ≤ i := List.getElem?_eq_none_iff.1 hii
      simp only
      rw [← hS.N, hμn, show ids.length + (i - ids.length) = i by omega]
      exact ⟨rfl, by show m.N + (i - ids.length) < m.N + (H1.length - ids.length); omega⟩
  have hnb : ∀ {i : Nat} {o1 : Ob}, H1[ids.length + i]? = some o1 → o1.live = true → (m2.μ (ids.length + i)).gh = false → ¬ m2.F (m2.μ (ids.length + i)).block := fun h1 h2 h3 => by
    obtain ⟨-, -, -, -, -, h5, -⟩ := hS2.ob _ _ h1 h2 h3
    exact h5
  have hcase : ∀ {x : Nat} {o : Ob}, (graft ids H H1)[x]? = some o → o.live = true → (x < m.N ∧ x ∉ ids ∧ H[x]? = some o) ∨ (∃ (i : Nat) (o1 : Ob), ids[i]? = some x ∧ x < m.N ∧ H1[i]? = some o1 ∧ o1.live = true ∧ o = rnO ids H.length o1) ∨ ∃ (i : Nat) (o1 : Ob), x = m.N + i ∧ H1[ids.length + i]? = some o1 ∧ o1.live = true ∧ o = rnO ids H.length o1 := fun {x o} h hl => by
    rcases graft_spec hnd hlt p3 h with ⟨a1, a2, a3⟩ | ⟨i, o1, a1, a2, rfl⟩ | ⟨i, o1, a1, a2, rfl⟩
    · exact .inl ⟨by rw [hS.N]; exact a1, a2, a3⟩
    · exact .inr (.inl ⟨i, o1, a1, by rw [hS.N]; exact hlt x (List.mem_of_getElem? a1), a2, hl, rfl⟩)
    · exact .inr (.inr ⟨i, o1, by rw [hS.N]; exact a1, a2, hl, rfl⟩)
  refine ⟨m', _, _, rfl, hQ r H1 hPr, ⟨?_, fun b hb => Nat.lt_of_lt_of_le (hS.lo b hb) hE2.size, Nat.le_trans hS.bs hE2.size, fun x hx hg => ?_, fun x o hx hl hg => ?_, fun x o hx hl hg => ?_, fun x y ox oy hx hy l1 l2 q1 q2 hne => ?_, fun z hz => ?_⟩, hE, ?_⟩
  · show m.N + (H1.length - ids.length) = _
    rw [graft_len, hS.N]
  · by_cases hlt' : x < m.N
    · rw [hμo hlt'] at hg ⊢
      exact Nat.lt_of_lt_of_le (hS.blk x hlt' hg) hE2.size
    · obtain ⟨i, rfl⟩ : ∃ i, x = m.N + i := ⟨x - m.N, by omega⟩
      rw [hμn] at hg ⊢
      refine hS2.blk _ ?_ hg
      have : m.N + i < m.N + (H1.length - ids.length) := hx
      omega
  · rcases hcase hx hl with ⟨a1, a2, a3⟩ | ⟨i, o1, a1, a2, a3, a4, rfl⟩ | ⟨i, o1, rfl, a3, a4, rfl⟩
    · rw [hμo a1] at hg ⊢
      obtain ⟨arr, k1, k2, k3, k4, k5, k6⟩ := hS.ob x o a3 hl hg
      refine ⟨arr, k1.eq (hE2.keep _ (.inl (.inr ⟨x, o, a3, hl, hg, a2, rfl⟩))), k2, k3, fun j c hj => ?_, k5, k6⟩
      obtain ⟨u, hu, hr⟩ := k4 j c hj
      exact ⟨u, hu, hr.ext hE⟩
    · rw [hμo a2] at hg ⊢
      have hg2 : (m2.μ i).gh = false := by rw [hμ2 a1]; exact hg
      obtain ⟨arr, k1, k2, k3, k4, k5, k6⟩ := hS2.ob i o1 a3 a4 hg2
      rw [hμ2 a1] at k1 k2 k3 k4 k5 k6
      refine ⟨arr, k1, k2, by simpa [rnO] using k3, fun j c hj => ?_, fun hF => k5 (hE2.F _ (.inl hF)), by rw [hE2.B] at k6; exact k6⟩
      simp only [rnO, List.getElem?_map, Option.map_eq_some_iff] at hj
      obtain ⟨c', hj, rfl⟩ := hj
      obtain ⟨u, hu, hr⟩ := k4 j c' hj
      exact ⟨u, hu, hr.rn (m' := m') hrn (p2 o1 (List.mem_of_getElem? a3) a4 c' (List.mem_of_getElem? hj))⟩
    · rw [hμn] at hg ⊢
      obtain ⟨arr, k1, k2, k3, k4, k5, k6⟩ := hS2.ob _ o1 a3 a4 hg
      refine ⟨arr, k1, k2, by simpa [rnO] using k3, fun j c hj => ?_, fun hF => k5 (hE2.F _ (.inl hF)), by rw [hE2.B] at k6; exact k6⟩
      simp only [rnO, List.getElem?_map, Option.map_eq_some_iff] at hj
      obtain ⟨c', hj, rfl⟩ := hj
      obtain ⟨u, hu, hr⟩ := k4 j c' hj
      exact ⟨u, hu, hr.rn (m' := m') hrn (p2 o1 (List.mem_of_getElem? a3) a4 c' (List.mem_of_getElem? hj))⟩
  · rcases hcase hx hl with ⟨a1, a2, a3⟩ | ⟨i, o1, a1, a2, a3, a4, rfl⟩ | ⟨i, o1, rfl, a3, a4, rfl⟩
    · rw [hμo a1] at hg
      exact hS.gho x o a3 hl hg
    · rw [hμo a2] at hg
      have := hS2.gho i o1 a3 a4 (by rw [hμ2 a1]; exact hg)
      simp [rnO, this]
    · rw [hμn] at hg
      have := hS2.gho _ o1 a3 a4 hg
      simp [rnO, this]
  · have old : ∀ {x : Nat} {o : Ob}, (graft ids H H1)[x]? = some o → o.live = true → x < m.N → (m.μ x).gh = false → ∃ o', H[x]? = some o' ∧ o'.live = true := fun {x o} h hl hlt' hg => by
      rcases hcase h hl with ⟨a1, a2, a3⟩ | ⟨i, o1, a1, a2, a3, a4, rfl⟩ | ⟨i, o1, rfl, a3, a4, rfl⟩
      · exact ⟨o, a3, hl⟩
      · obtain ⟨oo, b1, b2, -⟩ := hob i x _ a1 (List.getElem?_eq_getElem (by have := (List.getElem?_eq_some_iff.1 a1).1; omega))
        exact ⟨oo, b1, b2⟩
      · omega
    have new : ∀ {x i : Nat} {ox o1 : Ob}, (graft ids H H1)[x]? = some ox → ox.live = true → x < m.N → (m.μ x).gh = false → H1[ids.length + i]? = some o1 → o1.live = true → (m2.μ (ids.length + i)).gh = false → (m.μ x).block ≠ (m2.μ (ids.length + i)).block := fun {x i ox o1} h hl hlt' hg h1 h2 h3 he => by
      rcases hcase h hl with ⟨a1, a2, a3⟩ | ⟨i', o1', a1, a2, a3, a4, rfl⟩ | ⟨i', o1', rfl, a3, a4, rfl⟩
      · exact hnb h1 h2 h3 (he ▸ hE2.F _ (.inr ⟨x, ox, a3, hl, hg, a2, rfl⟩))
      · have hil := (List.getElem?_eq_some_iff.1 a1).1
        exact hS2.inj i' (ids.length + i) o1' o1 a3 h1 a4 h2 (by rw [hμ2 a1]; exact hg) h3 (by omega) (by rw [hμ2 a1]; exact he)
      · omega
    by_cases hxl : x < m.N
    · rw [hμo hxl] at q1 ⊢
      by_cases hyl : y < m.N
      · rw [hμo hyl] at q2 ⊢
        obtain ⟨o', b1, b2⟩ := old hx l1 hxl q1
        obtain ⟨o'', c1, c2⟩ := old hy l2 hyl q2
        exact hS.inj x y o' o'' b1 c1 b2 c2 q1 q2 hne
      · rcases hcase hy l2 with ⟨a1, -⟩ | ⟨i, o1, a1, a2, -⟩ | ⟨i, o1, rfl, a3, a4, rfl⟩
        · omega
        · omega
        · rw [hμn] at q2 ⊢
          exact new hx l1 hxl q1 a3 a4 q2
    · rcases hcase hx l1 with ⟨a1, -⟩ | ⟨i, o1, a1, a2, -⟩ | ⟨i, o1, rfl, a3, a4, rfl⟩
      · omega
      · omega
      · rw [hμn] at q1 ⊢
        by_cases hyl : y < m.N
        · rw [hμo hyl] at q2 ⊢
          exact (new hy l2 hyl q2 a3 a4 q1).symm
        · rcases hcase hy l2 with ⟨a1, -⟩ | ⟨i', o1', a1, a2, -⟩ | ⟨i', o1', rfl, b3, b4, rfl⟩
          · omega
          · omega
          · rw [hμn] at q2 ⊢
            exact hS2.inj _ _ o1 o1' a3 b3 a4 b4 q1 q2 (by omega)
  · obtain ⟨a1, a2⟩ := hS.gl z hz
    exact ⟨a1, fun j y hj => ⟨(hE.cell (a := ⟨z.1, j, none⟩) a1).trans (a2.1 j y hj).1, (a2.1 j y hj).2⟩, a2.2.keep (hE.keep z.1 (.inl a1))⟩
  · exact hru.rn (m' := m') hrn p1
/-- The objects, one by one; the dead ones are free. -/
def TurnP (H : List Ob) (g : List (Option Nat)) : List (Option Nat) → List Ob → Prop
  | [], [] => True
  | none :: gs, o :: os => (o.live = true → o.cs = []) ∧ TurnP H g gs os
  | some id :: gs, o' :: os => (o'.live = true → ∃ cs, H[id]? = some ⟨cs, o'.t, true⟩ ∧ TrC H g cs o'.cs) ∧ TurnP H g gs os
  | _, _ => False
theorem TurnP.spec {H : List Ob} {g : List (Option Nat)} : ∀ {gs : List (Option Nat)} {os : List Ob}, TurnP H g gs os → gs.length = os.length ∧
    (∀ (i id : Nat) (o' : Ob), os[i]? = some o' → o'.live = true → gs[i]? = some (some id) → ∃ cs, H[id]? = some ⟨cs, o'.t, true⟩ ∧ TrC H g cs o'.cs) ∧ (∀ (i : Nat) (o' : Ob), os[i]? = some o' → o'.live = true → gs[i]? = some none → o'.cs = [])
  | [], [], _ => ⟨rfl, fun i id o h => by simp at h, fun i o h => by simp at h⟩
  | none :: gs, o :: os, h => by
    obtain ⟨h1, h2, h3⟩ := h.2.spec
    refine ⟨by simp [h1], fun i id o' ho hl hg => ?_, fun i o' ho hl hg => ?_⟩
    · cases i with
      | zero => simp at hg
      | succ i => exact h2 i id o' (by simpa using ho) hl (by simpa using hg)
    · cases i with
      | zero => simp at ho; subst ho; exact h.1 hl
      | succ i => exact h3 i o' (by simpa using ho) hl (by simpa using hg)
  | some id0 :: gs, o :: os, h => by
    obtain ⟨h1, h2, h3⟩ := h.2.spec
    refine ⟨by simp [h1], fun i id o' ho hl hg => ?_, fun i o' ho hl hg => ?_⟩
    · cases i with
      | zero => simp at ho hg; subst ho hg; exact h.1 hl
      | succ i => exact h2 i id o' (by simpa using ho) hl (by simpa using hg)
    · cases i with
      | zero => simp at hg
      | succ i => exact h3 i o' (by simpa using ho) hl (by simpa using hg)
def GAns (N : Nat) (P : V → List Ob → Prop) (r0 : V) (H : List Ob) : Prop := ∃ gg H1 r1, Turns N H gg H1 ∧ TrV H gg r0 r1 ∧ P r1 H1
theorem g_ans {N : Nat} {P : V → List Ob → Prop} {r0 r : V} {H H1 : List Ob} (g : List (Option Nat)) (hn : nodupO g = true) (hf : fixO g N = true) (hlt : (g.all fun x => match x with | some i => Nat.blt i H.length | none => true) = true) (ho : TurnP H g g H1) (hr : TrV H g r0 r) (hP : P r H1) : GAns N P r0 H := by
  obtain ⟨h1, h2, h3⟩ := ho.spec
  refine ⟨g, H1, r, ⟨h1, fixO_spec hf, fun i id o' hi hl hg => ?_, fun i o' hi hl hg => h3 i o' hi hl hg, nodupO_spec hn, fun i id hi => ?_⟩, hr, hP⟩
  · obtain ⟨cs, k1, k2⟩ := h2 i id o' hi hl hg
    obtain ⟨k3, k4⟩ := k2.spec
    exact ⟨_, k1, rfl, rfl, Nat.le_of_eq k3, k4⟩
  · have := List.all_eq_true.1 hlt _ (List.mem_of_getElem? hi)
    exact Nat.le_of_ble_eq_true this
theorem GraphC.of_body {X : Cx} {D : DR} (hD : DrawOk X D) {g : FuncId} {fn : Func} {c : Code} (hen : Enters X g) (hf : X.P.funcs[g]? = some fn) (hb : fn.body = some c) {args : List V} {H0 : List Ob} {P : V → List Ob → Prop} {n N : Nat} (hn : args.length + (fn.ntmps - args.length) = n) (hN : H0.length = N)
    (h : vwp X n N D c (retQ X fn.results.toList (GAns N P)) (slots args) H0) : CallC X g args H0 P :=
  CallC.turned hN (CallC.of_body hD hen hf hb hn (by rw [hN]; exact h))
theorem DetC.of_body {X : Cx} {D : DR} (hD : DrawOk X D) {g : FuncId} {fn : Func} {c : Code} (hen : Enters X g) (hf : X.P.funcs[g]? = some fn) (hb : fn.body = some c) {args : List V} {H H' : List Ob} {v : V} {n : Nat} (hn : args.length + (fn.ntmps - args.length) = n)
    (h : vwp X n H.length D c (retQ X fn.results.toList fun v' H'' => v' = v ∧ H'' = H') (slots args) H) : DetC X g args H v H' := CallC.of_body hD hen hf hb hn h
/-- The caller's objects, one by one, as the called function sees them. -/
def Gob (H : List Ob) (ids : List Nat) : List Nat → List Ob → Prop
  | [], [] => True
  | j :: js, o :: os => (∃ cs, H[j]? = some ⟨cs, o.t, true⟩ ∧ o.live = true ∧ GvL H ids cs o.cs) ∧ Gob H ids js os
  | _, _ => False
theorem Gob.spec {H : List Ob} {ids : List Nat} : ∀ {js : List Nat} {os : List Ob}, Gob H ids js os → js.length = os.length ∧ ∀ (i j : Nat) (o0 : Ob), js[i]? = some j → os[i]? = some o0 → ∃ o, H[j]? = some o ∧ o.live = true ∧ o0.live = true ∧ o.t = o0.t ∧ GvL H ids o.cs o0.cs
  | [], [], _ => ⟨rfl, fun i j o h => by simp at h⟩
  | j :: js, o :: os, h => by
    obtain ⟨h1, h2⟩ := h.2.spec
    refine ⟨by simp [h1], fun i j' o0 hi ho => ?_⟩
    cases i with
    | zero =>
      simp at hi ho
      subst hi ho
      obtain ⟨cs, k1, k2, k3⟩ := h.1
      exact ⟨_, k1, rfl, k2, rfl, k3⟩
    | succ i => exact h2 i j' o0 (by simpa using hi) (by simpa using ho)
def graftR (ids : List Nat) (H os : List Ob) : List Ob :=
  ((List.range ids.length).foldl (fun (acc : List Ob) i => match ids[i]?, os[i]? with
    | some j, some o => acc.set j o
    | _, _ => acc) H) ++ os.drop ids.length
theorem graft_R (ids : List Nat) (H H1 : List Ob) : graft ids H H1 = graftR ids H (H1.map (rnO ids H.length)) := by
  unfold graft graftR
  rw [List.map_drop]
  congr 1
  congr 1
  funext acc i
  rw [List.getElem?_map]
  cases ids[i]? <;> cases H1[i]? <;> rfl
/-- The objects that a call leaves, by the caller's numbers. -/
def RnO (ids : List Nat) (N : Nat) : List Ob → List Ob → Prop
  | [], [] => True
  | o :: os, o' :: os' => rnO ids N o = o' ∧ RnO ids N os os'
  | _, _ => False
theorem RnO.eq {ids : List Nat} {N : Nat} : ∀ {os os' : List Ob}, RnO ids N os os' → os.map (rnO ids N) = os'
  | [], [], _ => rfl
  | o :: os, o' :: os', h => by rw [List.map_cons, h.1, RnO.eq h.2]
theorem rn_sc {ids : List Nat} {N : Nat} {cs : List C} {t : TypeId} {l : Bool} (h : ∀ c ∈ cs, sc c = true) : rnO ids N ⟨cs, t, l⟩ = ⟨cs, t, l⟩ := by
  have : cs.map (rnC ids N) = cs := by
    refine (List.map_congr_left fun c hc => ?_).trans (List.map_id' _)
    have := h c hc
    cases c <;> first | rfl | cases this
  simp only [rnO, this]
theorem rn_flat {α : Type} {enc : α → List C} {ids : List Nat} {N : Nat} {xs : List α} {t : TypeId} {l : Bool} (h : ∀ a, (enc a).all sc = true) : rnO ids N ⟨flat enc xs, t, l⟩ = ⟨flat enc xs, t, l⟩ := rn_sc (sc_flat h xs)
theorem gC_sc {c : C} (h : sc c = true) : gC c = true := by cases c <;> first | rfl | cases h
section
variable {X : Cx} {all r : List Oper} {K : Sl → List Ob → Prop} {sl : Sl} {H : List Ob} {d : Tmp} {ty : TypeId} {ps : String} {af : Array Edge}
/-- A call that writes into some of the objects, and leaves them in one of two forms. -/
theorem v_graph2 {ι : Type} {f : Operand} {args : Array Operand} {tys : Array TypeId} {g : FuncId} {av args0 : List V} {H0 : List Ob} {q1 q2 : ι → Prop} {R1 R2 : ι → V} {L1 L2 : ι → List Ob} (ids : List Nat) (R1' R2' : ι → V) (M1 M2 L1' L2' : ι → List Ob)
    (hp : CallC X g args0 H0 fun r H1 => (∃ x, q1 x ∧ r = R1 x ∧ H1 = L1 x) ∨ ∃ x, q2 x ∧ r = R2 x ∧ H1 = L2 x) (hnd : ids.Nodup) (hob : Gob H ids ids H0) (hf : rho X.G sl f = .c (.fn g [])) (has : args.toList.map (rho X.G sl) = av) (hv : GvVs H ids av args0)
    (hr1 : ∀ x, rnV ids H.length (R1 x) = R1' x) (hr2 : ∀ x, rnV ids H.length (R2 x) = R2' x) (hm1 : ∀ x, RnO ids H.length (L1 x) (M1 x)) (hm2 : ∀ x, RnO ids H.length (L2 x) (M2 x)) (hl1 : ∀ x, graftR ids H (M1 x) = L1' x) (hl2 : ∀ x, graftR ids H (M2 x) = L2' x)
    (hg1 : ∀ x, gV (R1 x) = true ∧ (∀ o ∈ L1 x, o.live = true → ∀ c ∈ o.cs, gC c = true) ∧ ids.length ≤ (L1 x).length) (hg2 : ∀ x, gV (R2 x) = true ∧ (∀ o ∈ L2 x, o.live = true → ∀ c ∈ o.cs, gC c = true) ∧ ids.length ≤ (L2 x).length)
    (h1 : ∀ x, q1 x → vops X all r K (upd sl d (R1' x)) (L1' x)) (h2 : ∀ x, q2 x → vops X all r K (upd sl d (R2' x)) (L2' x)) : vops X all (⟨some d, .call ⟨.value f, args, tys⟩, ty, ps, af, none⟩ :: r) K sl H := by
  subst has
  simp only [vops, vguard, vop, callOf, hf, target, putV, List.map_nil, List.append_nil]
  refine CallC.of_graph hp hob.spec.1 hnd hob.spec.2 hv (fun r H1 h => ?_) (fun r H1 h => ?_)
  · rcases h with ⟨x, -, rfl, rfl⟩ | ⟨x, -, rfl, rfl⟩
    · exact hg1 x
    · exact hg2 x
  · rcases h with ⟨x, hq, rfl, rfl⟩ | ⟨x, hq, rfl, rfl⟩
    · rw [hr1, graft_R, (hm1 x).eq, hl1]; exact h1 x hq
    · rw [hr2, graft_R, (hm2 x).eq, hl2]; exact h2 x hq
end
end Go.VL
namespace Go.VL
open Go.RowKit
/-- A field whose cells are held against each other by what they are. -/
def KeyF (P : Program) (cs1 cs2 : List C) (q : TypeId × Nat) : Prop := P.plainKey q.1 = true ∧ ∃ u v, cs1[q.2]? = some (.v u) ∧ cs2[q.2]? = some (.v v) ∧ ∀ w, ∃ r : Bool, (Op.equalIn 9999 q.1 u v).run P w = .ok r w ∧ (r = true ↔ u = v)
theorem keyInt {P : Program} {cs1 cs2 : List C} {q : TypeId × Nat} {k k' : IntKind} {a b : Int} (h : P.underlying q.1 = some (.int k')) (h1 : cs1[q.2]? = some (.v (.int k a))) (h2 : cs2[q.2]? = some (.v (.int k b))) : KeyF P cs1 cs2 q :=
  ⟨by unfold Program.plainKey; rw [h], _, _, h1, h2, fun w => ⟨_, run_equalIn_int w 9998 q.1 k k' a b h, by simp⟩⟩
theorem keyBool {P : Program} {cs1 cs2 : List C} {q : TypeId × Nat} {a b : Bool} (h : P.underlying q.1 = some .bool) (h1 : cs1[q.2]? = some (.v (.bool a))) (h2 : cs2[q.2]? = some (.v (.bool b))) : KeyF P cs1 cs2 q :=
  ⟨by unfold Program.plainKey; rw [h], _, _, h1, h2, fun w => ⟨_, run_equalIn_bool' w 9998 q.1 a b h, by simp⟩⟩
theorem struct_eqK {X : Cx} {t : TypeId} {m : Mem} {cs1 cs2 : List C} {u v : Value} {p : Prop} (L : List (TypeId × Nat)) (hu : X.P.underlying t = some (.struct (X.P.fieldsOf t))) (hs : X.P.stoodInHeld t = false)
    (hm : (X.P.fieldsOf t).toList.map (fun f => (f.name != "_", f.type, f.offset)) = L.map (fun q => (true, q.1, q.2)))
    (hL : ∀ q ∈ L, KeyF X.P cs1 cs2 q) (hp : p ↔ ∀ q ∈ L, cs1[q.2]? = cs2[q.2]?)
    (h1 : RV m (.agg cs1) u) (h2 : RV m (.agg cs2) v) : ∃ xs ys, u = .agg xs ∧ v = .agg ys ∧ ∀ w, ∃ r : Bool, (Op.equalIn 10000 t (.agg xs) (.agg ys)).run X.P w = .ok r w ∧ (r = true ↔ p) := by
  obtain ⟨xs, rfl, -, hx⟩ := h1.aggI
  obtain ⟨ys, rfl, -, hy⟩ := h2.aggI
  refine ⟨xs, ys, rfl, rfl, fun w => ?_⟩
  have fld : ∀ f ∈ (X.P.fieldsOf t).toList, f.name ≠ "_" ∧ (f.type, f.offset) ∈ L := fun f hf => by
    have h3 : (f.name != "_", f.type, f.offset) ∈ L.map (fun q => (true, q.1, q.2)) := by rw [← hm]; exact List.mem_map_of_mem hf
    obtain ⟨q, hq, he⟩ := List.mem_map.1 h3
    simp only [Prod.mk.injEq] at he
    obtain ⟨e1, e2, e3⟩ := he
    exact ⟨by simpa using e1.symm, by rw [← e2, ← e3]; exact hq⟩
  have back : ∀ q ∈ L, ∃ f ∈ (X.P.fieldsOf t).toList, f.offset = q.2 := fun q hq => by
    have h3 : (true, q.1, q.2) ∈ (X.P.fieldsOf t).toList.map (fun f => (f.name != "_", f.type, f.offset)) := by rw [hm]; exact List.mem_map_of_mem hq
    obtain ⟨f, hf, he⟩ := List.mem_map.1 h3
    simp only [Prod.mk.injEq] at he
    exact ⟨f, hf, he.2.2⟩
  have cell : ∀ {cs : List C} {zs : Array Value} {j : Nat} {z : Value}, (∀ (j : Nat) (c : C), cs[j]? = some c → ∃ u, zs[j]? = some u ∧ R m c u) → cs[j]? = some (.v z) → zs[j]? = some z := fun hc hj => by
    obtain ⟨u, h3, h4⟩ := hc _ _ hj
    have := h4.val
    rw [h3, this]
  rw [run_equalIn_agg w 9999 t xs ys hu hs]
  obtain ⟨r, hr, hiff⟩ := run_eqFields_plain (P := X.P) 9999 xs ys (X.P.fieldsOf t).toList (fun f hf => by
    obtain ⟨n1, n2⟩ := fld f hf
    obtain ⟨k1, a, b, k2, k3, k4⟩ := hL _ n2
    exact ⟨n1, k1, a, b, cell hx k2, cell hy k3, k4⟩) w
  refine ⟨r, hr, hiff.trans (Iff.trans ⟨fun h q hq => ?_, fun h f hf => ?_⟩ hp.symm)⟩
  · obtain ⟨f, hf, he⟩ := back q hq
    obtain ⟨k1, a, b, k2, k3, -⟩ := hL _ hq
    have h3 := h f hf
    rw [he, cell hx k2, cell hy k3] at h3
    rw [k2, k3, Option.some.inj h3]
  · obtain ⟨n1, n2⟩ := fld f hf
    obtain ⟨k1, a, b, k2, k3, -⟩ := hL _ n2
    have h3 := h _ n2
    simp only [k2, k3] at h3
    rw [cell hx k2, cell hy k3, (C.v.inj (Option.some.inj h3))]
theorem rq_neqK {X : Cx} {t ty2 : TypeId} {x y : Operand} {ρ : Operand → V} {cs1 cs2 : List C} {p : Prop} [Decidable p] (L : List (TypeId × Nat)) (hu : X.P.underlying t = some (.struct (X.P.fieldsOf t))) (hs : X.P.stoodInHeld t = false) (hg : X.P.eqGuardType X.P.depth t = false)
    (hm : (X.P.fieldsOf t).toList.map (fun f => (f.name != "_", f.type, f.offset)) = L.map (fun q => (true, q.1, q.2)))
    (hL : ∀ q ∈ L, KeyF X.P cs1 cs2 q) (hp : p ↔ ∀ q ∈ L, cs1[q.2]? = cs2[q.2]?)
    (hx : ρ x = .agg cs1) (hy : ρ y = .agg cs2) : RawQ X (.binOp .neq t x y ty2) ρ (.c (.v (.bool (decide (¬ p))))) := by
  intro m H ε o ho hS hr
  have r1 := hr x (by simp [Op.operands])
  have r2 := hr y (by simp [Op.operands])
  rw [hx] at r1
  rw [hy] at r2
  obtain ⟨xs, ys, e1, e2, h⟩ := struct_eqK L hu hs hm hL hp r1 r2
  obtain ⟨r, h3, h4⟩ := h m.w
  refine Good.here hS (u := .bool (decide (¬ p))) ?_ (.c (.v rfl))
  have h5 : decide (¬ p) = !r := by
    cases r
    · simp [← h4]
    · simp [← h4]
  simp [execOp, ho, e1, e2, run_eqGuard_agg m.w _ _ _ _ _ _ hg, run_neq_struct, h3, h5]
theorem rq_eqlK {X : Cx} {t ty2 : TypeId} {x y : Operand} {ρ : Operand → V} {cs1 cs2 : List C} {p : Prop} [Decidable p] (L : List (TypeId × Nat)) (hu : X.P.underlying t = some (.struct (X.P.fieldsOf t))) (hs : X.P.stoodInHeld t = false) (hg : X.P.eqGuardType X.P.depth t = false)
    (hm : (X.P.fieldsOf t).toList.map (fun f => (f.name != "_", f.type, f.offset)) = L.map (fun q => (true, q.1, q.2)))
    (hL : ∀ q ∈ L, KeyF X.P cs1 cs2 q) (hp : p ↔ ∀ q ∈ L, cs1[q.2]? = cs2[q.2]?)
    (hx : ρ x = .agg cs1) (hy : ρ y = .agg cs2) : RawQ X (.binOp .eql t x y ty2) ρ (.c (.v (.bool (decide p)))) := by
  intro m H ε o ho hS hr
  have r1 := hr x (by simp [Op.operands])
  have r2 := hr y (by simp [Op.operands])
  rw [hx] at r1
  rw [hy] at r2
  obtain ⟨xs, ys, e1, e2, h⟩ := struct_eqK L hu hs hm hL hp r1 r2
  obtain ⟨r, h3, h4⟩ := h m.w
  refine Good.here hS (u := .bool (decide p)) ?_ (.c (.v rfl))
  have h5 : decide p = r := by
    cases r
    · simp [← h4]
    · simp [← h4]
  simp [execOp, ho, e1, e2, run_eqGuard_agg m.w _ _ _ _ _ _ hg, run_eql_struct, h3, h5]
end Go.VL
namespace Go.VL
open Go.RowKit
section
variable {X : Cx} {all r : List Oper} {K : Sl → List Ob → Prop} {sl : Sl} {H : List Ob} {d : Tmp} {ty : TypeId} {ps : String} {af : Array Edge}
theorem v_idx_arr_e {t e : TypeId} {x i : Operand} {a b : Nat} {z : List Value} {id off m k : Nat} {kk : IntKind} (j : Nat) {y : Int} {L : Lay} (hL : X.lay t = some ⟨.array m e, a, b, z⟩) (hLe : X.lay e = some L) (hk : L.size = k)
    (hx : rho X.G sl x = .c (.pt id off)) (hi : rho X.G sl i = .c (.v (.int kk y))) (ey : y = (j : Int)) (hj : j < m) (h : vops X all r K (upd sl d (.c (.pt id (off + j * k)))) H) :
    vops X all (⟨some d, .indexAddr t x i, ty, ps, af, none⟩ :: r) K sl H := by
  subst ey
  refine v_q _ rfl ?_ h
  simp only [evq, hL, hx, hi, hLe]
  rw [if_pos ⟨by omega, by omega⟩, Int.toNat_natCast, hk]
theorem v_idx_av_e {t e : TypeId} {x i : Operand} {a b : Nat} {z : List Value} {o : Bool} {cs : List C} {off m k : Nat} {kk : IntKind} (j : Nat) {y : Int} {L : Lay} (hL : X.lay t = some ⟨.array m e, a, b, z⟩) (hLe : X.lay e = some L) (hk : L.size = k)
    (hx : rho X.G sl x = .c (.vw o cs off)) (hi : rho X.G sl i = .c (.v (.int kk y))) (ey : y = (j : Int)) (hj : j < m) (h : vops X all r K (upd sl d (.c (.vw o cs (off + j * k)))) H) :
    vops X all (⟨some d, .indexAddr t x i, ty, ps, af, none⟩ :: r) K sl H := by
  subst ey
  refine v_q _ rfl ?_ h
  simp only [evq, hL, hx, hi, hLe]
  rw [if_pos ⟨by omega, by omega⟩, Int.toNat_natCast, hk]
/-- A cell, loaded from where the number says. -/
theorem v_load_vw_e {t : TypeId} {x : Operand} {L : Lay} {o : Bool} {cs : List C} {off : Nat} (v : V) (hL : X.lay t = some L) (hx : rho X.G sl x = .c (.vw o cs off)) (hl : off + L.size ≤ cs.length) (hv : mkV L.kind.agg (reowns o (sub cs off L.size)) = some v)
    (h : vops X all r K (upd sl d v) H) : vops X all (⟨some d, .load t x, ty, ps, af, none⟩ :: r) K sl H :=
  v_load_vw v hL hx (Nat.ble_eq_true_of_le hl) hv h
theorem v_load_flat_e {α : Type} {enc : α → List C} {t : TypeId} {x : Operand} {L : Lay} {id off k : Nat} {ys : List α} {tt : TypeId} (q f : Nat) (v : V) (he : ∀ a, (enc a).length = k) (hL : X.lay t = some L) (hx : rho X.G sl x = .c (.pt id off)) (ho : H[id]? = some ⟨flat enc ys, tt, true⟩)
    (hoff : off = q * k + f) (hq : q < ys.length) (hf : f + L.size ≤ k) (hv : mkV L.kind.agg (sub (enc ys[q]) f L.size) = some v) (h : vops X all r K (upd sl d v) H) : vops X all (⟨some d, .load t x, ty, ps, af, none⟩ :: r) K sl H :=
  v_load_flat q f v he hL hx ho hoff hq (Nat.ble_eq_true_of_le hf) hv h
theorem v_load_flatb {α : Type} {enc : α → List C} {t : TypeId} {x : Operand} {L : Lay} {id off k : Nat} {ys : List α} {tt : TypeId} {w : Bool} (q f : Nat) (he : ∀ a, (enc a).length = k) (hL : X.lay t = some L) (hx : rho X.G sl x = .c (.pt id off)) (ho : H[id]? = some ⟨flat enc ys, tt, true⟩)
    (hoff : off = q * k + f) (hq : q < ys.length) (hf : f + L.size ≤ k) (hv : mkV L.kind.agg (sub (enc ys[q]) f L.size) = some (.c (.v (.bool w))))
    (h1 : w = true → vops X all r K (upd sl d (.c (.v (.bool true)))) H) (h2 : w = false → vops X all r K (upd sl d (.c (.v (.bool false)))) H) : vops X all (⟨some d, .load t x, ty, ps, af, none⟩ :: r) K sl H := by
  cases w with
  | true => exact v_load_flat_e q f _ he hL hx ho hoff hq hf hv (h1 rfl)
  | false => exact v_load_flat_e q f _ he hL hx ho hoff hq hf hv (h2 rfl)
theorem v_store_flat_e {α : Type} {enc : α → List C} {t : TypeId} {a x : Operand} {L : Lay} {id off k : Nat} {cs : List C} {ys : List α} {tt : TypeId} {H' : List Ob} (q f : Nat) (y : α) (he : ∀ a, (enc a).length = k) (hL : X.lay t = some L) (ha : rho X.G sl a = .c (.pt id off)) (hx : (rho X.G sl x).cells = some cs) (ho : H[id]? = some ⟨flat enc ys, tt, true⟩)
    (hoff : off = q * k + f) (hq : q < ys.length) (hl : Nat.beq cs.length L.size = true) (hf : f + L.size ≤ k) (hy : enc y = setCells (enc ys[q]) f cs) (hH : H.set id ⟨flat enc (ys.set q y), tt, true⟩ = H') (h : vops X all r K sl H') :
    vops X all (⟨none, .store t a x, ty, ps, af, none⟩ :: r) K sl H :=
  v_store_flat q f y he hL ha hx ho hoff hq hl (Nat.ble_eq_true_of_le hf) hy hH h
/-- An element of an array that is a value. -/
theorem v_index_e {t e : TypeId} {x i : Operand} {n a b : Nat} {z : List Value} {cs : List C} {kk : IntKind} (j : Nat) {y : Int} {L : Lay} (v : V) (hL : X.lay t = some ⟨.array n e, a, b, z⟩) (hLe : X.lay e = some L) (hx : rho X.G sl x = .agg cs) (hi : rho X.G sl i = .c (.v (.int kk y))) (ey : y = (j : Int))
    (hj : j < n) (hc : j * L.size + L.size ≤ cs.length) (hv : mkV L.kind.agg (sub cs (j * L.size) L.size) = some v) (h : vops X all r K (upd sl d v) H) :
    vops X all (⟨some d, .index t x i, ty, ps, af, none⟩ :: r) K sl H := by
  subst ey
  exact v_index v hL hLe hx hi ⟨by omega, by omega, by rw [Int.toNat_natCast]; exact hc⟩ (by rw [Int.toNat_natCast]; exact hv) h
end
/-! Rows of eight truths -/
abbrev Ph := Fin 8 → Bool
def bo (b : Bool) : List C := [.v (.bool b)]
theorem bo_len (b : Bool) : (bo b).length = 1 := rfl
theorem bo_sc (b : Bool) : (bo b).all sc = true := rfl
def pl (g : Ph) : List Bool := [g 0, g 1, g 2, g 3, g 4, g 5, g 6, g 7]
theorem pl_len (g : Ph) : (pl g).length = 8 := rfl
abbrev phc (g : Ph) : List C := [.v (.bool (g 0)), .v (.bool (g 1)), .v (.bool (g 2)), .v (.bool (g 3)), .v (.bool (g 4)), .v (.bool (g 5)), .v (.bool (g 6)), .v (.bool (g 7))]
theorem pl_flat (g : Ph) : phc g = flat bo (pl g) := rfl
theorem pl_get (g : Ph) {i : Nat} (h : i < 8) : (pl g)[i]'(by rw [pl_len]; exact h) = g ⟨i, h⟩ := by
  match i, h with
  | 0, _ => rfl
  | 1, _ => rfl
  | 2, _ => rfl
  | 3, _ => rfl
  | 4, _ => rfl
  | 5, _ => rfl
  | 6, _ => rfl
  | 7, _ => rfl
def putG (g : Ph) (i : Nat) (b : Bool) : Ph := fun j => if j.val = i then b else g j
theorem pl_set (g : Ph) {i : Nat} (h : i < 8) (b : Bool) : (pl g).set i b = pl (putG g i b) := by
  match i, h with
  | 0, _ => rfl
  | 1, _ => rfl
  | 2, _ => rfl
  | 3, _ => rfl
  | 4, _ => rfl
  | 5, _ => rfl
  | 6, _ => rfl
  | 7, _ => rfl
theorem phc_sub (g : Ph) (r : List C) {i : Nat} (h : i < 8) : sub (phc g ++ r) i 1 = [.v (.bool (g ⟨i, h⟩))] := by
  match i, h with
  | 0, _ => rfl
  | 1, _ => rfl
  | 2, _ => rfl
  | 3, _ => rfl
  | 4, _ => rfl
  | 5, _ => rfl
  | 6, _ => rfl
  | 7, _ => rfl
theorem phc_set (g : Ph) (r : List C) {i : Nat} (h : i < 8) (b : Bool) : setCells (phc g ++ r) i [.v (.bool b)] = phc (putG g i b) ++ r := by
  match i, h with
  | 0, _ => rfl
  | 1, _ => rfl
  | 2, _ => rfl
  | 3, _ => rfl
  | 4, _ => rfl
  | 5, _ => rfl
  | 6, _ => rfl
  | 7, _ => rfl
/-- The first ones of one row, the rest of another. -/
def mixG (i : Nat) (g h : Ph) : Ph := fun j => if j.val < i then g j else h j
theorem mix_0 (g h : Ph) : mixG 0 g h = h := by funext j; simp [mixG]
theorem mix_8 (g h : Ph) : mixG 8 g h = g := by funext j; simp [mixG, j.isLt]
theorem mix_put (g h : Ph) {i : Nat} (hi : i < 8) : putG (mixG i g h) i (g ⟨i, hi⟩) = mixG (i + 1) g h := by
  funext j
  unfold putG mixG
  by_cases h1 : j.val = i
  · subst h1
    simp
  · by_cases h2 : j.val < i
    · rw [if_neg h1, if_pos h2, if_pos (by omega)]
    · rw [if_neg h1, if_neg h2, if_neg (by omega)]
theorem ph_ext {g h : Ph} : g = h ↔ ∀ i (hi : i < 8), g ⟨i, hi⟩ = h ⟨i, hi⟩ := ⟨fun e i hi => by rw [e], fun e => by funext ⟨i, hi⟩; exact e i hi⟩
end Go.VL
namespace Go.VL
open Go.RowKit
def int (a : Int) : List C := [.v (.int .i64 a)]
theorem int_len (a : Int) : (int a).length = 1 := rfl
theorem int_sc (a : Int) : (int a).all sc = true := rfl
abbrev cI (a : Int) : V := .c (.v (.int .i64 a))
abbrev cB (b : Bool) : V := .c (.v (.bool b))
abbrev ints (o : Bool) (xs : List Int) : C := .sl o xs.length 1 (flat int xs)
abbrev bls (o : Bool) (xs : List Bool) : C := .sl o xs.length 1 (flat bo xs)
def szr (n : Nat) (l : Int) : Int := if l - n < 0 then -1 else l - n
theorem a_i {H : List Ob} {a b : Int} (h : a = b) : TrV H [] (cI a) (cI b) := by rw [h]; exact tr_v
theorem tr_i {H : List Ob} {g : List (Option Nat)} {a b : Int} (h : a = b) : TrV H g (cI a) (cI b) := by rw [h]; exact tr_v
theorem tr_fn1 {H : List Ob} {gg : List (Option Nat)} {g : FuncId} {cs : List C} : TrV H gg (.c (.fn g [.vw false cs 0])) (.c (.fn g [.vw false cs 0])) := .c (.fn rfl (same_of fun c hc => Tr.stay (by simp at hc; subst hc; rfl)))
theorem tr_fnv {H : List Ob} {gg : List (Option Nat)} {g : FuncId} {x : Value} : TrV H gg (.c (.fn g [.v x])) (.c (.fn g [.v x])) := .c (.fn rfl (same_of fun c hc => Tr.stay (by simp at hc; subst hc; rfl)))
theorem tr_fn0 {H : List Ob} {gg : List (Option Nat)} {g : FuncId} : TrV H gg (.c (.fn g [])) (.c (.fn g [])) := .c (.fn rfl (fun j c c' h => by simp at h))
theorem tr_mun {H : List Ob} {g : List (Option Nat)} {i id off n n' k : Nat} (h : g[i]? = some (some id)) (hn : n = n') : TrV H g (.c (.mu id off n k)) (.c (.mu i off n' k)) := by
  subst hn
  exact tr_mu h
theorem i64r {a : Int} (h : -9223372036854775808 ≤ a ∧ a ≤ 9223372036854775807) : IntKind.i64.min ≤ a ∧ a ≤ IntKind.i64.max := h
theorem all_step {α : Type} {xs : List α} {i : Nat} {p : α → Prop} (hi : i < xs.length) (h : ∀ x ∈ xs.take i, p x) (h1 : p xs[i]) : ∀ x ∈ xs.take (i + 1), p x := by
  rw [List.take_succ_eq_append_getElem hi]
  intro x hx
  rcases List.mem_append.1 hx with hx | hx
  · exact h x hx
  · simp at hx; subst hx; exact h1
inductive TrVL (H : List Ob) (g : List (Option Nat)) : List V → List V → Prop
  | nil : TrVL H g [] []
  | cons {v v' : V} {vs vs' : List V} (h : TrV H g v v') (hs : TrVL H g vs vs') : TrVL H g (v :: vs) (v' :: vs')
theorem TrVL.spec {H : List Ob} {g : List (Option Nat)} {vs vs' : List V} (h : TrVL H g vs vs') : vs'.length = vs.length ∧ ∀ (j : Nat) (v v' : V), vs[j]? = some v → vs'[j]? = some v' → TrV H g v v' := by
  induction h with
  | nil => exact ⟨rfl, fun j c c' h => by simp at h⟩
  | cons h hs ih =>
    refine ⟨by simp [ih.1], fun j x x' hj hj' => ?_⟩
    cases j with
    | zero => simp at hj hj'; subst hj hj'; exact h
    | succ j => exact ih.2 j x x' (by simpa using hj) (by simpa using hj')
theorem a_tup {H : List Ob} {g : List (Option Nat)} {vs vs' : List V} (h : TrVL H g vs vs') : TrV H g (.tup vs) (.tup vs') := .tup h.spec.1 h.spec.2
def firstNZ : List Int → Int
  | [] => 0
  | x :: r => if x = 0 then firstNZ r else x
theorem firstNZ_none : ∀ {xs : List Int}, (∀ x ∈ xs, x = 0) → firstNZ xs = 0
  | [], _ => rfl
  | x :: r, h => by
    have h0 := h x (by simp)
    simp only [firstNZ, h0, if_true]
    exact firstNZ_none fun y hy => h y (by simp [hy])
theorem firstNZ_hit : ∀ {xs : List Int} {i : Nat} (hi : i < xs.length), (∀ x ∈ xs.take i, x = 0) → ¬ xs[i] = 0 → firstNZ xs = xs[i]
  | x :: r, 0, _, _, h => by simpa [firstNZ] using fun h0 => absurd h0 h
  | x :: r, i + 1, hi, hp, h => by
    have h0 := hp x (by simp)
    simp only [firstNZ, h0, if_true]
    exact firstNZ_hit (xs := r) (by simpa using hi) (fun y hy => hp y (by simp [hy])) (by simpa using h)
def fix {α : Type} (pr : α → Prop) [DecidablePred pr] (xs : List α) : Int := match xs.findIdx? (fun x => decide (pr x)) with
  | some i => (i : Int)
  | none => -1
theorem fix_none {α : Type} {pr : α → Prop} [DecidablePred pr] {xs : List α} (h : ∀ x ∈ xs, ¬ pr x) : fix pr xs = -1 := by
  unfold fix
  rw [List.findIdx?_eq_none_iff.2 (by simpa using h)]
theorem fix_hit {α : Type} {pr : α → Prop} [DecidablePred pr] {xs : List α} {i : Nat} (hi : i < xs.length) (h : ∀ x ∈ xs.take i, ¬ pr x) (h1 : pr xs[i]) : fix pr xs = i := by
  unfold fix
  rw [List.findIdx?_eq_some_iff_getElem.2 ⟨hi, by simpa using h1, fun j hj => by
    simpa using h xs[j] (by rw [List.mem_take_iff_getElem]; exact ⟨j, by omega, rfl⟩)⟩]
theorem fix_ge {α : Type} (pr : α → Prop) [DecidablePred pr] (xs : List α) : 0 ≤ fix pr xs ↔ ∃ x ∈ xs, pr x := by
  unfold fix
  cases h : xs.findIdx? (fun x => decide (pr x)) with
  | none =>
    have := List.findIdx?_eq_none_iff.1 h
    simp only [decide_eq_false_iff_not] at this
    constructor
    · intro h; exact absurd (show (0 : Int) ≤ -1 from h) (by decide)
    · rintro ⟨x, h1, h2⟩; exact absurd h2 (this x h1)
  | some i =>
    obtain ⟨h1, h2, -⟩ := List.findIdx?_eq_some_iff_getElem.1 h
    exact ⟨fun _ => ⟨_, List.getElem_mem h1, by simpa using h2⟩, fun _ => by simp only []; omega⟩
theorem gD {α : Type} {xs : List α} {i : Nat} {x : α} (h : i < xs.length) : xs.getD i x = xs[i] := by simp [h]
def mx (a b : Int) : Int := if a < b then b else a
theorem take_all_eq {α : Type} {xs ys : List α} {i : Nat} (h : xs.take i = ys.take i) (h1 : i = xs.length) (h2 : ys.length = xs.length) : xs = ys := by
  subst h1
  rwa [List.take_length, ← h2, List.take_length] at h
theorem take_step_eq {α : Type} {xs ys : List α} {i : Nat} (h : xs.take i = ys.take i) (h1 : i < xs.length) (h2 : i < ys.length) (he : xs[i] = ys[i]) : xs.take (i + 1) = ys.take (i + 1) := by
  rw [List.take_succ_eq_append_getElem h1, List.take_succ_eq_append_getElem h2, h, he]
theorem ne_at {α : Type} {xs ys : List α} {i : Nat} (h1 : i < xs.length) (h2 : i < ys.length) (he : ¬ xs[i] = ys[i]) : ¬ xs = ys := by
  rintro rfl
  exact he rfl
theorem mk_at {α : Type} {f : Nat → α} {n i : Nat} (h : i < ((List.range n).map f).length) : ((List.range n).map f)[i] = f i := by
  rw [List.getElem_map, List.getElem_range]
theorem snoc_eq {α : Type} {enc : α → List C} (f : Nat → α) (i : Nat) {x : α} (h : f i = x) : flat enc ((List.range i).map f ++ [x]) = flat enc ((List.range (i + 1)).map f) := by rw [range_step, h]
theorem set_same {α : Type} {H : List α} {id : Nat} {o : α} (h : H[id]? = some o) : H.set id o = H := by
  have hlt := (List.getElem?_eq_some_iff.1 h).1
  rw [List.getElem?_eq_getElem hlt] at h
  rw [← Option.some.inj h, List.set_getElem_self]
theorem flat_of2 {α : Type} {enc : α → List C} {p : α → Prop} {xs : List (List C)} (h : ∀ x ∈ xs, ∃ a, x = enc a ∧ p a) : ∃ zs : List α, zs.length = xs.length ∧ xs.flatten = flat enc zs ∧ ∀ a ∈ zs, p a := by
  induction xs with
  | nil => exact ⟨[], rfl, rfl, fun a h => by cases h⟩
  | cons x xs ih =>
    obtain ⟨a, rfl, ha⟩ := h x (by simp)
    obtain ⟨zs, h1, h2, h3⟩ := ih (fun y hy => h y (by simp [hy]))
    exact ⟨a :: zs, by simp [h1], by rw [List.flatten_cons, h2, flat_cons], fun b hb => by
      rcases List.mem_cons.1 hb with rfl | hb
      · exact ha
      · exact h3 b hb⟩
def imark (a : Int) (j : Nat) : Int := a + j
theorem imark_step {a : Int} {i : Nat} {xs : List Int} (h : i < xs.length) : (marks (imark a) i xs).set i (a + i) = marks (imark a) (i + 1) xs := marks_step (f := imark a) h
/-! Sources of draws -/
def byt (b : Int) : List C := [.v (.int .u8 b)]
theorem byt_len (b : Int) : (byt b).length = 1 := rfl
theorem byt_sc (b : Int) : (byt b).all sc = true := rfl
/-- Choices from bytes: the bytes, where it stands, and the sequence. -/
abbrev srcT (t : TypeId) (code : List Int) (a s : Int) : Ob := ⟨[.sl false code.length 1 (flat byt code), .v (.int .i64 a), .v (.int .u64 s)], t, true⟩
def sd (s b : Int) : Int := IntKind.u64.wrap (IntKind.u64.wrap (IntKind.u64.wrap (s * 6364136223846793005) + b) + 1442695040888963407)
def nxS (code : List Int) (a s : Int) : Int := sd s (code.getD a.toNat 0)
def nxR (code : List Int) (a s : Int) : Int := if a.toNat < code.length then code.getD a.toNat 0 else bits .and .u64 ((nxS code a s).fdiv (2 ^ min (40 : Int).toNat IntKind.u64.bits)) 255
theorem nxR_in {code : List Int} {a : Nat} {s : Int} (h : a < code.length) : code[a] = nxR code a s := by
  unfold nxR
  rw [Int.toNat_natCast, if_pos h, gD h]
theorem nxS_in {code : List Int} {a : Nat} {s : Int} (h : a < code.length) : sd s code[a] = nxS code a s := by
  unfold nxS
  rw [Int.toNat_natCast, gD h]
theorem nxS_out {code : List Int} {a : Nat} {s : Int} (h : ¬ a < code.length) : sd s 0 = nxS code a s := by
  unfold nxS
  rw [Int.toNat_natCast, List.getD_eq_getElem?_getD, List.getElem?_eq_none (by omega)]
  rfl
theorem nxR_out {code : List Int} {a : Nat} {s : Int} (h : ¬ a < code.length) : bits .and .u64 ((sd s 0).fdiv (2 ^ min (40 : Int).toNat IntKind.u64.bits)) 255 = nxR code a s := by
  unfold nxR
  rw [Int.toNat_natCast, if_neg h, nxS_out h]
theorem nxR_rng {code : List Int} {a s : Int} (hc : ∀ b ∈ code, 0 ≤ b ∧ b ≤ 255) : 0 ≤ nxR code a s ∧ nxR code a s ≤ 255 := by
  unfold nxR
  split
  · rename_i h
    rw [gD h]
    exact hc _ (List.getElem_mem h)
  · exact and_le (k := 8) (by decide) (by decide)
/-- A number, picked below n: where more than two hundred, from two bytes. -/
def pkR (code : List Int) (n a s : Int) : Int := if n ≤ 1 then 0 else if n ≤ 200 then (nxR code a s).tmod n else (nxR code a s * 256 + nxR code (a + 1) (nxS code a s)).tmod n
def pkA (n a : Int) : Int := if n ≤ 1 then a else if n ≤ 200 then a + 1 else a + 1 + 1
def pkS (code : List Int) (n a s : Int) : Int := if n ≤ 1 then s else if n ≤ 200 then nxS code a s else nxS code (a + 1) (nxS code a s)
theorem pk_rng {code : List Int} {n a s : Int} (hc : ∀ b ∈ code, 0 ≤ b ∧ b ≤ 255) : 0 ≤ pkR code n a s ∧ (1 < n → pkR code n a s < n) ∧ (n ≤ 1 → pkR code n a s = 0) ∧ a ≤ pkA n a ∧ pkA n a ≤ a + 2 := by
  have h := nxR_rng (code := code) (a := a) (s := s) hc
  have h2 := nxR_rng (code := code) (a := a + 1) (s := nxS code a s) hc
  unfold pkR pkA
  split
  · exact ⟨by omega, fun h => by omega, fun _ => rfl, by omega, by omega⟩
  · split
    · refine ⟨Int.tmod_nonneg _ h.1, fun _ => Int.tmod_lt_of_pos _ (by omega), fun h => by omega, by omega, by omega⟩
    · refine ⟨Int.tmod_nonneg _ (by omega), fun _ => Int.tmod_lt_of_pos _ (by omega), fun h => by omega, by omega, by omega⟩
theorem pk_if1 {t : TypeId} {code : List Int} {n a s : Int} (h : n ≤ 1) : 0 = pkR code n a s ∧ srcT t code a s = srcT t code (pkA n a) (pkS code n a s) := by unfold pkR pkA pkS; rw [if_pos h, if_pos h, if_pos h]; exact ⟨rfl, rfl⟩
theorem pk_if2 {t : TypeId} {code : List Int} {n a s : Int} (h : ¬ n ≤ 1) (h2 : n ≤ 200) : (nxR code a s).tmod n = pkR code n a s ∧ srcT t code (a + 1) (nxS code a s) = srcT t code (pkA n a) (pkS code n a s) := by unfold pkR pkA pkS; rw [if_neg h, if_neg h, if_neg h, if_pos h2, if_pos h2, if_pos h2]; exact ⟨rfl, rfl⟩
theorem pk_if3 {t : TypeId} {code : List Int} {n a s : Int} (h : ¬ n ≤ 1) (h2 : ¬ n ≤ 200) : (nxR code a s * 256 + nxR code (a + 1) (nxS code a s)).tmod n = pkR code n a s ∧ srcT t code (a + 1 + 1) (nxS code (a + 1) (nxS code a s)) = srcT t code (pkA n a) (pkS code n a s) := by
  unfold pkR pkA pkS; rw [if_neg h, if_neg h, if_neg h, if_neg h2, if_neg h2, if_neg h2]; exact ⟨rfl, rfl⟩
end Go.VL
namespace Go.VL
open Go.RowKit
theorem cty_array {lay : TypeId → Option Lay} {t e : TypeId} {n a b : Nat} {z : List Value} (hL : lay t = some ⟨.array n e, a, b, z⟩) {cs : List C} (h : Cty lay t cs) : cs.length = a ∧ ∀ i, i < n → Cty lay e (sub cs (i * szOf lay e) (szOf lay e)) := by
  cases h with
  | array h cs hl hf => rw [hL] at h; simp only [Option.some.injEq, Lay.mk.injEq, LK.array.injEq] at h; obtain ⟨⟨rfl, rfl⟩, rfl, -⟩ := h; exact ⟨hl, hf⟩
  | _ => first
    | (rename_i h; rw [hL] at h; simp at h; done)
    | (rename_i h _; rw [hL] at h; simp at h; done)
    | (rename_i h _ _; rw [hL] at h; simp at h; done)
    | (rename_i h _ _ _; rw [hL] at h; simp at h; done)
    | (rename_i h _ _ _ _; rw [hL] at h; simp at h; done)
theorem vty_i64 {lay : TypeId → Option Lay} {t : TypeId} {a b : Nat} {z : List Value} (hL : lay t = some ⟨.int .i64, a, b, z⟩) {v : V} (h : VTy lay t v) : ∃ n, v = cI n := by
  unfold VTy at h
  rw [hL] at h
  simp only [LK.agg, Bool.false_eq_true, if_false] at h
  obtain ⟨c, rfl, hc⟩ := h
  obtain ⟨n, e, -⟩ := cty_int hL hc
  simp only [List.cons.injEq, and_true] at e
  subst e
  exact ⟨n, rfl⟩
/-- Eight truths, one by one. -/
theorem cty_ph {lay : TypeId → Option Lay} {t e : TypeId} {b b' a' : Nat} {z z' : List Value} (hL : lay t = some ⟨.array 8 e, 8, b, z⟩) (hLe : lay e = some ⟨.bool, a', b', z'⟩) (hs : szOf lay e = 1) {cs : List C} (h : Cty lay t cs) : ∃ g : Ph, cs = phc g := by
  obtain ⟨h1, h2⟩ := cty_array hL h
  rw [hs] at h2
  match cs, h1 with
  | [c0, c1, c2, c3, c4, c5, c6, c7], _ =>
    obtain ⟨g0, e0⟩ := cty_bool hLe (h2 0 (by decide))
    obtain ⟨g1, e1⟩ := cty_bool hLe (h2 1 (by decide))
    obtain ⟨g2, e2⟩ := cty_bool hLe (h2 2 (by decide))
    obtain ⟨g3, e3⟩ := cty_bool hLe (h2 3 (by decide))
    obtain ⟨g4, e4⟩ := cty_bool hLe (h2 4 (by decide))
    obtain ⟨g5, e5⟩ := cty_bool hLe (h2 5 (by decide))
    obtain ⟨g6, e6⟩ := cty_bool hLe (h2 6 (by decide))
    obtain ⟨g7, e7⟩ := cty_bool hLe (h2 7 (by decide))
    have q0 : [c0] = [.v (.bool g0)] := e0
    have q1 : [c1] = [.v (.bool g1)] := e1
    have q2 : [c2] = [.v (.bool g2)] := e2
    have q3 : [c3] = [.v (.bool g3)] := e3
    have q4 : [c4] = [.v (.bool g4)] := e4
    have q5 : [c5] = [.v (.bool g5)] := e5
    have q6 : [c6] = [.v (.bool g6)] := e6
    have q7 : [c7] = [.v (.bool g7)] := e7
    simp only [List.cons.injEq, and_true] at q0 q1 q2 q3 q4 q5 q6 q7
    subst q0 q1 q2 q3 q4 q5 q6 q7
    exact ⟨fun i => [g0, g1, g2, g3, g4, g5, g6, g7][i.val]'(by simp), rfl⟩
end Go.VL
namespace Go.VL
open Go.RowKit
/-- A cell that is frozen, or a number. -/
def fz : C → Bool
  | .v _ => true
  | .f _ _ => true
  | .sl true _ _ _ => true
  | .vw true _ _ => true
  | _ => false
theorem fz_flat {α : Type} {enc : α → List C} (h : ∀ a, (enc a).all fz = true) (xs : List α) : ∀ c ∈ flat enc xs, fz c = true := fun c hc => by
  obtain ⟨a, -, ha⟩ := List.mem_flatMap.1 hc
  exact List.all_eq_true.1 (h a) c ha
theorem Dn.fz {o : Bool} {H : List Ob} {gone : Nat → Prop} {c : C} (h : fz c = true) : Dn o H gone c c := by
  cases c with
  | v x => exact .v
  | f k x => exact .f
  | sl b n k cs => cases b with
    | true => exact .sl fun _ => rfl
    | false => cases h
  | vw b cs off => cases b with
    | true => exact .vw fun _ => rfl
    | false => cases h
  | _ => cases h
theorem dnl_fz {o : Bool} {H : List Ob} {gone : Nat → Prop} : ∀ {cs : List C}, (∀ c ∈ cs, fz c = true) → DnL o H gone cs cs
  | [], _ => .nil
  | c :: cs, h => .cons (.fz (h c (by simp))) (dnl_fz fun x hx => h x (by simp [hx]))
theorem stays_fz {c : C} (h : fz c = true) : stays c = true := by
  cases c with
  | v x => rfl
  | f k x => rfl
  | sl b n k cs => rfl
  | vw b cs off => rfl
  | _ => cases h
theorem dn_flatz {α : Type} {enc : α → List C} {o b' : Bool} {H : List Ob} {gone : Nat → Prop} {id n k : Nat} {xs : List α} {t : TypeId} (hsc : ∀ a, (enc a).all fz = true) (he : ∀ a, (enc a).length = k) (ho : H[id]? = some ⟨flat enc xs, t, true⟩) (hg : gone id) (hn : n = xs.length) :
    Dn o H gone (.mu id 0 n k) (.sl b' n k (flat enc xs)) := dn_mu ho hg (by rw [flat_length he, hn]) (dnl_fz (fz_flat hsc xs))
theorem trc_flatz {α : Type} {enc : α → List C} {H : List Ob} {g : List (Option Nat)} {xs : List α} (h : ∀ a, (enc a).all fz = true) {cs : List C} (hc : cs = flat enc xs) : TrC H g cs (flat enc xs) := by
  rw [hc]
  exact .stay fun c hc => stays_fz (fz_flat h xs c hc)
theorem vw_muz {α : Type} {H : List Ob} {enc : α → List C} {id n k : Nat} {xs : List α} {t : TypeId} (hsc : ∀ a, (enc a).all fz = true) (he : ∀ a, (enc a).length = k) (ho : H[id]? = some ⟨flat enc xs, t, true⟩) (hn : n = xs.length) : VwV H (.c (.mu id 0 n k)) (.c (.sl false n k (flat enc xs))) :=
  vw_dn (dn_flatz hsc he ho trivial hn) rfl
theorem a_flatz {α : Type} {H : List Ob} {enc : α → List C} {id n n' k : Nat} {xs : List α} {t : TypeId} {cs : List C} (hsc : ∀ a, (enc a).all fz = true) (he : ∀ a, (enc a).length = k) (ho : H[id]? = some ⟨cs, t, true⟩) (hc : cs = flat enc xs) (hn : n = xs.length) (hn' : n' = n) : TrV H [] (.c (.mu id 0 n k)) (.c (.sl true n' k (flat enc xs))) := by
  subst hc hn'
  exact a_dn (dn_flatz hsc he ho gone_nil hn)
section
variable {X : Cx} {all r : List Oper} {K : Sl → List Ob → Prop} {sl : Sl} {H : List Ob} {d : Tmp} {ty : TypeId} {ps : String} {af : Array Edge}
theorem v_app_flatz {α : Type} {enc : α → List C} {ys zs : List α} {s x : Operand} {t e e' : TypeId} {a b : Nat} {z : List Value} {L : Lay} {id idx m n k q : Nat} {H' : List Ob} (_hsc : ∀ a, (enc a).all fz = true) (he : ∀ a, (enc a).length = k) (hL : X.lay t = some ⟨.slice e, a, b, z⟩) (hLe : X.lay e = some L) (hs : rho X.G sl s = .c (.mu id 0 m k)) (ho : H[id]? = some ⟨flat enc ys, e, true⟩) (hm : m = ys.length)
    (hx : rho X.G sl x = .c (.mu idx 0 n k)) (hox : H[idx]? = some ⟨flat enc zs, e', true⟩) (hz : n = zs.length) (hk : L.size = k) (hk0 : Nat.blt 0 k = true) (hn : m + n ≤ maxLen ∧ (m + n) * L.bytes ≤ 140737488355328) (hq : H.length = q) (hH : H.set id ⟨flat enc ys, e, false⟩ ++ [⟨flat enc (ys ++ zs), e, true⟩] = H') (h : vops X all r K (upd sl d (.c (.mu q 0 (m + n) k))) H') :
    vops X all (⟨some d, .call ⟨.builtin .append, #[s, x], #[t, t]⟩, ty, ps, af, none⟩ :: r) K sl H := by
  have hx' : srcOf H (rho X.G sl x) = some (n, k, flat enc zs) := by
    have hl : 0 + n * k ≤ (flat enc zs).length := by rw [flat_length he, hz]; omega
    have hsub : sub (flat enc zs) 0 (n * k) = flat enc zs := by
      have : n * k = (flat enc zs).length := by rw [flat_length he, hz]
      unfold sub
      rw [this]; simp
    simp only [srcOf, hx, hox]
    rw [if_pos ⟨trivial, hl⟩, hsub]
  exact v_app_mu hL hLe hs ho hx' hk (Nat.le_of_ble_eq_true hk0) (by rw [flat_length he, hm]) hn hq (by rw [← flat_append]; exact hH) h
theorem v_app_flatz_sl {α : Type} {enc : α → List C} {ys zs : List α} {s x : Operand} {t e : TypeId} {a b : Nat} {z : List Value} {L : Lay} {id m n k q : Nat} {H' : List Ob} (_hsc : ∀ a, (enc a).all fz = true) (he : ∀ a, (enc a).length = k) (hL : X.lay t = some ⟨.slice e, a, b, z⟩) (hLe : X.lay e = some L) (hs : rho X.G sl s = .c (.mu id 0 m k)) (ho : H[id]? = some ⟨flat enc ys, e, true⟩) (hm : m = ys.length)
    (hx : rho X.G sl x = .c (.sl true n k (flat enc zs))) (hk : L.size = k) (hk0 : Nat.blt 0 k = true) (hn : m + n ≤ maxLen ∧ (m + n) * L.bytes ≤ 140737488355328) (hq : H.length = q) (hH : H.set id ⟨flat enc ys, e, false⟩ ++ [⟨flat enc (ys ++ zs), e, true⟩] = H') (h : vops X all r K (upd sl d (.c (.mu q 0 (m + n) k))) H') :
    vops X all (⟨some d, .call ⟨.builtin .append, #[s, x], #[t, t]⟩, ty, ps, af, none⟩ :: r) K sl H := by
  have hx' : srcOf H (rho X.G sl x) = some (n, k, flat enc zs) := by
    simp only [srcOf, hx]
    rfl
  exact v_app_mu hL hLe hs ho hx' hk (Nat.le_of_ble_eq_true hk0) (by rw [flat_length he, hm]) hn hq (by rw [← flat_append]; exact hH) h
end
/-! Remainders -/
theorem em_of {a n : Int} (k : Int) : (a - n * k) % n = a % n := Int.sub_mul_emod_self_left a n k
theorem mo_eq {a n : Int} (hn : 0 < n) : (a.tmod n + n).tmod n = a % n := by
  have h := Int.lt_tmod_of_pos a hn
  rw [Int.tmod_eq_emod_of_nonneg (by omega), Int.add_emod_right, Int.tmod_def, em_of]
theorem pl_eq {t f n : Int} (hn : 0 < n) (ht : 0 ≤ t) (hf : 0 ≤ f ∧ f < n) : (t.tmod n - f + n).tmod n = (t - f) % n := by
  have h1 := Int.emod_nonneg t (show n ≠ 0 by omega)
  rw [Int.tmod_eq_emod_of_nonneg ht, Int.tmod_eq_emod_of_nonneg (by omega), Int.add_emod_right]
  have e : t % n - f = (t - f) - n * (t / n) := by
    have := Int.emod_add_mul_ediv t n
    omega
  rw [e, em_of]
theorem em_add {a c n : Int} : (a % n + c) % n = (a + c) % n := Int.emod_add_emod a n c
theorem em_sub {a c n : Int} : (a - c % n) % n = (a - c) % n := by
  have := Int.emod_add_mul_ediv c n
  have e : a - c = (a - c % n) - n * (c / n) := by omega
  rw [e, em_of]
end Go.VL
namespace Go.VL
open Go.RowKit
theorem ag_call {X : Cx} {sl : Sl} {H : List Ob} {f : Operand} {args : Array Operand} {tys : Array TypeId} {gf : FuncId} {caps : List C} {args' : List V} {res : V} (hp : PureC X gf args' res) (hown : ownV res = true) (hf : rho X.G sl f = .c (.fn gf caps)) {aa : List V} (has : args.toList.map (rho X.G sl) ++ caps.map .c = aa) (hv : Views H aa args') :
    Qt0 X 0 H (rho X.G sl) (.call ⟨.value f, args, tys⟩) res := by
  subst has
  unfold Qt0
  rw [if_neg (by omega)]
  simp only [callOf, hf, target]
  exact ⟨args', hv, hp, hown⟩
theorem ag_if {c : Bool} {p : Prop} (hc : c = true) (h : p) : if c = true then p else True := by rw [if_pos hc]; exact h
end Go.VL
namespace Go.VL
open Go.RowKit
/-- What a struct's value is, where its cells are numbers and truths. -/
theorem agg_vals {m : Mem} {vs : List Value} {u : Value} (h : RV m (.agg (vs.map C.v)) u) : u = .agg vs.toArray := by
  obtain ⟨xs, rfl, h1, h2⟩ := h.aggI
  congr 1
  apply Array.ext
  · simpa using h1
  · intro j hj1 hj2
    have hj : j < vs.length := by simpa using hj2
    obtain ⟨u, k1, k2⟩ := h2 j (.v vs[j]) (by rw [List.getElem?_map, List.getElem?_eq_getElem hj]; rfl)
    have e := k2.val
    rw [Array.getElem?_eq_getElem hj1] at k1
    rw [Option.some.inj k1, e]
    simp
theorem struct_eqD {X : Cx} {t : TypeId} {m : Mem} {vs1 vs2 : List Value} {u v : Value} {p : Prop} (q d : Nat) (hq : d + q = 10000) (hk : X.P.keyTypeAt q t = true) {l1 l2 : List Lit} {D : Nat}
    (hf1 : (Value.agg vs1.toArray).formed X.P t = true) (hf2 : (Value.agg vs2.toArray).formed X.P t = true) (hl1 : X.P.keyLits D t vs1 = some l1) (hl2 : X.P.keyLits D t vs2 = some l2) (hp : p ↔ l1 = l2)
    (h1 : RV m (.agg (vs1.map C.v)) u) (h2 : RV m (.agg (vs2.map C.v)) v) : ∃ xs ys, u = .agg xs ∧ v = .agg ys ∧ ∀ w, ∃ r : Bool, (Op.equalIn 10000 t (.agg xs) (.agg ys)).run X.P w = .ok r w ∧ (r = true ↔ p) := by
  refine ⟨_, _, agg_vals h1, agg_vals h2, fun w => ?_⟩
  obtain ⟨r, hr, hiff⟩ := run_equalIn_deep d q t hk w D D _ _ l1 l2 hf1 hf2 (by simpa [Value.cells] using hl1) (by simpa [Value.cells] using hl2)
  rw [hq] at hr
  exact ⟨r, hr, hiff.trans hp.symm⟩
theorem rq_neqD {X : Cx} {t ty2 : TypeId} {x y : Operand} {ρ : Operand → V} {vs1 vs2 : List Value} {p : Prop} [Decidable p] (q d : Nat) (hq : d + q = 10000) (hk : X.P.keyTypeAt q t = true) {l1 l2 : List Lit} {D : Nat}
    (hf1 : (Value.agg vs1.toArray).formed X.P t = true) (hf2 : (Value.agg vs2.toArray).formed X.P t = true) (hl1 : X.P.keyLits D t vs1 = some l1) (hl2 : X.P.keyLits D t vs2 = some l2) (hp : p ↔ l1 = l2)
    (hg : X.P.eqGuardType X.P.depth t = false) (hx : ρ x = .agg (vs1.map C.v)) (hy : ρ y = .agg (vs2.map C.v)) : RawQ X (.binOp .neq t x y ty2) ρ (.c (.v (.bool (decide (¬ p))))) := by
  intro m H ε o ho hS hr
  have r1 := hr x (by simp [Op.operands])
  have r2 := hr y (by simp [Op.operands])
  rw [hx] at r1
  rw [hy] at r2
  obtain ⟨xs, ys, e1, e2, h⟩ := struct_eqD q d hq hk hf1 hf2 hl1 hl2 hp r1 r2
  obtain ⟨r, h3, h4⟩ := h m.w
  refine Good.here hS (u := .bool (decide (¬ p))) ?_ (.c (.v rfl))
  have h5 : decide (¬ p) = !r := by
    cases r
    · simp [← h4]
    · simp [← h4]
  simp [execOp, ho, e1, e2, run_eqGuard_agg m.w _ _ _ _ _ _ hg, run_neq_struct, h3, h5]
end Go.VL
namespace Go.VL
open Go.RowKit
section
variable {α β : Type} (kid : α → List β) (enc : β → List C) (k : Nat) (tt : TypeId) (rest : α → List C)
/-- An element, frozen. -/
def fzE (x : α) : List C := .sl true (kid x).length k (flat enc (kid x)) :: rest x
/-- The elements' cells, where their slices are the objects from N on. -/
def refs : Nat → List α → List C
  | _, [] => []
  | N, x :: r => (.mu N 0 (kid x).length k :: rest x) ++ refs (N + 1) r
/-- The elements' slices, as objects. -/
def kids (xs : List α) : List Ob := xs.map fun x => ⟨flat enc (kid x), tt, true⟩
end
section
variable {α β : Type} {kid : α → List β} {enc : β → List C} {k : Nat} {tt : TypeId} {rest : α → List C}
theorem kids_len {xs : List α} : (kids kid enc tt xs).length = xs.length := by simp [kids]
theorem kids_at {xs : List α} {i : Nat} (h : i < xs.length) : (kids kid enc tt xs)[i]? = some ⟨flat enc (kid xs[i]), tt, true⟩ := by simp [kids, h]
theorem kids_app {xs ys : List α} : kids kid enc tt (xs ++ ys) = kids kid enc tt xs ++ kids kid enc tt ys := by simp [kids]
theorem kids_set {xs : List α} {i : Nat} {x : α} (_h : i < xs.length) : kids kid enc tt (xs.set i x) = (kids kid enc tt xs).set i ⟨flat enc (kid x), tt, true⟩ := by simp [kids, List.map_set]
theorem refs_app {xs ys : List α} : ∀ {N : Nat}, refs kid k rest N (xs ++ ys) = refs kid k rest N xs ++ refs kid k rest (N + xs.length) ys := by
  induction xs with
  | nil => intro N; simp [refs]
  | cons x r ih =>
    intro N
    simp only [List.cons_append, refs, ih, List.length_cons, List.append_assoc]
    rw [show N + (r.length + 1) = N + 1 + r.length by omega]
theorem refs_len {K : Nat} (hr : ∀ x, (rest x).length + 1 = K) : ∀ {xs : List α} {N : Nat}, (refs kid k rest N xs).length = xs.length * K
  | [], _ => by simp [refs]
  | x :: r, N => by
    simp only [refs, List.length_append, List.length_cons, refs_len hr, hr x]
    rw [Nat.add_mul, Nat.one_mul]
    omega
/-- What is written of the kids' lengths alone does not tell the kids themselves. -/
theorem refs_set {xs : List α} {x : α} : ∀ {i N : Nat} (h : i < xs.length), (kid x).length = (kid xs[i]).length → rest x = rest xs[i] → refs kid k rest N (xs.set i x) = refs kid k rest N xs := by
  induction xs with
  | nil => intro i N h; simp at h
  | cons y r ih =>
    intro i N h h1 h2
    cases i with
    | zero =>
      simp only [List.getElem_cons_zero] at h1 h2
      simp only [List.set_cons_zero, refs, h1, h2]
    | succ i =>
      simp only [List.getElem_cons_succ] at h1 h2
      simp only [List.set_cons_succ, refs]
      rw [ih (by simpa using h) h1 h2]
theorem dnl_app {o : Bool} {H : List Ob} {gone : Nat → Prop} {t t' : List C} : ∀ {cs : List C}, (∀ c ∈ cs, fz c = true) → DnL o H gone t t' → DnL o H gone (cs ++ t) (cs ++ t')
  | [], _, h => h
  | c :: cs, hc, h => .cons (.fz (hc c (by simp))) (dnl_app (fun x hx => hc x (by simp [hx])) h)
theorem dnl_refs {o : Bool} {H : List Ob} {gone : Nat → Prop} (hsc : ∀ a, (enc a).all sc = true) (he : ∀ a, (enc a).length = k) (hr : ∀ x, (rest x).all fz = true) :
    ∀ {xs : List α} {N : Nat}, (∀ i (h : i < xs.length), H[N + i]? = some ⟨flat enc (kid xs[i]), tt, true⟩ ∧ gone (N + i)) → DnL o H gone (refs kid k rest N xs) (flat (fzE kid enc k rest) xs)
  | [], _, _ => .nil
  | x :: r, N, h => by
    have h0 := h 0 (by simp)
    simp only [Nat.add_zero, List.getElem_cons_zero] at h0
    rw [flat_cons]
    refine .cons (dn_flat hsc he h0.1 h0.2 rfl) (dnl_app (fun c hc => List.all_eq_true.1 (hr x) c hc) (dnl_refs hsc he hr fun i hi => ?_))
    have h1 := h (i + 1) (by simpa using hi)
    rw [show N + (i + 1) = N + 1 + i by omega] at h1
    simpa using h1
theorem fzE_len {K : Nat} (hr : ∀ x, (rest x).length + 1 = K) (x : α) : (fzE kid enc k rest x).length = K := by simpa [fzE] using hr x
/-- Such a list, seen by a call. -/
theorem vw_nest {H : List Ob} {id N n K : Nat} {xs : List α} {t : TypeId} (hsc : ∀ a, (enc a).all sc = true) (he : ∀ a, (enc a).length = k) (hr : ∀ x, (rest x).all fz = true) (hK : ∀ x, (rest x).length + 1 = K) (ho : H[id]? = some ⟨refs kid k rest N xs, t, true⟩)
    (hk : ∀ i (h : i < xs.length), H[N + i]? = some ⟨flat enc (kid xs[i]), tt, true⟩) (hn : n = xs.length) : VwV H (.c (.mu id 0 n K)) (.c (.sl false n K (flat (fzE kid enc k rest) xs))) :=
  vw_dn (dn_mu ho trivial (by rw [refs_len hK, hn]) (dnl_refs hsc he hr fun i hi => ⟨hk i hi, trivial⟩)) rfl
/-- .. answered, and frozen so. -/
theorem a_nest {H : List Ob} {id N n K : Nat} {xs : List α} {t : TypeId} (hsc : ∀ a, (enc a).all sc = true) (he : ∀ a, (enc a).length = k) (hr : ∀ x, (rest x).all fz = true) (hK : ∀ x, (rest x).length + 1 = K) (ho : H[id]? = some ⟨refs kid k rest N xs, t, true⟩)
    (hk : ∀ i (h : i < xs.length), H[N + i]? = some ⟨flat enc (kid xs[i]), tt, true⟩) (hn : n = xs.length) : TrV H [] (.c (.mu id 0 n K)) (.c (.sl true n K (flat (fzE kid enc k rest) xs))) :=
  a_dn (dn_mu ho gone_nil (by rw [refs_len hK, hn]) (dnl_refs hsc he hr fun i hi => ⟨hk i hi, gone_nil⟩))
end
/-! Looking anew, with rows of objects -/
def ids (M n : Nat) : List (Option Nat) := (List.range n).map fun i => some (M + i)
theorem ids_len {M n : Nat} : (ids M n).length = n := by simp [ids]
theorem ids_at {M n i : Nat} (h : i < n) : (ids M n)[i]? = some (some (M + i)) := by simp [ids, h]
theorem turno_app {H : List Ob} {g : List (Option Nat)} : ∀ {g1 : List (Option Nat)} {o1 : List Ob} {g2 : List (Option Nat)} {o2 : List Ob}, TurnO H g g1 o1 → TurnO H g g2 o2 → TurnO H g (g1 ++ g2) (o1 ++ o2)
  | [], [], _, _, _, h2 => h2
  | none :: _gs, _o :: _os, _, _, h1, h2 => ⟨h1.1, turno_app h1.2 h2⟩
  | some _id :: _gs, _o :: _os, _, _, h1, h2 => ⟨h1.1, turno_app h1.2 h2⟩
  | [], _ :: _, _, _, h1, _ => h1.elim
  | none :: _, [], _, _, h1, _ => h1.elim
  | some _ :: _, [], _, _, h1, _ => h1.elim
theorem turno_of {H : List Ob} {g : List (Option Nat)} : ∀ {gs : List (Option Nat)} {os : List Ob}, gs.length = os.length → (∀ (i : Nat) (o : Ob), os[i]? = some o → ∃ id, gs[i]? = some (some id) ∧ ∃ cs, H[id]? = some ⟨cs, o.t, true⟩ ∧ TrC H g cs o.cs) → TurnO H g gs os
  | [], [], _, _ => trivial
  | x :: gs, o :: os, hl, h => by
    obtain ⟨id, h1, h2⟩ := h 0 o rfl
    simp only [List.getElem?_cons_zero, Option.some.injEq] at h1
    subst h1
    exact ⟨h2, turno_of (by simpa using hl) fun i o' ho => by simpa using h (i + 1) o' (by simpa using ho)⟩
theorem turno_kids {α β : Type} {kid : α → List β} {enc : β → List C} {tt : TypeId} {H : List Ob} {g : List (Option Nat)} {xs : List α} {M : Nat} (hsc : ∀ a, (enc a).all sc = true) (h : ∀ i (hi : i < xs.length), H[M + i]? = some ⟨flat enc (kid xs[i]), tt, true⟩) : TurnO H g (ids M xs.length) (kids kid enc tt xs) := by
  refine turno_of (by rw [ids_len, kids_len]) fun i o ho => ?_
  have hi : i < xs.length := by
    have := (List.getElem?_eq_some_iff.1 ho).1
    rwa [kids_len] at this
  rw [kids_at hi] at ho
  have := Option.some.inj ho
  subst this
  exact ⟨M + i, ids_at hi, _, h i hi, trc_flat hsc rfl⟩
end Go.VL
namespace Go.VL
open Go.RowKit
def shO (N : Nat) (o : Ob) : Ob := ⟨o.cs.map (shC N), o.t, o.live⟩
abbrev seg (N : Nat) (S : List Ob) : List Ob := S.map (shO N)
/-- A cell that leads nowhere but into the row. -/
def clC (n : Nat) : C → Bool
  | .mu id _ _ _ => decide (id < n)
  | .pt id _ => decide (id < n)
  | .v _ => true
  | .f _ _ => true
  | .any => true
  | _ => false
def clV1 (n : Nat) : V → Bool
  | .c x => clC n x
  | .agg cs => cs.all (clC n)
  | .any => true
  | .tup _ => false
theorem seg_at {A S B : List Ob} {i : Nat} {o : Ob} (h : S[i]? = some o) : (A ++ (seg A.length S ++ B))[A.length + i]? = some (shO A.length o) := by
  have hi := (List.getElem?_eq_some_iff.1 h).1
  rw [List.getElem?_append_right (by omega), Nat.add_sub_cancel_left, List.getElem?_append_left (by simpa using hi), List.getElem?_map, h]
  rfl
theorem sub_map {f : C → C} {cs : List C} {a b : Nat} : sub (cs.map f) a b = (sub cs a b).map f := by
  unfold sub
  rw [← List.map_drop, ← List.map_take]
theorem Dn.seg {b : Bool} {A S B : List Ob} {gone gone' : Nat → Prop} (hg : ∀ i, gone i → gone' (A.length + i)) {c c' : C} (h : Dn b S gone c c') : Dn b (A ++ (seg A.length S ++ B)) gone' (shC A.length c) c' := by
  induction h with
  | v => exact .v
  | f => exact .f
  | any => exact .any
  | sl h => exact .sl h
  | vw h => exact .vw h
  | mu ho hlive hgo hfit hl hc ih =>
    refine .mu (seg_at ho) hlive (hg _ hgo) (by simpa [shO] using hfit) hl fun j c c' h1 h2 => ?_
    simp only [shO] at h1
    rw [sub_map, List.getElem?_map, Option.map_eq_some_iff] at h1
    obtain ⟨c0, h1, rfl⟩ := h1
    exact ih j c0 c' h1 h2
  | pt ho hlive hgo hl hc ih =>
    refine .pt (seg_at ho) hlive (hg _ hgo) (by simpa [shO] using hl) fun j c c' h1 h2 => ?_
    simp only [shO] at h1
    rw [List.getElem?_map, Option.map_eq_some_iff] at h1
    obtain ⟨c0, h1, rfl⟩ := h1
    exact ih j c0 c' h1 h2
theorem shC_cl {n : Nat} {c : C} (h : clC n c = true) (N : Nat) (ids : List Nat) (M : Nat) (hid : ∀ i, i < n → ids[i]? = some (N + i)) : rnC ids M c = shC N c := by
  cases c with
  | mu id off m k =>
    have := hid id (by simpa [clC] using h)
    simp only [rnC, shC, rnI, this]
  | pt id off =>
    have := hid id (by simpa [clC] using h)
    simp only [rnC, shC, rnI, this]
  | _ => rfl
theorem gC_cl {n : Nat} {c : C} (h : clC n c = true) : gC c = true := by cases c <;> first | rfl | cases h
/-- A call that writes into a row alone, in the midst of others. -/
theorem CallC.of_seg {X : Cx} {g : FuncId} {args0 : List V} {S S' A B : List Ob} {r : V} (hp : DetC X g args0 S r S') (hlen : S'.length = S.length) (hl : ∀ o ∈ S, o.live = true) (hc : ∀ o ∈ S, ∀ c ∈ o.cs, clC S.length c = true) (hc' : ∀ o ∈ S', ∀ c ∈ o.cs, clC S.length c = true)
    (ha : ∀ v ∈ args0, clV1 S.length v = true) (hr : clV1 S.length r = true) {Q : V → List Ob → Prop} (hQ : Q (shV1 A.length r) (A ++ (seg A.length S' ++ B))) : CallC X g (args0.map (shV1 A.length)) (A ++ (seg A.length S ++ B)) Q := by
  let ids : List Nat := (List.range S.length).map (A.length + ·)
  have hid : ∀ i, i < S.length → ids[i]? = some (A.length + i) := fun i hi => by simp [ids, hi]
  have hidl : ids.length = S.length := by simp [ids]
  have hnd : ids.Nodup := by
    show List.Pairwise _ _
    exact List.pairwise_map.2 (List.nodup_range.imp fun h e => h (by omega))
  have hinv : ∀ i j, ids[i]? = some j → i < S.length ∧ j = A.length + i := fun i j h => by
    have hi : i < S.length := by
      have := (List.getElem?_eq_some_iff.1 h).1
      omega
    rw [hid i hi] at h
    exact ⟨hi, (Option.some.inj h).symm⟩
  have hgv : ∀ c, clC S.length c = true → Gv (A ++ (seg A.length S ++ B)) ids (shC A.length c) c := fun c h => by
    cases c with
    | mu id off m k => exact .mu (hid id (by simpa [clC] using h))
    | pt id off => exact .pt (hid id (by simpa [clC] using h))
    | v x => exact .dn .v rfl
    | f k x => exact .dn .f rfl
    | any => exact .dn .any rfl
    | _ => cases h
  have hgl : ∀ cs : List C, (∀ c ∈ cs, clC S.length c = true) → GvL (A ++ (seg A.length S ++ B)) ids (cs.map (shC A.length)) cs := fun cs => by
    induction cs with
    | nil => exact fun _ => .nil
    | cons c cs ih => exact fun h => .cons (hgv c (h c (by simp))) (ih fun x hx => h x (by simp [hx]))
  refine CallC.of_graph (ids := ids) hp hidl hnd (fun i j o0 h1 h2 => ?_) ?_ (fun r1 H1 h => ?_) fun r1 H1 h => ?_
  · obtain ⟨hi, rfl⟩ := hinv i j h1
    exact ⟨shO A.length o0, seg_at h2, hl o0 (List.mem_of_getElem? h2), hl o0 (List.mem_of_getElem? h2), rfl, hgl o0.cs (hc o0 (List.mem_of_getElem? h2))⟩
  · have : ∀ vs : List V, (∀ v ∈ vs, clV1 S.length v = true) → GvVs (A ++ (seg A.length S ++ B)) ids (vs.map (shV1 A.length)) vs := fun vs => by
      induction vs with
      | nil => exact fun _ => .nil
      | cons v vs ih =>
        refine fun h => .cons ?_ (ih fun x hx => h x (by simp [hx]))
        have hv := h v (by simp)
        cases v with
        | c x => exact .c (hgv x hv)
        | agg cs => exact .agg (hgl cs fun c hcm => List.all_eq_true.1 hv c hcm)
        | any => exact .any
        | tup vs => cases hv
    exact this args0 ha
  · obtain ⟨rfl, rfl⟩ := h
    refine ⟨?_, fun o ho _ c hcm => gC_cl (hc' o ho c hcm), by omega⟩
    cases r1 with
    | c x => exact gC_cl hr
    | agg cs => exact List.all_eq_true.2 fun c hcm => gC_cl (List.all_eq_true.1 hr c hcm)
    | any => rfl
    | tup vs => cases hr
  · obtain ⟨rfl, rfl⟩ := h
    have hM : ∀ i, i < S.length → ids[i]? = some (A.length + i) := hid
    have er : rnV ids (A ++ (seg A.length S ++ B)).length r1 = shV1 A.length r1 := by
      cases r1 with
      | c x => exact congrArg V.c (shC_cl hr _ _ _ hM)
      | agg cs => exact congrArg V.agg (List.map_congr_left fun c hcm => shC_cl (List.all_eq_true.1 hr c hcm) _ _ _ hM)
      | any => rfl
      | tup vs => cases hr
    have eo : ∀ o ∈ H1, rnO ids (A ++ (seg A.length S ++ B)).length o = shO A.length o := fun o ho => by
      unfold rnO shO
      congr 1
      exact List.map_congr_left fun c hcm => shC_cl (hc' o ho c hcm) _ _ _ hM
    have eg : graft ids (A ++ (seg A.length S ++ B)) H1 = A ++ (seg A.length H1 ++ B) := by
      have hlg := graft_len ids (A ++ (seg A.length S ++ B)) H1
      refine List.ext_getElem? fun x => ?_
      by_cases hx : x < (graft ids (A ++ (seg A.length S ++ B)) H1).length
      · have hxl : x < A.length + (S.length + B.length) := by
          rw [hlg] at hx
          simp only [List.length_append, List.length_map] at hx
          omega
        rw [List.getElem?_eq_getElem hx]
        have hgs := graft_spec hnd (fun j hj => by
          obtain ⟨i, hi⟩ := List.getElem?_of_mem hj
          obtain ⟨h1, rfl⟩ := hinv i j hi
          simp only [List.length_append, List.length_map]
          omega) (by omega) (List.getElem?_eq_getElem hx)
        rcases hgs with ⟨a1, a2, a3⟩ | ⟨i, o1, a1, a2, a3⟩ | ⟨i, o1, a1, a2, a3⟩
        · rw [← a3]
          by_cases hA : x < A.length
          · rw [List.getElem?_append_left hA, List.getElem?_append_left hA]
          · have hS : ¬ x < A.length + S.length := fun hlt => a2 (List.mem_of_getElem? (by rw [hid (x - A.length) (by omega), show A.length + (x - A.length) = x by omega]))
            have e1 : ∀ T : List Ob, T.length = S.length → (A ++ (seg A.length T ++ B))[x]? = B[x - A.length - S.length]? := fun T hT => by
              have hsl : (seg A.length T).length = S.length := by rw [List.length_map, hT]
              rw [List.getElem?_append_right (by omega), List.getElem?_append_right (by omega), hsl]
            rw [e1 S rfl, e1 H1 hlen]
        · obtain ⟨h1, rfl⟩ := hinv i x a1
          rw [seg_at a2, a3, eo o1 (List.mem_of_getElem? a2)]
        · simp only [List.length_append, List.length_map] at a1
          omega
      · rw [List.getElem?_eq_none (by omega), List.getElem?_eq_none]
        simp only [List.length_append, List.length_map]
        rw [hlg] at hx
        simp only [List.length_append, List.length_map] at hx
        omega
    rw [er, eg]
    exact hQ
/-! Rows, one behind the other -/
def glueA : Nat → List (List Ob) → List Ob
  | _, [] => []
  | N, S :: r => seg N S ++ glueA (N + S.length) r
def glue (segs : List (List Ob)) : List Ob := glueA 0 segs
/-- Where a row begins. -/
def offs : List (List Ob) → Nat → Nat
  | _, 0 => 0
  | [], _ + 1 => 0
  | S :: r, i + 1 => S.length + offs r i
theorem glueA_len : ∀ {segs : List (List Ob)} {M : Nat}, (glueA M segs).length = offs segs segs.length
  | [], _ => rfl
  | S :: r, M => by
    simp only [glueA, List.length_append, List.length_map, List.length_cons, offs]
    rw [glueA_len]
theorem glueA_split : ∀ {segs : List (List Ob)} {i M : Nat} {S : List Ob}, segs[i]? = some S → ∃ A B, A.length = offs segs i ∧ glueA M segs = A ++ (seg (M + offs segs i) S ++ B) ∧ ∀ S', S'.length = S.length → glueA M (segs.set i S') = A ++ (seg (M + offs segs i) S' ++ B)
  | [], i, M, S, h => by simp at h
  | T :: r, 0, M, S, h => by
    simp at h
    subst h
    exact ⟨[], glueA (M + T.length) r, rfl, rfl, fun S' h' => by
      simp only [List.set_cons_zero, glueA, offs, Nat.add_zero, h', List.nil_append]⟩
  | T :: r, i + 1, M, S, h => by
    obtain ⟨A, B, h1, h2, h3⟩ := glueA_split (segs := r) (i := i) (M := M + T.length) (S := S) (by simpa using h)
    refine ⟨seg M T ++ A, B, by simp [offs, h1], ?_, fun S' h' => ?_⟩
    · simp only [glueA, h2, offs, List.append_assoc, Nat.add_assoc]
    · simp only [List.set_cons_succ, glueA, h3 S' h', offs, List.append_assoc, Nat.add_assoc]
theorem glueA_snoc : ∀ {segs : List (List Ob)} {M : Nat} {S : List Ob}, glueA M (segs ++ [S]) = glueA M segs ++ seg (M + offs segs segs.length) S
  | [], M, S => by simp [glueA, offs]
  | T :: r, M, S => by
    simp only [List.cons_append, glueA, glueA_snoc (segs := r), List.append_assoc, List.length_cons, offs, Nat.add_assoc]
/-- What is seen of a row. -/
theorem vg {segs : List (List Ob)} {N : Nat} {S : List Ob} {c c' : C} (i : Nat) (hi : segs[i]? = some S) (hN : offs segs i = N) (h : Dn false S (fun _ => True) c c') (ho : c'.own = false) : VwV (glue segs) (.c (shC N c)) (.c c') := by
  subst hN
  obtain ⟨A, B, h1, h2, -⟩ := glueA_split (M := 0) hi
  rw [Nat.zero_add, ← h1] at h2
  unfold glue
  rw [h2, ← h1]
  exact .c (.dn (h.seg fun _ _ => trivial) ho)
section
variable {X : Cx} {all r : List Oper} {K : Sl → List Ob → Prop} {sl : Sl} {d : Tmp} {ty : TypeId} {ps : String} {af : Array Edge}
/-- A call that answers a row. -/
theorem vg_live {f : Operand} {args : Array Operand} {tys : Array TypeId} {g : FuncId} {caps : List C} {args' : List V} {res res' : V} {S : List Ob} (segs : List (List Ob)) {segs' : List (List Ob)} {N : Nat} (hp : LiveC X g args' res S) (hN : offs segs segs.length = N) (ha : ansV res = true) (hc : ∀ o ∈ S, ∀ c ∈ o.cs, ansC c = true) (hres : shV N res = res') (hH : segs ++ [S] = segs')
    (hf : rho X.G sl f = .c (.fn g caps)) {av : List V} (has : args.toList.map (rho X.G sl) ++ caps.map .c = av) (hv : Views (glue segs) av args') (h : vops X all r K (upd sl d res') (glue segs')) : vops X all (⟨some d, .call ⟨.value f, args, tys⟩, ty, ps, af, none⟩ :: r) K sl (glue segs) := by
  subst hN hH
  refine v_live hp glueA_len ha hc hres ?_ hf has hv h
  rw [glue, glue, glueA_snoc, Nat.zero_add]
  rfl
/-- A call that writes into a row. -/
theorem vg_det {f : Operand} {args : Array Operand} {tys : Array TypeId} {g : FuncId} {args0 : List V} {res res' : V} {S S' : List Ob} (segs : List (List Ob)) {segs' : List (List Ob)} {N : Nat} (i : Nat) (hp : DetC X g args0 S res S') (hi : segs[i]? = some S) (hN : offs segs i = N) (hlen : S'.length = S.length) (hl : ∀ o ∈ S, o.live = true) (hc : ∀ o ∈ S, ∀ c ∈ o.cs, clC S.length c = true) (hc' : ∀ o ∈ S', ∀ c ∈ o.cs, clC S.length c = true)
    (ha : ∀ v ∈ args0, clV1 S.length v = true) (hr : clV1 S.length res = true) (hres : shV1 N res = res') (hH : segs.set i S' = segs') (hf : rho X.G sl f = .c (.fn g [])) (has : args.toList.map (rho X.G sl) = args0.map (shV1 N)) (h : vops X all r K (upd sl d res') (glue segs')) :
    vops X all (⟨some d, .call ⟨.value f, args, tys⟩, ty, ps, af, none⟩ :: r) K sl (glue segs) := by
  subst hN hH hres
  obtain ⟨A, B, h1, h2, h3⟩ := glueA_split (M := 0) hi
  have h4 := h3 S' hlen
  rw [Nat.zero_add, ← h1] at h2 h4
  rw [← h1] at has h
  simp only [vops, vguard, vop, callOf, hf, target, putV, List.map_nil, List.append_nil]
  rw [has]
  unfold glue at h ⊢
  rw [h2]
  refine CallC.of_seg hp hlen hl hc hc' ha hr ?_
  rw [← h4]
  exact h
end
end Go.VL
namespace Go.VL
open Go.RowKit
section
variable {A Bs : List Ob} {P : Nat} (hP : A.length = P)
include hP
theorem pre_at {j : Nat} {o : Ob} (h : Bs[j]? = some o) : (A ++ Bs)[P + j]? = some o := by
  subst hP
  rw [List.getElem?_append_right (by omega), Nat.add_sub_cancel_left, h]
theorem pre_set {j : Nat} {o : Ob} : (A ++ Bs).set (P + j) o = A ++ Bs.set j o := by
  subst hP
  rw [List.set_append_right _ _ (by omega), Nat.add_sub_cancel_left]
theorem pre_len {m : Nat} (h : Bs.length = m) : (A ++ Bs).length = P + m := by
  subst hP h
  rw [List.length_append]
section
variable {X : Cx} {all r : List Oper} {K : Sl → List Ob → Prop} {sl : Sl} {d : Tmp} {ty : TypeId} {ps : String} {af : Array Edge}
theorem p_box {t : TypeId} {x : Operand} {L : Lay} {cs : List C} {H' : List Ob} (hL : X.lay t = some L) (hx : (rho X.G sl x).cells = some cs) (hH : Bs ++ [⟨cs, t, true⟩] = H') {m : Nat} (hm : Bs.length = m) (h : vops X all r K (upd sl d (.c (.pt (P + m) 0))) (A ++ H')) :
    vops X all (⟨some d, .box t x, ty, ps, af, none⟩ :: r) K sl (A ++ Bs) :=
  v_box hL hx (by rw [List.append_assoc, hH]) (pre_len hP hm) h
theorem p_alloc {t : TypeId} {L : Lay} {H' : List Ob} (hL : X.lay t = some L) (hH : Bs ++ [⟨L.zero.map cOf, t, true⟩] = H') {m : Nat} (hm : Bs.length = m) (h : vops X all r K (upd sl d (.c (.pt (P + m) 0))) (A ++ H')) :
    vops X all (⟨some d, .alloc t, ty, ps, af, none⟩ :: r) K sl (A ++ Bs) :=
  v_alloc hL (by rw [List.append_assoc, hH]) (pre_len hP hm) h
theorem p_store {t : TypeId} {a x : Operand} {L : Lay} {id off : Nat} {cs ocs : List C} {tt : TypeId} {H' : List Ob} (hL : X.lay t = some L) (ha : rho X.G sl a = .c (.pt (P + id) off)) (hx : (rho X.G sl x).cells = some cs) (ho : Bs[id]? = some ⟨ocs, tt, true⟩)
    (hl : Nat.beq cs.length L.size = true) (hf : Nat.ble (off + L.size) ocs.length = true) (hH : Bs.set id ⟨setCells ocs off cs, tt, true⟩ = H') (h : vops X all r K sl (A ++ H')) :
    vops X all (⟨none, .store t a x, ty, ps, af, none⟩ :: r) K sl (A ++ Bs) :=
  v_store hL ha hx (pre_at hP ho) hl hf (by rw [pre_set hP, hH]) h
theorem p_load_pt {t : TypeId} {x : Operand} {L : Lay} {id off : Nat} {cs : List C} {tt : TypeId} (v : V) (hL : X.lay t = some L) (hx : rho X.G sl x = .c (.pt (P + id) off)) (ho : Bs[id]? = some ⟨cs, tt, true⟩) (hl : Nat.ble (off + L.size) cs.length = true) (hv : mkV L.kind.agg (sub cs off L.size) = some v)
    (h : vops X all r K (upd sl d v) (A ++ Bs)) : vops X all (⟨some d, .load t x, ty, ps, af, none⟩ :: r) K sl (A ++ Bs) :=
  v_load_pt v hL hx (pre_at hP ho) hl hv h
theorem p_ag_load_pt {t : TypeId} {x : Operand} {L : Lay} {id off : Nat} {cs : List C} {tt : TypeId} (v : V) (hL : X.lay t = some L) (hx : rho X.G sl x = .c (.pt (P + id) off)) (ho : Bs[id]? = some ⟨cs, tt, true⟩) (hl : Nat.ble (off + L.size) cs.length = true) (hv : mkV L.kind.agg (sub cs off L.size) = some v) : evq X.lay (A ++ Bs) (rho X.G sl) (.load t x) = some v :=
  ag_load_pt v hL hx (pre_at hP ho) hl hv
theorem p_load_ptb {t : TypeId} {x : Operand} {L : Lay} {id off : Nat} {cs : List C} {tt : TypeId} {q : Bool} (hL : X.lay t = some L) (hx : rho X.G sl x = .c (.pt (P + id) off)) (ho : Bs[id]? = some ⟨cs, tt, true⟩) (hl : Nat.ble (off + L.size) cs.length = true) (hv : mkV L.kind.agg (sub cs off L.size) = some (.c (.v (.bool q))))
    (h1 : q = true → vops X all r K (upd sl d (.c (.v (.bool true)))) (A ++ Bs)) (h2 : q = false → vops X all r K (upd sl d (.c (.v (.bool false)))) (A ++ Bs)) : vops X all (⟨some d, .load t x, ty, ps, af, none⟩ :: r) K sl (A ++ Bs) :=
  v_load_ptb hL hx (pre_at hP ho) hl hv h1 h2
theorem p_lit {t e : TypeId} {m : Nat} {parts : Array (Nat × Operand)} {a b : Nat} {z : List Value} {L : Lay} (cs : List C) {k q : Nat} {H' : List Ob} (hL : X.lay t = some ⟨.slice e, a, b, z⟩) (hLe : X.lay e = some L) (hk : L.size = k)
    (hc : fillC (fun i => some (i * L.size, L.size)) (zeros L m) (parts.toList.map fun p => (p.1, rho X.G sl p.2)) = some cs) (h0 : 0 < L.size ∧ m * L.size ≤ 2 ^ 24) (hq : Bs.length = q) (hH : Bs ++ [⟨cs, e, true⟩] = H') (h : vops X all r K (upd sl d (.c (.mu (P + q) 0 m k))) (A ++ H')) :
    vops X all (⟨some d, .buildSlice t m parts, ty, ps, af, none⟩ :: r) K sl (A ++ Bs) :=
  v_lit cs hL hLe hk hc h0 (pre_len hP hq) (by rw [List.append_assoc, hH]) h
theorem p_live1 {f : Operand} {args : Array Operand} {tys : Array TypeId} {g : FuncId} {caps : List C} {args' : List V} {res res' : V} {t : TypeId} {cs : List C} {H' : List Ob} {N : Nat} (hp : LiveC X g args' res [⟨cs, t, true⟩]) (hsc : ∀ c ∈ cs, sc c = true) (hN : Bs.length = N) (ha : ansV res = true) (hres : shV (P + N) res = res') (hH : Bs ++ [⟨cs, t, true⟩] = H')
    (hf : rho X.G sl f = .c (.fn g caps)) {av : List V} (has : args.toList.map (rho X.G sl) ++ caps.map .c = av) (hv : Views (A ++ Bs) av args') (h : vops X all r K (upd sl d res') (A ++ H')) : vops X all (⟨some d, .call ⟨.value f, args, tys⟩, ty, ps, af, none⟩ :: r) K sl (A ++ Bs) :=
  v_live1 hp hsc (pre_len hP hN) ha hres (by rw [List.append_assoc, hH]) hf has hv h
/-- append of some cells, that lie behind the row, onto a slice that is in the row. -/
theorem p_app {s x : Operand} {t e e' : TypeId} {a b : Nat} {z : List Value} {L : Lay} {id idx m n k q : Nat} {ocs cs : List C} {A' H' : List Ob} (hL : X.lay t = some ⟨.slice e, a, b, z⟩) (hLe : X.lay e = some L) (hs : rho X.G sl s = .c (.mu id 0 m k)) (ho : A[id]? = some ⟨ocs, e, true⟩) (hx : rho X.G sl x = .c (.mu (P + idx) 0 n k)) (hox : Bs[idx]? = some ⟨cs, e', true⟩) (hz : cs.length = n * k)
    (hk : L.size = k) (hk0 : 0 < k) (hm : ocs.length = m * k) (hn : m + n ≤ maxLen ∧ (m + n) * L.bytes ≤ 140737488355328) (hq : Bs.length = q) (hA : A.set id ⟨ocs, e, false⟩ = A') (hH : Bs ++ [⟨ocs ++ cs, e, true⟩] = H') (h : vops X all r K (upd sl d (.c (.mu (P + q) 0 (m + n) k))) (A' ++ H')) :
    vops X all (⟨some d, .call ⟨.builtin .append, #[s, x], #[t, t]⟩, ty, ps, af, none⟩ :: r) K sl (A ++ Bs) := by
  have hil := (List.getElem?_eq_some_iff.1 ho).1
  refine v_app_mu hL hLe hs (ho := by rw [List.getElem?_append_left hil]; exact ho) (cs := cs) ?_ hk hk0 hm hn (pre_len hP hq) ?_ h
  · have hsub : sub cs 0 (n * k) = cs := by unfold sub; rw [← hz]; simp
    simp only [srcOf, hx, pre_at hP hox]
    rw [if_pos ⟨trivial, by omega⟩, hsub]
  · rw [List.set_append_left _ _ hil, hA, List.append_assoc, hH]
end
end
/-! A list of things that have a live slice each, grown by one. -/
theorem trc_appL {H : List Ob} {g : List (Option Nat)} {cs cs' ds ds' : List C} (h : TrC H g cs cs') (h2 : TrC H g ds ds') : TrC H g (cs ++ ds) (cs' ++ ds') := by
  induction h with
  | nil => exact h2
  | cons h hs ih => exact .cons h ih
  | stay hst =>
    rename_i es
    induction es with
    | nil => exact h2
    | cons e es ih => exact .cons (.c (.stay (hst e (by simp)))) (ih fun c hc => hst c (by simp [hc]))
theorem trc_refsL {α β : Type} {kid : α → List β} {k : Nat} {rest : α → List C} {H : List Ob} {g : List (Option Nat)} (hr : ∀ x, (rest x).all fz = true) : ∀ {xs : List α} {N M : Nat}, (∀ i, i < xs.length → g[N + i]? = some (some (M + i))) → TrC H g (refs kid k rest M xs) (refs kid k rest N xs)
  | [], _, _, _ => .nil
  | x :: r, N, M, h => by
    refine trc_appL (.cons (tr_mu (by simpa using h 0 (by simp))) (.stay fun c hc => stays_fz (List.all_eq_true.1 (hr x) c hc))) (trc_refsL hr fun i hi => ?_)
    have h1 := h (i + 1) (by simpa using hi)
    rwa [show N + (i + 1) = N + 1 + i by omega, show M + (i + 1) = M + 1 + i by omega] at h1
section
variable {α β : Type} {kid : α → List β} {enc : β → List C} {k : Nat} {tt : TypeId} {rest : α → List C}
theorem turn_grow {H : List Ob} {xs : List α} {x : α} {i new knew : Nat} {t : TypeId} {cs : List C} (hsc : ∀ a, (enc a).all sc = true) (hr : ∀ x, (rest x).all fz = true) (hi : xs.length = i) (hnew : H[new]? = some ⟨cs, t, true⟩) (hcs : cs = refs kid k rest 1 xs ++ (.mu knew 0 (kid x).length k :: rest x)) (hk : ∀ q (h : q < xs.length), H[1 + q]? = some ⟨flat enc (kid xs[q]), tt, true⟩) (hkn : H[knew]? = some ⟨flat enc (kid x), tt, true⟩) :
    TurnO H (some new :: (ids 1 i ++ [some knew])) (some new :: (ids 1 i ++ [some knew])) (⟨refs kid k rest 1 (xs ++ [x]), t, true⟩ :: kids kid enc tt (xs ++ [x])) := by
  subst hi hcs
  have hat : ∀ q, q < xs.length → (some new :: (ids 1 xs.length ++ [some knew]))[1 + q]? = some (some (1 + q)) := fun q hq => by
    rw [Nat.add_comm 1 q, List.getElem?_cons_succ, List.getElem?_append_left (by rw [ids_len]; exact hq), ids_at hq, Nat.add_comm 1 q]
  have hlast : (some new :: (ids 1 xs.length ++ [some knew]))[1 + xs.length]? = some (some knew) := by
    rw [Nat.add_comm 1, List.getElem?_cons_succ, List.getElem?_append_right (by rw [ids_len]; exact Nat.le_refl _), ids_len, Nat.sub_self]
    rfl
  refine ⟨⟨_, hnew, ?_⟩, ?_⟩
  · rw [refs_app]
    refine trc_appL (trc_refsL hr hat) ?_
    simp only [refs, List.append_nil]
    exact .cons (tr_mu hlast) (.stay fun c hc => stays_fz (List.all_eq_true.1 (hr x) c hc))
  · rw [kids_app]
    exact turno_app (turno_kids hsc hk) ⟨⟨_, hkn, trc_flat hsc rfl⟩, trivial⟩
theorem nodup_grow {i new knew : Nat} (h1 : i < knew) (h2 : knew < new) : nodupO (some new :: (ids 1 i ++ [some knew])) = true := by
  have h3 : ∀ (M n : Nat), M + n ≤ knew → nodupO (ids M n ++ [some knew]) = true := fun M n => by
    induction n generalizing M with
    | zero => intro _; rfl
    | succ n ih =>
      intro hm
      have e : ids M (n + 1) = some M :: ids (M + 1) n := by
        unfold ids
        rw [List.range_succ_eq_map, List.map_cons, List.map_map]
        congr 1
        refine List.map_congr_left fun i _ => ?_
        simp only [Function.comp, Nat.succ_eq_add_one]
        congr 1
        omega
      rw [e, List.cons_append]
      simp only [nodupO, Bool.and_eq_true, Bool.not_eq_true', List.contains_eq_mem, decide_eq_false_iff_not]
      refine ⟨fun h => ?_, ih (M + 1) (by omega)⟩
      rcases List.mem_append.1 h with h | h
      · obtain ⟨i, -, hi⟩ := List.mem_map.1 h
        simp only [Option.some.injEq] at hi
        omega
      · simp only [List.mem_singleton, Option.some.injEq] at h
        omega
  simp only [nodupO, Bool.and_eq_true, Bool.not_eq_true', List.contains_eq_mem, decide_eq_false_iff_not]
  refine ⟨fun h => ?_, h3 1 i (by omega)⟩
  rcases List.mem_append.1 h with h | h
  · obtain ⟨q, hq, hi⟩ := List.mem_map.1 h
    have := List.mem_range.1 hq
    simp only [Option.some.injEq] at hi
    omega
  · simp only [List.mem_singleton, Option.some.injEq] at h
    omega
theorem lt_grow {i new knew m : Nat} (h0 : i + 1 ≤ m) (h1 : knew < m) (h2 : new < m) : ((some new :: (ids 1 i ++ [some knew])).all fun x => match x with | some i => Nat.blt i m | none => true) = true := by
  refine List.all_eq_true.2 fun x hx => ?_
  rcases List.mem_cons.1 hx with rfl | hx
  · exact Nat.ble_eq_true_of_le (by omega)
  · rcases List.mem_append.1 hx with hx | hx
    · obtain ⟨q, hq, rfl⟩ := List.mem_map.1 hx
      have := List.mem_range.1 hq
      exact Nat.ble_eq_true_of_le (by omega)
    · simp only [List.mem_singleton] at hx
      subst hx
      exact Nat.ble_eq_true_of_le (by omega)
end
end Go.VL
namespace Go.VL
open Go.RowKit
section
variable {X : Cx} {all r : List Oper} {K : Sl → List Ob → Prop} {sl : Sl} {H : List Ob} {ty : TypeId} {ps : String} {af : Array Edge}
theorem v_clear {α : Type} {enc : α → List C} {ys : List α} {s : Operand} {t e : TypeId} {a b : Nat} {z : List Value} {L : Lay} {id m k : Nat} {tt : TypeId} (a0 : α) {H' : List Ob} (l : Nat) (he : ∀ a, (enc a).length = k) (hz : enc a0 = L.zero.map cOf) (hL : X.lay t = some ⟨.slice e, a, b, z⟩) (hLe : X.lay e = some L) (hk : L.size = k)
    (hs : rho X.G sl s = .c (.mu id (l * k) m k)) (ho : H[id]? = some ⟨flat enc ys, tt, true⟩) (hb : l + m ≤ ys.length) (hH : H.set id ⟨flat enc (ys.take l ++ List.replicate m a0 ++ ys.drop (l + m)), tt, true⟩ = H') (h : vops X all r K sl H') :
    vops X all (⟨none, .call ⟨.builtin .clear, #[s], #[t]⟩, ty, ps, af, none⟩ :: r) K sl H := by
  have hl : l * k + m * k ≤ (flat enc ys).length := by
    rw [flat_length he, ← Nat.add_mul]
    exact Nat.mul_le_mul_right _ hb
  refine v_e (f := ⟨.any, H', L.size = k ∧ true = true ∧ l * k + m * k ≤ (flat enc ys).length⟩) rfl rfl ?_ ⟨hk, rfl, hl⟩ rfl rfl h
  simp only [eve, hL, hLe, hs, ho]
  have hzf : zeros L m = flat enc (List.replicate m a0) := zeros_flat hz m
  have hc : setCells (flat enc ys) (l * k) (zeros L m) = flat enc (ys.take l ++ List.replicate m a0 ++ ys.drop (l + m)) := by
    have e1 : flat enc ys = flat enc (ys.take l) ++ (flat enc ((ys.drop l).take m) ++ flat enc (ys.drop (l + m))) := by
      rw [← flat_append, ← flat_append, ← List.drop_drop, List.take_append_drop, List.take_append_drop]
    have l1 : (flat enc (ys.take l)).length = l * k := by rw [flat_length he, List.length_take, Nat.min_eq_left (by omega)]
    have l2 : (flat enc ((ys.drop l).take m)).length = m * k := by rw [flat_length he, List.length_take, List.length_drop, Nat.min_eq_left (by omega)]
    have l3 : (flat enc (List.replicate m a0)).length = m * k := by rw [flat_length he, List.length_replicate]
    rw [hzf, flat_append, flat_append, e1]
    unfold setCells
    rw [l3]
    generalize flat enc (ys.take l) = A at l1 ⊢
    generalize flat enc ((ys.drop l).take m) = B at l2 ⊢
    rw [← l1, List.take_left, ← l2, ← List.drop_drop, List.drop_left, List.drop_left]
  rw [hc, hH]
theorem v_clear_end {s : Operand} {t e : TypeId} {a b : Nat} {z : List Value} {L : Lay} {o : Bool} {k : Nat} {cs : List C} (hL : X.lay t = some ⟨.slice e, a, b, z⟩) (hLe : X.lay e = some L) (hs : rho X.G sl s = .c (.sl o 0 k cs)) (h : vops X all r K sl H) :
    vops X all (⟨none, .call ⟨.builtin .clear, #[s], #[t]⟩, ty, ps, af, none⟩ :: r) K sl H :=
  v_e (f := ⟨.any, H, 0 = 0⟩) rfl rfl (by simp only [eve, hL, hLe, hs]) rfl rfl rfl h
end
/-- The first elements of a live slice, answered. -/
theorem a_flat_pre {α : Type} {enc : α → List C} {H : List Ob} {id q off k : Nat} {zs xs : List α} {t : TypeId} (hsc : ∀ a, (enc a).all sc = true) (he : ∀ a, (enc a).length = k) (ho : H[id]? = some ⟨flat enc zs, t, true⟩) (hoff : off = 0) (hx : zs.take q = xs) (hl : q ≤ zs.length) : TrV H [] (.c (.mu id off q k)) (.c (.sl true q k (flat enc xs))) := by
  subst hoff hx
  have h1 : q * k ≤ (flat enc zs).length := by rw [flat_length he]; exact Nat.mul_le_mul_right _ hl
  have hsub : sub (flat enc zs) 0 (q * k) = flat enc (zs.take q) := by
    have h2 : (flat enc (zs.take q)).length = q * k := by rw [flat_length he, List.length_take, Nat.min_eq_left hl]
    have e1 : flat enc zs = flat enc (zs.take q) ++ flat enc (zs.drop q) := by rw [← flat_append, List.take_append_drop]
    unfold sub
    rw [List.drop_zero, e1, ← h2, List.take_left]
  refine .c (.dn (.mu ho rfl gone_nil (by simpa using h1) (by rw [flat_length he, List.length_take, Nat.min_eq_left hl]) fun j c c' h2 h3 => ?_))
  simp only [] at h2
  rw [hsub] at h2
  have := Option.some.inj (h2.symm.trans h3)
  subst this
  exact Dn.sc (sc_flat hsc _ c (List.mem_of_getElem? h2))
theorem tr_fnp {H : List Ob} {gg : List (Option Nat)} {g : FuncId} {i j o : Nat} (h : gg[j]? = some (some i)) : TrV H gg (.c (.fn g [.pt i o])) (.c (.fn g [.pt j o])) := .c (.fn rfl (fun q c c' h1 h2 => by
  match q, h1, h2 with
  | 0, h1, h2 =>
    simp only [List.getElem?_cons_zero, Option.some.injEq] at h1 h2
    subst h1 h2
    exact .pt h
  | q + 1, h1, _ => simp at h1))
end Go.VL
namespace Go.VL
open Go.RowKit
def fe (x : Option Nat) : List C := [.f .f32 x]
theorem fe_len (x : Option Nat) : (fe x).length = 1 := rfl
theorem fe_sc (x : Option Nat) : (fe x).all sc = true := rfl
abbrev flo (o : Bool) (xs : List (Option Nat)) : C := .sl o xs.length 1 (flat fe xs)
theorem fe_inj {x y : Option Nat} : fe x = fe y ↔ x = y := by simp [fe]
section
variable {n : Nat} {α : Type}
def putF (g : Fin n → α) (i : Nat) (b : α) : Fin n → α := fun j => if j.val = i then b else g j
/-- The first i of one, the others of the other. -/
def mixF (i : Nat) (g h : Fin n → α) : Fin n → α := fun j => if j.val < i then g j else h j
theorem mixF_0 (g h : Fin n → α) : mixF 0 g h = h := by funext j; simp [mixF]
theorem mixF_all (g h : Fin n → α) : mixF n g h = g := by funext j; simp [mixF, j.isLt]
theorem mixF_put (g h : Fin n → α) {i : Nat} (hi : i < n) : putF (mixF i g h) i (g ⟨i, hi⟩) = mixF (i + 1) g h := by
  funext j
  unfold putF mixF
  by_cases e : j.val = i
  · have : j = ⟨i, hi⟩ := Fin.ext e
    subst this
    simp
  · rw [if_neg e]
    by_cases h1 : j.val < i
    · rw [if_pos h1, if_pos (by omega)]
    · rw [if_neg h1, if_neg (by omega)]
theorem fin_ext {g h : Fin n → α} : g = h ↔ ∀ i (hi : i < n), g ⟨i, hi⟩ = h ⟨i, hi⟩ := ⟨fun e i hi => by rw [e], fun e => by funext ⟨i, hi⟩; exact e i hi⟩
end
instance {n : Nat} {α : Type} [DecidableEq α] : DecidableEq (Fin n → α) := fun g h => decidable_of_iff (∀ i : Fin n, g i = h i) ⟨funext, fun e i => by rw [e]⟩
def l4 {α : Type} (g : Fin 4 → α) : List α := [g 0, g 1, g 2, g 3]
theorem l4_len {α : Type} (g : Fin 4 → α) : (l4 g).length = 4 := rfl
theorem l4_get {α : Type} (g : Fin 4 → α) {i : Nat} (h : i < 4) : (l4 g)[i]'(by rw [l4_len]; exact h) = g ⟨i, h⟩ := by
  match i, h with
  | 0, _ => rfl
  | 1, _ => rfl
  | 2, _ => rfl
  | 3, _ => rfl
theorem l4_set {α : Type} (g : Fin 4 → α) {i : Nat} (h : i < 4) (b : α) : (l4 g).set i b = l4 (putF g i b) := by
  match i, h with
  | 0, _ => rfl
  | 1, _ => rfl
  | 2, _ => rfl
  | 3, _ => rfl
theorem l4_inj {α : Type} {g h : Fin 4 → α} : l4 g = l4 h ↔ g = h := ⟨fun e => fin_ext.2 fun i hi => by
  have h1 := l4_get g hi
  have h2 := l4_get h hi
  rw [← h1, ← h2]
  simp only [e], fun e => by rw [e]⟩
def l16 {α : Type} (g : Fin 16 → α) : List α := [g 0, g 1, g 2, g 3, g 4, g 5, g 6, g 7, g 8, g 9, g 10, g 11, g 12, g 13, g 14, g 15]
theorem l16_len {α : Type} (g : Fin 16 → α) : (l16 g).length = 16 := rfl
theorem l16_get {α : Type} (g : Fin 16 → α) {i : Nat} (h : i < 16) : (l16 g)[i]'(by rw [l16_len]; exact h) = g ⟨i, h⟩ := by
  match i, h with
  | 0, _ => rfl
  | 1, _ => rfl
  | 2, _ => rfl
  | 3, _ => rfl
  | 4, _ => rfl
  | 5, _ => rfl
  | 6, _ => rfl
  | 7, _ => rfl
  | 8, _ => rfl
  | 9, _ => rfl
  | 10, _ => rfl
  | 11, _ => rfl
  | 12, _ => rfl
  | 13, _ => rfl
  | 14, _ => rfl
  | 15, _ => rfl
  | k + 16, h => exact absurd h (by omega)
theorem l16_set {α : Type} (g : Fin 16 → α) {i : Nat} (h : i < 16) (b : α) : (l16 g).set i b = l16 (putF g i b) := by
  match i, h with
  | 0, _ => rfl
  | 1, _ => rfl
  | 2, _ => rfl
  | 3, _ => rfl
  | 4, _ => rfl
  | 5, _ => rfl
  | 6, _ => rfl
  | 7, _ => rfl
  | 8, _ => rfl
  | 9, _ => rfl
  | 10, _ => rfl
  | 11, _ => rfl
  | 12, _ => rfl
  | 13, _ => rfl
  | 14, _ => rfl
  | 15, _ => rfl
  | k + 16, h => exact absurd h (by omega)
theorem l16_inj {α : Type} {g h : Fin 16 → α} : l16 g = l16 h ↔ g = h := ⟨fun e => fin_ext.2 fun i hi => by
  have h1 := l16_get g hi
  have h2 := l16_get h hi
  rw [← h1, ← h2]
  simp only [e], fun e => by rw [e]⟩
abbrev Fo := Fin 4 → Option Nat
abbrev foc (g : Fo) : List C := [.f .f32 (g 0), .f .f32 (g 1), .f .f32 (g 2), .f .f32 (g 3)]
theorem fo_flat (g : Fo) : foc g = flat fe (l4 g) := rfl
theorem foc_sub (g : Fo) (r : List C) {i : Nat} (h : i < 4) : sub (foc g ++ r) i 1 = [.f .f32 (g ⟨i, h⟩)] := by
  match i, h with
  | 0, _ => rfl
  | 1, _ => rfl
  | 2, _ => rfl
  | 3, _ => rfl
theorem foc_set (g : Fo) (r : List C) {i : Nat} (h : i < 4) (b : Option Nat) : setCells (foc g ++ r) i [.f .f32 b] = foc (putF g i b) ++ r := by
  match i, h with
  | 0, _ => rfl
  | 1, _ => rfl
  | 2, _ => rfl
  | 3, _ => rfl
abbrev Ca := Fin 16 → Option Nat
abbrev cac (g : Ca) : List C := [.f .f32 (g 0), .f .f32 (g 1), .f .f32 (g 2), .f .f32 (g 3), .f .f32 (g 4), .f .f32 (g 5), .f .f32 (g 6), .f .f32 (g 7), .f .f32 (g 8), .f .f32 (g 9), .f .f32 (g 10), .f .f32 (g 11), .f .f32 (g 12), .f .f32 (g 13), .f .f32 (g 14), .f .f32 (g 15)]
theorem ca_flat (g : Ca) : cac g = flat fe (l16 g) := rfl
theorem cac_sub (g : Ca) (r : List C) {i : Nat} (h : i < 16) : sub (cac g ++ r) i 1 = [.f .f32 (g ⟨i, h⟩)] := by
  match i, h with
  | 0, _ => rfl
  | 1, _ => rfl
  | 2, _ => rfl
  | 3, _ => rfl
  | 4, _ => rfl
  | 5, _ => rfl
  | 6, _ => rfl
  | 7, _ => rfl
  | 8, _ => rfl
  | 9, _ => rfl
  | 10, _ => rfl
  | 11, _ => rfl
  | 12, _ => rfl
  | 13, _ => rfl
  | 14, _ => rfl
  | 15, _ => rfl
  | k + 16, h => exact absurd h (by omega)
theorem cac_set (g : Ca) (r : List C) {i : Nat} (h : i < 16) (b : Option Nat) : setCells (cac g ++ r) i [.f .f32 b] = cac (putF g i b) ++ r := by
  match i, h with
  | 0, _ => rfl
  | 1, _ => rfl
  | 2, _ => rfl
  | 3, _ => rfl
  | 4, _ => rfl
  | 5, _ => rfl
  | 6, _ => rfl
  | 7, _ => rfl
  | 8, _ => rfl
  | 9, _ => rfl
  | 10, _ => rfl
  | 11, _ => rfl
  | 12, _ => rfl
  | 13, _ => rfl
  | 14, _ => rfl
  | 15, _ => rfl
  | k + 16, h => exact absurd h (by omega)
theorem f4_ld (g : Fo) {i : Nat} (h : i < 4) (h' : i < (l4 g).length) : mkV false (sub (fe ((l4 g)[i]'h')) 0 1) = some (.c (.f .f32 (g ⟨i, h⟩))) := by
  rw [l4_get g h]
  rfl
theorem f16_ld (g : Ca) {i : Nat} (h : i < 16) (h' : i < (l16 g).length) : mkV false (sub (fe ((l16 g)[i]'h')) 0 1) = some (.c (.f .f32 (g ⟨i, h⟩))) := by
  rw [l16_get g h]
  rfl
/-- Rows of four. -/
abbrev Fl := Fin 4 → Fo
theorem foc_len (g : Fo) : (foc g).length = 4 := rfl
theorem foc_sc (g : Fo) : (foc g).all sc = true := rfl
abbrev flc (T : Fl) : List C := [.f .f32 (T 0 0), .f .f32 (T 0 1), .f .f32 (T 0 2), .f .f32 (T 0 3), .f .f32 (T 1 0), .f .f32 (T 1 1), .f .f32 (T 1 2), .f .f32 (T 1 3), .f .f32 (T 2 0), .f .f32 (T 2 1), .f .f32 (T 2 2), .f .f32 (T 2 3), .f .f32 (T 3 0), .f .f32 (T 3 1), .f .f32 (T 3 2), .f .f32 (T 3 3)]
theorem fl_flat (T : Fl) : flc T = flat foc (l4 T) := rfl
theorem r4_ld (T : Fl) {i : Nat} (h : i < 4) (h' : i < (l4 T).length) : mkV true (sub (foc ((l4 T)[i]'h')) 0 4) = some (.agg (foc (T ⟨i, h⟩))) := by
  rw [l4_get T h]
  rfl
theorem fl_ld (T : Fl) {i k : Nat} (h : i < 4) (hk : k < 4) (h' : i < (l4 T).length) : mkV false (sub (foc ((l4 T)[i]'h')) k 1) = some (.c (.f .f32 (T ⟨i, h⟩ ⟨k, hk⟩))) := by
  rw [l4_get T h]
  have e : sub (foc (T ⟨i, h⟩)) k 1 = [.f .f32 (T ⟨i, h⟩ ⟨k, hk⟩)] := by
    simpa using foc_sub (T ⟨i, h⟩) [] hk
  rw [e]
  rfl
theorem flc_sub (T : Fl) (r : List C) {i k : Nat} (h : i < 4) (hk : k < 4) : sub (flc T ++ r) (i * 4 + k) 1 = [.f .f32 (T ⟨i, h⟩ ⟨k, hk⟩)] := by
  match i, h, k, hk with
  | 0, _, 0, _ => rfl
  | 0, _, 1, _ => rfl
  | 0, _, 2, _ => rfl
  | 0, _, 3, _ => rfl
  | 1, _, 0, _ => rfl
  | 1, _, 1, _ => rfl
  | 1, _, 2, _ => rfl
  | 1, _, 3, _ => rfl
  | 2, _, 0, _ => rfl
  | 2, _, 1, _ => rfl
  | 2, _, 2, _ => rfl
  | 2, _, 3, _ => rfl
  | 3, _, 0, _ => rfl
  | 3, _, 1, _ => rfl
  | 3, _, 2, _ => rfl
  | 3, _, 3, _ => rfl
theorem flc_row (T : Fl) (r : List C) {i : Nat} (h : i < 4) : sub (flc T ++ r) (i * 4) 4 = foc (T ⟨i, h⟩) := by
  match i, h with
  | 0, _ => rfl
  | 1, _ => rfl
  | 2, _ => rfl
  | 3, _ => rfl
end Go.VL
namespace Go.VL
open Go.RowKit
section
variable {X : Cx} {all r : List Oper} {K : Sl → List Ob → Prop} {sl : Sl} {H : List Ob} {d : Tmp} {ty : TypeId} {ps : String} {af : Array Edge}
theorem v_slice_arr {t e : TypeId} {x : Operand} {n a b : Nat} {z : List Value} {id off k : Nat} {L : Lay} {ob : Ob} (hL : X.lay t = some ⟨.array n e, a, b, z⟩) (hLe : X.lay e = some L) (hk : L.size = k) (hx : rho X.G sl x = .c (.pt id off)) (hob : H[id]? = some ob) (hlive : ob.live = true)
    (hn : n ≤ maxLen) (hf : off + n * k ≤ ob.cs.length) (h : vops X all r K (upd sl d (.c (.mu id off n k))) H) : vops X all (⟨some d, .slice t x none none none, ty, ps, af, none⟩ :: r) K sl H := by
  subst hk
  refine v_q _ rfl ?_ h
  simp only [evq, hL, hx, hLe, bnd, hob]
  rw [if_pos ⟨by omega, by omega, by omega, hn, hlive, hf, .inl trivial⟩]
  simp
theorem v_slice_av {t e : TypeId} {x : Operand} {n a b : Nat} {z : List Value} {o : Bool} {off k : Nat} {cs cs' : List C} {L : Lay} (hL : X.lay t = some ⟨.array n e, a, b, z⟩) (hLe : X.lay e = some L) (hk : L.size = k) (hx : rho X.G sl x = .c (.vw o cs off)) (hk0 : 0 < k)
    (hn : n ≤ maxLen) (hf : off + n * k ≤ cs.length) (hs : sub cs off (n * k) = cs') (h : vops X all r K (upd sl d (.c (.sl o n k cs'))) H) : vops X all (⟨some d, .slice t x none none none, ty, ps, af, none⟩ :: r) K sl H := by
  subst hk hs
  refine v_q _ rfl ?_ h
  simp only [evq, hL, hx, hLe, bnd]
  rw [if_pos ⟨hk0, by omega, by omega, by omega, hn, hf⟩]
  simp
end
/-- A part of an object, seen as a frozen list. -/
theorem vw_part {α : Type} {H : List Ob} {enc : α → List C} {id off n k : Nat} {xs : List α} {ob : Ob} (hsc : ∀ a, (enc a).all sc = true) (ho : H[id]? = some ob) (hlive : ob.live = true) (hs : sub ob.cs off (n * k) = flat enc xs) (hf : off + n * k ≤ ob.cs.length) : VwV H (.c (.mu id off n k)) (.c (.sl false n k (flat enc xs))) :=
  vw_dn (.mu ho hlive trivial hf (by rw [← hs, sub_length hf]) fun j c c' h1 h2 => by
    rw [hs, h2] at h1
    simp only [Option.some.injEq] at h1
    subst h1
    exact Dn.sc (sc_flat hsc xs _ (List.mem_of_getElem? h2))) rfl
end Go.VL
namespace Go.VL
open Go.RowKit
set_option maxHeartbeats 4000000
theorem fsub_pos {a b : Nat} (ha : a < 2139095040) (hb : b ≤ a) : fS.sub a b = some (rung (val a - val b) (-149)) := by
  obtain ⟨m, e, h1, h2⟩ := read_pos ha
  obtain ⟨n, f, h3, h4⟩ := read_pos (show b < 2139095040 by omega)
  have hv := val_le.2 hb
  unfold Ieee.Format.sub
  rw [h1, h3]
  simp only [Ieee.Datum.opposite, Ieee.Datum.sum, Option.map_some, Bool.not_false, sgn_f, sgn_t]
  congr 1
  obtain ⟨g, hg⟩ : ∃ g : Nat, min (-149 + (e : Int)) (-149 + (f : Int)) = -149 + (g : Int) := ⟨(min (-149 + (e : Int)) (-149 + (f : Int)) + 149).toNat, by omega⟩
  have hge : g ≤ e := by omega
  have hgf : g ≤ f := by omega
  rw [hg, show (-149 + (e : Int) - (-149 + (g : Int))).toNat = e - g by omega, show (-149 + (f : Int) - (-149 + (g : Int))).toNat = f - g by omega]
  have ea : val a = m * 2 ^ (e - g) * 2 ^ g := by rw [h2, Nat.mul_assoc, ← Nat.pow_add, Nat.sub_add_cancel hge]
  have eb : val b = n * 2 ^ (f - g) * 2 ^ g := by rw [h4, Nat.mul_assoc, ← Nat.pow_add, Nat.sub_add_cancel hgf]
  have hle : n * 2 ^ (f - g) ≤ m * 2 ^ (e - g) := by
    rw [ea, eb] at hv
    exact Nat.le_of_mul_le_mul_right hv (Nat.two_pow_pos g)
  generalize n * 2 ^ (f - g) = q at *
  generalize m * 2 ^ (e - g) = p at *
  have hs : (if (p : Int) + -(q : Int) = 0 then (false && true) else decide ((p : Int) + -(q : Int) < 0)) = false := by
    split
    · rfl
    · exact decide_eq_false (by omega)
  rw [hs]
  show fS.nearest false _ _ = _
  rw [nearest_rung, word_f, show ((p : Int) + -(q : Int)).natAbs = p - q by omega, ea, eb, ← Nat.sub_mul, ← rung_scale (p - q) g (-149 + (g : Int))]
  congr 1
  omega
theorem fdiv_pos {a b : Nat} (ha : a < 2139095040) (hb : b < 2139095040) (h0 : 0 < b) : ∃ r, fS.div a b = some r ∧ r ≤ 2139095040 := by
  obtain ⟨m, e, h1, h2⟩ := read_pos ha
  obtain ⟨n, f, h3, h4⟩ := read_pos hb
  have hn : n ≠ 0 := by
    intro hn
    rw [hn, Nat.zero_mul] at h4
    have := val_pos.2 h0
    omega
  unfold Ieee.Format.div
  rw [h1, h3]
  simp only [Ieee.Datum.quotient, if_neg hn, Option.map_some, Bool.xor_self]
  refine ⟨_, rfl, ?_⟩
  show fS.nearest false _ _ ≤ _
  rw [nearest_rung, word_f]
  exact rung_le _ _
/-- What has few digits is a single. -/
theorem exact_rung {k e : Nat} (hk : k < 2 ^ 24) (he : e ≤ 253) : ∃ r, r < 2139095040 ∧ val r = k * 2 ^ e := by
  by_cases h0 : k = 0
  · exact ⟨0, by decide, by rw [h0, Nat.zero_mul]; rfl⟩
  have hL : k.log2 ≤ 23 := by
    have h1 := Nat.log2_self_le h0
    have : 2 ^ k.log2 < 2 ^ 24 := by omega
    have := (Nat.pow_lt_pow_iff_right (show 1 < 2 by decide)).1 this
    omega
  by_cases hs : e + k.log2 < 23
  · refine ⟨k * 2 ^ e, ?_, ?_⟩
    all_goals
      have h1 : k < 2 ^ (k.log2 + 1) := Nat.lt_log2_self
      have h2 : k * 2 ^ e < 2 ^ (k.log2 + 1) * 2 ^ e := (Nat.mul_lt_mul_right (Nat.two_pow_pos e)).2 h1
      rw [← Nat.pow_add] at h2
      have h3 : 2 ^ (k.log2 + 1 + e) ≤ 2 ^ 23 := Nat.pow_le_pow_right (by decide) (by omega)
      have h4 : k * 2 ^ e < 8388608 := by
        have : (2 : Nat) ^ 23 = 8388608 := by decide
        omega
    · omega
    · unfold val
      rw [if_pos h4]
  · have hM1 : 2 ^ 23 ≤ k * 2 ^ (23 - k.log2) := by
      have h1 := Nat.log2_self_le h0
      have h2 : 2 ^ k.log2 * 2 ^ (23 - k.log2) ≤ k * 2 ^ (23 - k.log2) := Nat.mul_le_mul_right _ h1
      rw [← Nat.pow_add, show k.log2 + (23 - k.log2) = 23 by omega] at h2
      exact h2
    have hM2 : k * 2 ^ (23 - k.log2) < 2 ^ 24 := by
      have h1 : k < 2 ^ (k.log2 + 1) := Nat.lt_log2_self
      have h2 : k * 2 ^ (23 - k.log2) < 2 ^ (k.log2 + 1) * 2 ^ (23 - k.log2) := (Nat.mul_lt_mul_right (Nat.two_pow_pos _)).2 h1
      rw [← Nat.pow_add, show k.log2 + 1 + (23 - k.log2) = 24 by omega] at h2
      exact h2
    have c23 : (2 : Nat) ^ 23 = 8388608 := by decide
    have c24 : (2 : Nat) ^ 24 = 16777216 := by decide
    have hE : k * 2 ^ e = k * 2 ^ (23 - k.log2) * 2 ^ (e + k.log2 - 23) := by
      rw [Nat.mul_assoc, ← Nat.pow_add, show 23 - k.log2 + (e + k.log2 - 23) = e by omega]
    rw [hE]
    generalize k * 2 ^ (23 - k.log2) = M at *
    obtain ⟨E, hEe⟩ : ∃ E, e + k.log2 - 23 = E := ⟨_, rfl⟩
    rw [hEe]
    refine ⟨(E + 1) * 8388608 + (M - 8388608), by omega, ?_⟩
    unfold val
    rw [if_neg (by omega), show ((E + 1) * 8388608 + (M - 8388608)) % 8388608 = M - 8388608 by omega, show ((E + 1) * 8388608 + (M - 8388608)) / 8388608 - 1 = E by omega, show 8388608 + (M - 8388608) = M by omega]
theorem val_exact {k e : Nat} (hk : k < 2 ^ 24) (he : e ≤ 253) : val (rung (k * 2 ^ e) (-149)) = k * 2 ^ e := by
  obtain ⟨r, hr, hv⟩ := exact_rung hk he
  rw [← hv, val_rung hr]
/-- What is left of a single beyond its whole part, is a single. -/
theorem rest_exact {r : Nat} (hr : r < 2139095040) : val (rung (val r % 2 ^ 149) (-149)) = val r % 2 ^ 149 := by
  by_cases h : val r < 2 ^ 149
  · rw [Nat.mod_eq_of_lt h, val_rung hr]
  · have hv := h
    unfold val at h ⊢
    by_cases h1 : r < 8388608
    · rw [if_pos h1] at h
      have : (8388608 : Nat) ≤ 2 ^ 149 := by decide
      omega
    · rw [if_neg h1] at h ⊢
      obtain ⟨M, hM⟩ : ∃ M, 8388608 + r % 8388608 = M := ⟨_, rfl⟩
      obtain ⟨E, hE⟩ : ∃ E, r / 8388608 - 1 = E := ⟨_, rfl⟩
      rw [hM, hE] at h ⊢
      have hM2 : M < 2 ^ 24 := by
        have : (2 : Nat) ^ 24 = 16777216 := by decide
        omega
      have hEle : E ≤ 253 := by omega
      by_cases hE2 : E ≤ 149
      · have e : M * 2 ^ E % 2 ^ 149 = M % 2 ^ (149 - E) * 2 ^ E := by
          rw [show (2 : Nat) ^ 149 = 2 ^ (149 - E) * 2 ^ E by rw [← Nat.pow_add, Nat.sub_add_cancel hE2], Nat.mul_mod_mul_right]
        rw [e]
        exact val_exact (by have := Nat.mod_le M (2 ^ (149 - E)); omega) hEle
      · have e : M * 2 ^ E % 2 ^ 149 = 0 := by
          rw [show E = (E - 149) + 149 by omega, Nat.pow_add, ← Nat.mul_assoc, Nat.mul_mod_left]
        rw [e]
        rfl
/-- A single less its whole part: not negative, less than one. -/
theorem rest_lt {r : Nat} (hr : r < 2139095040) : rung (val r % 2 ^ 149) (-149) < 1065353216 := by
  have h1 := rest_exact hr
  have h2 : val 1065353216 = 2 ^ 149 := by decide
  have h3 := Nat.mod_lt (val r) (show 0 < 2 ^ 149 from Nat.two_pow_pos _)
  rcases Nat.lt_or_ge (rung (val r % 2 ^ 149) (-149)) 1065353216 with h | h
  · exact h
  · have := val_le.2 h
    omega
/-- A number of at most 53 digits is a double. -/
theorem dbl_read {m : Nat} {e : Int} (hm0 : m ≠ 0) (hm : m.log2 ≤ 52) (he : -1074 ≤ e + (m.log2 : Int) - 52) (he2 : e + (m.log2 : Int) - 52 ≤ 900) : FloatKind.f64.format.read (FloatKind.f64.format.nearest false m e) = .number false (m * 2 ^ (52 - m.log2)) (e + (m.log2 : Int) - 52) := by
  have c1 : FloatKind.f64.format.fractionBits = 52 := by decide
  have c2 : FloatKind.f64.format.leastPlace = -1074 := by decide
  have c3 : FloatKind.f64.format.binade = 4503599627370496 := by decide
  have c4 : FloatKind.f64.format.infRung = 9218868437227405312 := by decide
  have c5 : FloatKind.f64.format.signWeight = 9223372036854775808 := by decide
  have hM1 : 2 ^ 52 ≤ m * 2 ^ (52 - m.log2) := by
    have h1 := Nat.log2_self_le hm0
    have h2 : 2 ^ m.log2 * 2 ^ (52 - m.log2) ≤ m * 2 ^ (52 - m.log2) := Nat.mul_le_mul_right _ h1
    rw [← Nat.pow_add, show m.log2 + (52 - m.log2) = 52 by omega] at h2
    exact h2
  have hM2 : m * 2 ^ (52 - m.log2) < 2 ^ 53 := by
    have h1 : m < 2 ^ (m.log2 + 1) := Nat.lt_log2_self
    have h2 : m * 2 ^ (52 - m.log2) < 2 ^ (m.log2 + 1) * 2 ^ (52 - m.log2) := (Nat.mul_lt_mul_right (Nat.two_pow_pos _)).2 h1
    rw [← Nat.pow_add, show m.log2 + 1 + (52 - m.log2) = 53 by omega] at h2
    exact h2
  have d52 : (2 : Nat) ^ 52 = 4503599627370496 := by decide
  have d53 : (2 : Nat) ^ 53 = 9007199254740992 := by decide
  unfold Ieee.Format.nearest
  rw [if_neg hm0]
  simp only [c1, c2, c3, c4]
  have hmax : max (e + (m.log2 : Int) - ((52 : Nat) : Int)) (-1074) = e + (m.log2 : Int) - 52 := by omega
  rw [hmax, show (e - (e + (m.log2 : Int) - 52)).toNat = 52 - m.log2 by omega, show (e + (m.log2 : Int) - 52 - e).toNat = 0 by omega, cut_zero, Nat.shiftLeft_eq]
  generalize m * 2 ^ (52 - m.log2) = M at *
  obtain ⟨L, hL⟩ : ∃ L : Nat, e + (m.log2 : Int) - 52 = (L : Int) - 1074 := ⟨(e + (m.log2 : Int) - 52 + 1074).toNat, by omega⟩
  rw [hL, show ((L : Int) - 1074 - -1074).toNat = L by omega, Nat.min_eq_left (by omega)]
  unfold Ieee.Format.read Ieee.Format.word
  simp only [c2, c3, c4, c5, Bool.false_eq_true, if_false]
  have r1 : (L * 4503599627370496 + M) / 9223372036854775808 = 0 := Nat.div_eq_of_lt (by omega)
  have r2 : (L * 4503599627370496 + M) % 9223372036854775808 = L * 4503599627370496 + M := Nat.mod_eq_of_lt (by omega)
  rw [r1, r2, if_neg (by omega), if_pos (by omega)]
  have q1 : (L * 4503599627370496 + M) % 4503599627370496 = M - 4503599627370496 := by omega
  have q2 : (L * 4503599627370496 + M) / 4503599627370496 - 1 = L := by omega
  rw [q1, q2, show 4503599627370496 + (M - 4503599627370496) = M by omega, show (-1074 : Int) + ((L : Nat) : Int) = (L : Int) - 1074 by omega]
  rfl
theorem cut_down (n d : Nat) : Ieee.Toward.down.cut false n d = n / 2 ^ d := by
  unfold Ieee.Toward.cut
  simp only [Bool.false_and, Nat.one_shiftLeft]
  show n / 2 ^ min d (n.log2 + 2) + 0 = _
  by_cases h : d ≤ n.log2 + 2
  · rw [Nat.min_eq_left h]
    rfl
  · rw [Nat.min_eq_right (by omega)]
    have h1 : n < 2 ^ (n.log2 + 1) := Nat.lt_log2_self
    have h2 : 2 ^ (n.log2 + 1) ≤ 2 ^ (n.log2 + 2) := Nat.pow_le_pow_right (by decide) (by omega)
    have h3 : 2 ^ (n.log2 + 2) ≤ 2 ^ d := Nat.pow_le_pow_right (by decide) (by omega)
    rw [Nat.div_eq_of_lt (by omega), Nat.div_eq_of_lt (by omega)]
/-- A float, rounded down to a whole one. -/
def flr (x : Option Nat) : Option Nat := x.map fun b => FloatKind.f64.encode ((FloatKind.f64.decode b).integral .down)
/-- The whole part of a single, as a double. -/
theorem flr_wide {r : Nat} (hr : r < 2139095040) : ∃ w, convF .f32 .f64 (some r) = some (some w) ∧ flr (some w) = some (FloatKind.f64.format.nearest false (val r / 2 ^ 149) 0) := by
  obtain ⟨m, e, h1, h2⟩ := read_pos hr
  refine ⟨_, convF_wide h1, ?_⟩
  obtain ⟨b1, b2, b3⟩ := read_single h1
  unfold flr
  simp only [Option.map_some]
  congr 1
  by_cases hm0 : m = 0
  · subst hm0
    have e0 : val r / 2 ^ 149 = 0 := by rw [h2, Nat.zero_mul, Nat.zero_div]
    rw [e0]
    have : FloatKind.f64.format.nearest false 0 (-149 + (e : Int)) = 0 := rfl
    rw [this]
    decide
  · have hL : m.log2 ≤ 23 := by
      have q1 := Nat.log2_self_le hm0
      have : 2 ^ m.log2 < 2 ^ 24 := by omega
      have := (Nat.pow_lt_pow_iff_right (show 1 < 2 by decide)).1 this
      omega
    show FloatKind.f64.format.write ((FloatKind.f64.format.read (FloatKind.f64.format.nearest false m (-149 + (e : Int)))).integral .down) = _
    rw [dbl_read hm0 (by omega) (by omega) (by omega)]
    simp only [Ieee.Datum.integral, cut_down]
    show FloatKind.f64.format.nearest false _ 0 = _
    congr 1
    rw [Nat.shiftLeft_eq, h2]
    by_cases hp : 0 ≤ -149 + (e : Int) + (m.log2 : Int) - 52
    · rw [show (-(-149 + (e : Int) + (m.log2 : Int) - 52)).toNat = 0 by omega, Nat.pow_zero, Nat.div_one, Nat.mul_assoc, ← Nat.pow_add, show 52 - m.log2 + (-149 + (e : Int) + (m.log2 : Int) - 52).toNat = e - 149 by omega]
      rw [show e = (e - 149) + 149 by omega, Nat.pow_add, ← Nat.mul_assoc, Nat.mul_div_cancel _ (Nat.two_pow_pos _), show e - 149 + 149 - 149 = e - 149 by omega]
    · rw [show (-149 + (e : Int) + (m.log2 : Int) - 52).toNat = 0 by omega, Nat.pow_zero, Nat.mul_one]
      obtain ⟨d, hd⟩ : ∃ d : Nat, (-(-149 + (e : Int) + (m.log2 : Int) - 52)).toNat = d := ⟨_, rfl⟩
      rw [hd]
      have hde : e + m.log2 + d = 149 + 52 := by omega
      by_cases hq : e ≤ 149
      · have e1 : (2 : Nat) ^ 149 = 2 ^ (149 - e) * 2 ^ e := by rw [← Nat.pow_add, Nat.sub_add_cancel hq]
        have e2 : (2 : Nat) ^ d = 2 ^ (149 - e) * 2 ^ (52 - m.log2) := by rw [← Nat.pow_add, show 149 - e + (52 - m.log2) = d by omega]
        rw [e1, e2, Nat.mul_div_mul_right _ _ (Nat.two_pow_pos _), Nat.mul_div_mul_right _ _ (Nat.two_pow_pos _)]
      · have e2 : (2 : Nat) ^ (52 - m.log2) = 2 ^ (e - 149) * 2 ^ d := by rw [← Nat.pow_add, show e - 149 + d = 52 - m.log2 by omega]
        have e3 : (2 : Nat) ^ e = 2 ^ (e - 149) * 2 ^ 149 := by rw [← Nat.pow_add, show e - 149 + 149 = e by omega]
        rw [e2, e3, ← Nat.mul_assoc, ← Nat.mul_assoc, Nat.mul_div_cancel _ (Nat.two_pow_pos _), Nat.mul_div_cancel _ (Nat.two_pow_pos _)]
end Go.VL
namespace Go.VL
open Go.RowKit
theorem integral_any {b : Nat} (h : okF .f64 (some b)) (way : Ieee.Toward) : ((FloatKind.f64.decode b).integral way).isNaN = false := by
  have hd : FloatKind.f64.decode b = FloatKind.f64.format.read b := rfl
  rw [hd]
  rcases okF_read h with ⟨s, m, e, hr⟩ | ⟨s, hr⟩ <;> rw [hr] <;> rfl
theorem pure_way {X : Cx} {g : FuncId} {fn : Func} {name : String} {way : Ieee.Toward} (hf : X.P.funcs[g]? = some fn) (hname : (fn.name == "runtime.NumGoroutine") = false) (hb : fn.body.isNone = true) (hn : Extern.findNext fn = none) (he : Extern.find fn = some (Extern.MathFloor.toIntegral name way)) {b : Nat} (h : okF .f64 (some b)) :
    PureC X g [.c (.f .f64 (some b))] (.c (.f .f64 (some (FloatKind.f64.encode ((FloatKind.f64.decode b).integral way))))) := by
  have hnum := integral_any h way
  refine PureC.extern hf hname hb hn he fun m arr hr => ?_
  obtain ⟨u, rfl, hu⟩ := one_arg hr
  obtain ⟨b', rfl, hb'⟩ := hu.cell.floatI
  unfold fOf at hb'
  split at hb'
  · cases hb'
  · rename_i hnan
    simp only [Option.some.injEq] at hb'
    subst hb'
    refine ⟨.float .f64 (FloatKind.f64.encode ((FloatKind.f64.decode b).integral way)), m.w, ?_, rfl, rfl, rfl, rfl, fun m' => .c (.fs (write_num .f64 _ hnum))⟩
    have hnn : (FloatKind.f64.decode b).isNaN = false := by simpa [isNaN] using hnan
    have hdef : ∀ d : Ieee.Datum, FloatKind.f64.decode b = d → d.isNaN = false → Extern.MathFloor.toIntegral name way #[.float .f64 b] = pure (.float .f64 (FloatKind.f64.encode (d.integral way))) := fun d hd hn => by
      change (match FloatKind.f64.decode b with
        | .nan s t => (if FloatKind.f64.format.quiet t = t then pure (.float .f64 b) else do
          let kept ← choose (.extern "math.Floor,Ceil,Trunc,RoundToEven.signallingNaN kept" 2)
          pure (.float .f64 (if kept == 1 then b else FloatKind.f64.encode (.nan s (FloatKind.f64.format.quiet t)))))
        | d => pure (.float .f64 (FloatKind.f64.encode (d.integral way))) : Sem Value) = _
      rw [hd]
      cases d with
      | nan s t => simp [Ieee.Datum.isNaN] at hn
      | _ => rfl
    rw [hdef _ rfl hnn]
    rfl
/-- The lesser one of two numbers. -/
def lessF (a b : Option Nat) : Option Nat := if ford .f32 b a == some .lt then b else a
theorem read_inf : fS.read 2139095040 = .infinity false := by decide
theorem less_rung {a b : Nat} (ha : a < 2139095040) (hb : b ≤ 2139095040) : ∃ r, lessF (some a) (some b) = some r ∧ r ≤ a ∧ r ≤ b := by
  unfold lessF
  rcases Nat.lt_or_eq_of_le hb with h | rfl
  · have e : ford .f32 (some b) (some a) = some (compare b a) := ford_pos h ha
    rw [e]
    rcases Nat.lt_trichotomy b a with h3 | h3 | h3
    · rw [Nat.compare_eq_lt.2 h3]
      exact ⟨b, rfl, by omega, by omega⟩
    · rw [Nat.compare_eq_eq.2 h3]
      exact ⟨a, rfl, by omega, by omega⟩
    · rw [Nat.compare_eq_gt.2 h3]
      exact ⟨a, rfl, by omega, by omega⟩
  · obtain ⟨m, e, h1, -⟩ := read_pos ha
    have e2 : ford .f32 (some 2139095040) (some a) = some .gt := by
      show fS.order 2139095040 a = _
      unfold Ieee.Format.order
      rw [read_inf, h1]
      rfl
    rw [e2]
    exact ⟨a, rfl, by omega, by omega⟩
theorem fmul_any {a b : Nat} (ha : a < 2139095040) (h0 : 0 < a) (hb : b ≤ 2139095040) : ∃ r, fS.mul a b = some r ∧ r ≤ 2139095040 := by
  rcases Nat.lt_or_eq_of_le hb with h | rfl
  · exact ⟨_, fmul_pos ha h, rung_le _ _⟩
  · obtain ⟨m, e, h1, h2⟩ := read_pos ha
    have hm : m ≠ 0 := by
      intro hn
      rw [hn, Nat.zero_mul] at h2
      have := val_pos.2 h0
      omega
    refine ⟨2139095040, ?_, by decide⟩
    unfold Ieee.Format.mul
    rw [read_inf, h1]
    simp only [Ieee.Datum.product, if_neg hm, Option.map_some]
    rfl
/-- Products of singles that have bounds. -/
theorem mul_rung {a b c d e : Nat} (ha : a ≤ c) (hb : b ≤ d) (hc : c < 2139095040) (hd : d < 2139095040) (he : rung (val c * val d) (-298) ≤ e) : ∃ r, fop .mul .f32 (some a) (some b) = some r ∧ r ≤ e := by
  refine ⟨_, fmul_pos (by omega) (by omega), Nat.le_trans (rung_mono ?_) he⟩
  exact Nat.mul_le_mul (val_le.2 ha) (val_le.2 hb)
theorem sum_rung {a b c d e : Nat} (ha : a ≤ c) (hb : b ≤ d) (hc : c < 2139095040) (hd : d < 2139095040) (he : rung (val c + val d) (-149) ≤ e) : ∃ r, fop .add .f32 (some a) (some b) = some r ∧ r ≤ e := by
  refine ⟨_, fadd_pos (by omega) (by omega), Nat.le_trans (rung_mono ?_) he⟩
  exact Nat.add_le_add (val_le.2 ha) (val_le.2 hb)
theorem sub_rung {a b : Nat} (hb : b ≤ a) (ha : a < 2139095040) : ∃ r, fop .sub .f32 (some a) (some b) = some r ∧ r ≤ a := by
  refine ⟨_, fsub_pos ha hb, ?_⟩
  have h := rung_mono (n1 := val a - val b) (n2 := val a) (p := -149) (by omega)
  rwa [val_rung ha] at h
end Go.VL
namespace Go.VL
open Go.RowKit
/-- The bytes as a word. -/
abbrev tx (l : List UInt8) : ByteArray := ⟨l.toArray⟩
theorem tx_size (l : List UInt8) : (tx l).size = l.length := rfl
theorem tx_app (a b : List UInt8) : tx a ++ tx b = tx (a ++ b) := by
  apply ByteArray.ext
  rw [ByteArray.data_append]
  simp
theorem tx_inj {a b : List UInt8} : tx a = tx b ↔ a = b := by
  constructor
  · intro h
    have := congrArg (fun x : ByteArray => x.data.toList) h
    simpa using this
  · rintro rfl; rfl
theorem tx_self (s : ByteArray) : tx s.data.toList = s := by
  apply ByteArray.ext
  simp
theorem tx_list (l : List UInt8) : (tx l).toList = l := by
  have h : ∀ (n i : Nat) (r : List UInt8), l.length - i = n → ByteArray.toList.loop (tx l) i r = r.reverse ++ l.drop i := by
    intro n
    induction n with
    | zero =>
      intro i r hn
      unfold ByteArray.toList.loop
      rw [if_neg (by show ¬ i < l.length; omega), List.drop_of_length_le (by omega), List.append_nil]
    | succ n ih =>
      intro i r hn
      have hlt : i < l.length := by omega
      unfold ByteArray.toList.loop
      rw [if_pos (show i < (tx l).size from hlt), ih (i + 1) _ (by omega), List.drop_eq_getElem_cons hlt]
      have e : (tx l).get! i = l[i] := by
        show (l.toArray)[i]! = l[i]
        simp [hlt]
      rw [e]
      simp
  unfold ByteArray.toList
  rw [h l.length 0 [] (by omega)]
  rfl
theorem strOf_tx (ns : List Int) : strOf ns = tx (ns.map fun (q : Int) => UInt8.ofNat q.toNat) := by
  have h : ∀ (ns : List Int) (l : List UInt8), ns.foldl (fun r n => r.push (UInt8.ofNat n.toNat)) (tx l) = tx (l ++ ns.map fun (q : Int) => UInt8.ofNat q.toNat) := by
    intro ns
    induction ns with
    | nil => intro l; simp
    | cons n r ih =>
      intro l
      rw [List.foldl_cons, show (tx l).push (UInt8.ofNat n.toNat) = tx (l ++ [UInt8.ofNat n.toNat]) from by apply ByteArray.ext; simp [ByteArray.push], ih]
      simp
  exact h ns []
/-- A byte as a number, and back. -/
def b8 (x : UInt8) : Int := (x.toNat : Int)
theorem b8_rng (x : UInt8) : 0 ≤ b8 x ∧ b8 x ≤ 255 := by
  have := x.toNat_lt
  unfold b8
  omega
theorem b8_inj {x y : UInt8} : b8 x = b8 y ↔ x = y := by
  unfold b8
  rw [Int.ofNat_inj]
  exact UInt8.toNat_inj
section
variable {X : Cx} {all r : List Oper} {K : Sl → List Ob → Prop} {sl : Sl} {H : List Ob} {d : Tmp} {ty : TypeId} {ps : String} {af : Array Edge}
/-- Two words, one behind the other. -/
theorem v_sadd {t ty2 : TypeId} {x y : Operand} {a b : Nat} {z : List Value} {p q : List UInt8} (hL : X.lay t = some ⟨.string, a, b, z⟩) (hx : rho X.G sl x = .c (.v (.string (tx p)))) (hy : rho X.G sl y = .c (.v (.string (tx q)))) (hs : p.length + q.length ≤ maxLen)
    (h : vops X all r K (upd sl d (.c (.v (.string (tx (p ++ q)))))) H) : vops X all (⟨some d, .binOp .add t x y ty2, ty, ps, af, none⟩ :: r) K sl H := by
  refine v_bin (c := .v (.string (tx (p ++ q)))) hL hx hy ?_ h
  show binS .add (tx p) (tx q) = _
  unfold binS
  simp only
  rw [if_pos (show (tx p).size + (tx q).size ≤ maxLen from hs), tx_app]
/-- Two words held against each other. -/
theorem v_seql {t ty2 : TypeId} {x y : Operand} {a b : Nat} {z : List Value} {p q : List UInt8} (hL : X.lay t = some ⟨.string, a, b, z⟩) (hx : rho X.G sl x = .c (.v (.string (tx p)))) (hy : rho X.G sl y = .c (.v (.string (tx q))))
    (h1 : p = q → vops X all r K (upd sl d (.c (.v (.bool true)))) H) (h2 : ¬ p = q → vops X all r K (upd sl d (.c (.v (.bool false)))) H) : vops X all (⟨some d, .binOp .eql t x y ty2, ty, ps, af, none⟩ :: r) K sl H := by
  refine v_bin (c := .v (.bool (p == q))) hL hx hy ?_ ?_
  · show binS .eql (tx p) (tx q) = _
    unfold binS
    simp only
    rw [tx_list, tx_list]
  · by_cases e : p = q
    · rw [beq_iff_eq.2 e]; exact h1 e
    · rw [beq_eq_false_iff_ne.2 e]; exact h2 e
theorem v_sneq {t ty2 : TypeId} {x y : Operand} {a b : Nat} {z : List Value} {p q : List UInt8} (hL : X.lay t = some ⟨.string, a, b, z⟩) (hx : rho X.G sl x = .c (.v (.string (tx p)))) (hy : rho X.G sl y = .c (.v (.string (tx q))))
    (h1 : ¬ p = q → vops X all r K (upd sl d (.c (.v (.bool true)))) H) (h2 : p = q → vops X all r K (upd sl d (.c (.v (.bool false)))) H) : vops X all (⟨some d, .binOp .neq t x y ty2, ty, ps, af, none⟩ :: r) K sl H := by
  refine v_bin (c := .v (.bool (!(p == q)))) hL hx hy ?_ ?_
  · show binS .neq (tx p) (tx q) = _
    unfold binS
    simp only
    rw [tx_list, tx_list]
  · by_cases e : p = q
    · rw [beq_iff_eq.2 e]; exact h2 e
    · rw [beq_eq_false_iff_ne.2 e]; exact h1 e
/-- A byte of a word. -/
theorem v_sidx {t : TypeId} {x i : Operand} {a b : Nat} {z : List Value} {kk : IntKind} {j : Int} {p : List UInt8} (q : Nat) (hL : X.lay t = some ⟨.string, a, b, z⟩) (hx : rho X.G sl x = .c (.v (.string (tx p)))) (hi : rho X.G sl i = .c (.v (.int kk j))) (ej : j = (q : Int)) (hq : q < p.length)
    (h : vops X all r K (upd sl d (.c (.v (.int .u8 (b8 p[q]))))) H) : vops X all (⟨some d, .index t x i, ty, ps, af, none⟩ :: r) K sl H := by
  subst ej
  refine v_q _ rfl ?_ h
  simp only [evq, hL, hx, hi]
  rw [dif_pos ⟨by omega, by rw [Int.toNat_natCast]; exact hq⟩]
  rfl
/-- A part of a word. -/
theorem v_sslice {t : TypeId} {x : Operand} {lo hi : Option Operand} {a b : Nat} {z : List Value} {p : List UInt8} {jl jh : Int} (l u : Nat) (hL : X.lay t = some ⟨.string, a, b, z⟩) (hx : rho X.G sl x = .c (.v (.string (tx p)))) (hlo : bnd (rho X.G sl) lo 0 = some jl) (hhi : bnd (rho X.G sl) hi (p.length : Int) = some jh)
    (el : jl = (l : Int)) (eh : jh = (u : Int)) (hb : l ≤ u ∧ u ≤ p.length) (h : vops X all r K (upd sl d (.c (.v (.string (tx ((p.take u).drop l)))))) H) : vops X all (⟨some d, .slice t x lo hi none, ty, ps, af, none⟩ :: r) K sl H := by
  subst el eh
  refine v_q _ rfl ?_ h
  simp only [evq, hL, hx]
  rw [show ((tx p).size : Int) = (p.length : Int) from rfl, hlo, hhi]
  simp only
  rw [if_pos ⟨by omega, by omega, by show (u : Int) ≤ (p.length : Int); omega⟩, Int.toNat_natCast, Int.toNat_natCast]
  congr 4
  apply ByteArray.ext
  simp [ByteArray.data_extract, List.drop_take]
/-- A live slice of bytes, as a word. -/
theorem v_conv_live {s t e : TypeId} {x : Operand} {a b a' b' a2 b2 : Nat} {z z' z2 : List Value} {id off n : Nat} {cs : List C} {tt : TypeId} {ns : List Int} (ha : all.isEmpty = false) (hs : X.lay s = some ⟨.slice e, a, b, z⟩) (ht : X.lay t = some ⟨.string, a', b', z'⟩) (hLe : X.lay e = some ⟨.int .u8, a2, b2, z2⟩)
    (hx : rho X.G sl x = .c (.mu id off n 1)) (ho : H[id]? = some ⟨cs, tt, true⟩) (hf : off + n ≤ cs.length) (hb : bytesOf (sub cs off n) = some ns) (hn : 0 < n)
    (h : vops X all r K (upd sl d (.c (.v (.string (tx (ns.map fun (q : Int) => UInt8.ofNat q.toNat)))))) H) : vops X all (⟨some d, .convert s t x, ty, ps, af, none⟩ :: r) K sl H := by
  refine v_raw ha rfl (by simp only [evq, hs, ht, hx]) rfl ?_
  intro m ε oper hop hS hρ
  have hus : X.P.underlying s = some (.slice e) := (X.ok s _ hs).kind
  have hut : X.P.underlying t = some .string := (X.ok t _ ht).kind
  have hue : X.P.underlying e = some (.int .u8) := (X.ok e _ hLe).kind
  have hxr := hρ x
  rw [hx] at hxr
  have hgh : (m.μ id).gh = false := by
    cases hg : (m.μ id).gh with
    | false => rfl
    | true =>
      have := hS.gho id _ ho rfl hg
      simp only at this
      rw [this] at hf
      simp at hf
      omega
  rcases hxr.muI with ⟨-, -, -, -, hg⟩ | ⟨cap, hu, hid, hnc, hsz, hcm, -⟩
  · rw [hgh] at hg; cases hg
  obtain ⟨arr, o1, o2, o3, o4, o5, o6⟩ := hS.ob id _ ho rfl hgh
  obtain ⟨l1, l2⟩ := bytesOf_get hb
  have hsl : (sub cs off n).length = n := sub_length hf
  have hload : (loadCells ⟨(m.μ id).block, (m.μ id).base + off, none⟩ n).run X.P m.w = .ok (ns.map (Value.int .u8)).toArray m.w := by
    have := run_loadCells_list (P := X.P) m.w ⟨(m.μ id).block, (m.μ id).base + off, none⟩ (ns.map (Value.int .u8)) (fun j u hj => by
      have hlt : j < n := by
        have := (List.getElem?_eq_some_iff.1 hj).1
        rw [List.length_map, l1, hsl] at this
        exact this
      obtain ⟨q, h1, h2⟩ := l2 j _ (List.getElem?_eq_getElem (by rw [hsl]; exact hlt))
      have hcell : cs[off + j]? = some (.v (.int .u8 q)) := by
        have e : (sub cs off n)[j]? = some (.v (.int .u8 q)) := by
          rw [List.getElem?_eq_getElem (by rw [hsl]; exact hlt), h2]
        unfold sub at e
        rw [List.getElem?_take_of_lt hlt, List.getElem?_drop] at e
        exact e
      obtain ⟨u', k1, k2⟩ := o4 _ _ hcell
      have hu' : u' = .int .u8 q := by cases k2 with | fz k2 => cases k2; rfl
      rw [hu'] at k1
      rw [List.getElem?_map, h1] at hj
      simp only [Option.map_some, Option.some.injEq] at hj
      subst hj
      obtain ⟨fz, hheap, -⟩ := o1
      rw [addr_add]
      simp [World.cell?, hheap, Nat.add_assoc, k1])
    rw [List.length_map, l1, hsl] at this
    exact this
  refine ⟨.value (.string (tx (ns.map fun (q : Int) => UInt8.ofNat q.toNat))), m, .c (.v (.string (tx (ns.map fun (q : Int) => UInt8.ofNat q.toNat)))), H, ?_, hS, Ext.refl m, h, .inl ⟨_, rfl, .c (.v rfl)⟩⟩
  have hr : (convert s t (.slice (some ⟨(m.μ id).block, (m.μ id).base + off, none⟩) n cap)).run X.P m.w = .ok (.string (tx (ns.map fun (q : Int) => UInt8.ofNat q.toNat))) m.w := by
    rw [run_convert_bytes_string m.w s t e _ _ _ hus hue hut, run_bytesToString m.w _ n cap ns hload, ← strOf_tx]
    rfl
  simp [execOp, hop, hu, hr]
end
/-- A contract on data, out of the model's own. -/
theorem PureC.of_calls {X : Cx} {g : FuncId} {args : List V} {r : V} (hen : Enters X g) (h : ∀ (w : World) (F : Nat → Prop) (μ : Nat → Pl) (arr : Array Value), Sim X.G ⟨w, F, w.heap.size, 0, μ⟩ [] → RVs ⟨w, F, w.heap.size, 0, μ⟩ args arr →
    Calls X.P g arr w fun e w' => ∃ u, e = .returned u ∧ Below w.heap.size w w' ∧ RV ⟨w', fun b => F b ∨ (w.heap.size ≤ b ∧ b < w'.heap.size), w.heap.size, 0, μ⟩ r u) : PureC X g args r := fun w F μ arr hS hr =>
  .inr ⟨hen _ _, h w F μ arr hS hr⟩
theorem tab_of {X : Cx} {m : Mem} {H : List Ob} (hS : Sim X.G m H) {g : Nat} {vs : List Value} (hg : (g, vs) ∈ X.G) {name : String} (hn : X.P.globalNamed name = some g) : m.w.var? X.P name = some vs.toArray := by
  obtain ⟨t, s, h⟩ := (hS.gl _ hg).2.2
  unfold World.var?
  rw [hn]
  simp only [Option.bind_some]
  simp only at h
  rw [h]
theorem two_args {m : Mem} {a b : V} {arr : Array Value} (h : RVs m [a, b] arr) : ∃ x y, arr = #[x, y] ∧ RV m a x ∧ RV m b y := by
  obtain ⟨x, a1, a2⟩ := h.2 0 _ rfl
  obtain ⟨y, b1, b2⟩ := h.2 1 _ rfl
  refine ⟨x, y, ?_, a2, b2⟩
  refine Array.ext (by simpa using h.1) fun j h1 h2 => ?_
  have hj : j < 2 := by simpa using h2
  rcases (by omega : j = 0 ∨ j = 1) with rfl | rfl
  · have := (Array.getElem?_eq_some_iff.1 a1).2; simpa using this
  · have := (Array.getElem?_eq_some_iff.1 b1).2; simpa using this
end Go.VL
namespace Go.VL
open Go.RowKit
/-- What a listed variable holds, as the whole of its block. -/
theorem laid_at {X : Cx} {w : World} {n : String} {d : DataW Unit} : ∀ {l : List (String × DataW Unit)} {ps : List MemPlace}, DataW.LaidVars X.P w l ps → (n, d) ∈ l → ∀ {g : Nat} {t : TypeId} {f : Nat}, X.P.globalNamed n = some g → (X.P.globals[g]?).map (·.type) = some t → okLit X.lay f t = true →
    GlAt w (g, litV f d)
  | [], ps, _, hm, g, t, f, _, _, _ => by cases hm
  | (n', d') :: r, ps, h, hm, g, t, f, hg, ht, hok => by
    obtain ⟨g0, t0, cs, fuel, p, q, h1, h2, h3, h4, h5, -⟩ := h
    rcases List.mem_cons.1 hm with he | hm
    · cases he
      obtain rfl := Option.some.inj (hg.symm.trans h1)
      obtain rfl := Option.some.inj (ht.symm.trans h2)
      obtain ⟨k1, -⟩ := lit_trod f _ _ _ _ hok h4
      simp only at k1
      unfold World.var? at h3
      rw [hg] at h3
      simp only [Option.bind_some] at h3
      unfold GlAt
      cases hh : w.heap[g]? with
      | none => rw [hh] at h3; cases h3
      | some o =>
        rw [hh] at h3
        cases o with
        | cells c t s =>
          simp only [Option.some.injEq] at h3
          subst h3
          exact ⟨t, s, by rw [← k1]⟩
        | _ => cases h3
    · exact laid_at h5 hm hg ht hok
/-- Both at once, as a law over laid variables wants them. -/
theorem laid_glob {X : Cx} {w : World} {n : String} {d : DataW Unit} {l : List (String × DataW Unit)} {ps : List MemPlace} (h : DataW.LaidVars X.P w l ps) (hm : (n, d) ∈ l) {g : Nat} {t : TypeId} {f : Nat} {vs : List Value} (hg : X.P.globalNamed n = some g) (ht : (X.P.globals[g]?).map (·.type) = some t) (hok : okLit X.lay f t = true) (hv : litV f d = vs) (h0 : vs.isEmpty = false) :
    vs ≠ [] ∧ (∀ (j : Nat) (x : Value), vs[j]? = some x → w.cell? ⟨g, j, none⟩ = some x ∧ plain x = true) ∧ GlAt w (g, vs) := by
  subst hv
  exact ⟨fun e => (by rw [e] at h0; cases h0), laid_cells h hm hg ht hok, laid_at h hm hg ht hok⟩
section
variable {X : Cx} {all r : List Oper} {K : Sl → List Ob → Prop} {sl : Sl} {H : List Ob} {d : Tmp} {ty : TypeId} {ps : String} {af : Array Edge}
/-- A frozen slice of bytes, as a word. -/
theorem v_conv_tx {s t e : TypeId} {x : Operand} {a b a' b' a2 b2 : Nat} {z z' z2 : List Value} {o : Bool} {n : Nat} {cs : List C} {ns : List Int} (hs : X.lay s = some ⟨.slice e, a, b, z⟩) (ht : X.lay t = some ⟨.string, a', b', z'⟩) (hLe : X.lay e = some ⟨.int .u8, a2, b2, z2⟩) (hx : rho X.G sl x = .c (.sl o n 1 cs)) (hb : bytesOf cs = some ns)
    (h : vops X all r K (upd sl d (.c (.v (.string (tx (ns.map fun (q : Int) => UInt8.ofNat q.toNat)))))) H) : vops X all (⟨some d, .convert s t x, ty, ps, af, none⟩ :: r) K sl H := by
  refine v_conv_bs hs ht hLe hx hb ?_
  rw [strOf_tx]
  exact h
end
/-- A word that is answered. -/
theorem a_s {H : List Ob} {p q : List UInt8} (h : p = q) : TrV H [] (.c (.v (.string (tx p)))) (.c (.v (.string (tx q)))) := by
  subst h; exact tr_v
theorem rv_v {m : Mem} {v u : Value} (h : RV m (.c (.v v)) u) : u = v := by
  cases h with
  | c h => cases h with | fz h => cases h; rfl
end Go.VL
namespace Go.VL
/-- The parts of a word between bytes c. -/
def splitB (c : UInt8) : List UInt8 → List (List UInt8)
  | [] => [[]]
  | x :: r => if x = c then [] :: splitB c r else match splitB c r with
    | [] => [[x]]
    | p :: q => (x :: p) :: q
theorem splitB_ne (c : UInt8) (l : List UInt8) : splitB c l ≠ [] := by
  cases l with
  | nil => simp [splitB]
  | cons x r =>
    unfold splitB
    split
    · simp
    · split <;> simp
theorem splitB_none {c : UInt8} : ∀ {l : List UInt8}, (∀ x ∈ l, x ≠ c) → splitB c l = [l]
  | [], _ => rfl
  | x :: r, h => by
    unfold splitB
    rw [if_neg (h x (by simp)), splitB_none (fun y hy => h y (by simp [hy]))]
theorem splitB_app {c : UInt8} {r : List UInt8} : ∀ {p : List UInt8}, (∀ x ∈ p, x ≠ c) → splitB c (p ++ c :: r) = p :: splitB c r
  | [], _ => by
    show splitB c (c :: r) = _
    rw [splitB, if_pos rfl]
  | x :: q, h => by
    show splitB c (x :: (q ++ c :: r)) = _
    rw [splitB, if_neg (h x (by simp)), splitB_app (fun y hy => h y (by simp [hy]))]
theorem splitB_hit {c : UInt8} {l : List UInt8} {m : Nat} (hm : m < l.length) (h : ∀ x ∈ l.take m, x ≠ c) (e : l[m] = c) : splitB c l = l.take m :: splitB c (l.drop (m + 1)) := by
  have e2 : l = l.take m ++ c :: l.drop (m + 1) := by
    rw [← e, ← List.drop_eq_getElem_cons hm, List.take_append_drop]
  have := splitB_app (c := c) (r := l.drop (m + 1)) h
  rw [← e2] at this
  exact this
theorem splitB_len (c : UInt8) : ∀ l : List UInt8, (splitB c l).length = l.count c + 1
  | [] => rfl
  | x :: r => by
    have ih := splitB_len c r
    unfold splitB
    rw [List.count_cons]
    split
    · rename_i h
      subst h
      simp [ih]
    · rename_i h
      split
      · rename_i e
        exact absurd e (splitB_ne c r)
      · rename_i p q e
        rw [e] at ih
        have hb : (x == c) = false := by simpa using h
        simp only [List.length_cons, hb] at ih ⊢
        simpa using ih
theorem splitB_le (c : UInt8) (l : List UInt8) : (splitB c l).length ≤ l.length + 1 := by
  rw [splitB_len]
  have := List.count_le_length (a := c) (l := l)
  omega
/-- Every part is no longer than the word. -/
theorem splitB_part (c : UInt8) : ∀ (l : List UInt8), ∀ p ∈ splitB c l, p.length ≤ l.length
  | [], p, h => by
    obtain rfl : p = [] := by simpa [splitB] using h
    exact Nat.le_refl _
  | x :: r, p, h => by
    have ih := splitB_part c r
    unfold splitB at h
    split at h
    · rcases List.mem_cons.1 h with rfl | h
      · exact Nat.zero_le _
      · have := ih p h
        simp only [List.length_cons]
        omega
    · split at h
      · rename_i e
        exact absurd e (splitB_ne c r)
      · rename_i p' q e
        rw [e] at ih
        rcases List.mem_cons.1 h with rfl | h
        · have := ih p' (by simp)
          simp only [List.length_cons]
          omega
        · have := ih p (by simp [h])
          simp only [List.length_cons]
          omega
/-- No part holds the byte. -/
theorem splitB_free (c : UInt8) : ∀ (l : List UInt8), ∀ p ∈ splitB c l, ∀ x ∈ p, x ≠ c
  | [], p, h => by
    obtain rfl : p = [] := by simpa [splitB] using h
    intro x hx; cases hx
  | x :: r, p, h => by
    have ih := splitB_free c r
    unfold splitB at h
    split at h
    · rcases List.mem_cons.1 h with rfl | h
      · intro x hx; cases hx
      · exact ih p h
    · rename_i hx
      split at h
      · rename_i e
        exact absurd e (splitB_ne c r)
      · rename_i p' q e
        rw [e] at ih
        rcases List.mem_cons.1 h with rfl | h
        · intro y hy
          rcases List.mem_cons.1 hy with rfl | hy
          · exact hx
          · exact ih p' (by simp) y hy
        · exact ih p (by simp [h])
/-- Parts put together again. -/
def joinB (c : UInt8) : List (List UInt8) → List UInt8
  | [] => []
  | [p] => p
  | p :: q :: r => p ++ c :: joinB c (q :: r)
theorem joinB_cons {c : UInt8} {p : List UInt8} {q : List (List UInt8)} (h : q ≠ []) : joinB c (p :: q) = p ++ c :: joinB c q := by
  cases q with
  | nil => exact absurd rfl h
  | cons a r => rfl
theorem join_split (c : UInt8) : ∀ l : List UInt8, joinB c (splitB c l) = l
  | [] => rfl
  | x :: r => by
    have ih := join_split c r
    unfold splitB
    split
    · rename_i h
      subst h
      rw [joinB_cons (splitB_ne x r), ih]
      rfl
    · split
      · rename_i e
        exact absurd e (splitB_ne c r)
      · rename_i p q e
        rw [e] at ih
        cases q with
        | nil =>
          have : p = r := ih
          rw [this]
          rfl
        | cons a b =>
          have : p ++ c :: joinB c (a :: b) = r := ih
          show (x :: p) ++ c :: joinB c (a :: b) = x :: r
          rw [List.cons_append, this]
/-- Where a byte stands first. -/
theorem index_byte (c : UInt8) : ∀ l : List UInt8, (Lib.indexByte l c = -1 ∧ ∀ x ∈ l, x ≠ c) ∨ ∃ (m : Nat) (h : m < l.length), Lib.indexByte l c = (m : Int) ∧ (∀ x ∈ l.take m, x ≠ c) ∧ l[m] = c
  | [] => .inl ⟨rfl, (by intro x hx; cases hx)⟩
  | y :: r => by
    unfold Lib.indexByte
    by_cases h : y = c
    · refine .inr ⟨0, by simp, ?_, (by intro x hx; cases hx), h⟩
      rw [if_pos (by simpa using h)]; rfl
    · rw [if_neg (by simpa using h)]
      rcases index_byte c r with ⟨h1, h2⟩ | ⟨m, hm, h1, h2, h3⟩
      · refine .inl ⟨by rw [h1]; rfl, fun x hx => ?_⟩
        rcases List.mem_cons.1 hx with rfl | hx
        · exact h
        · exact h2 x hx
      · refine .inr ⟨m + 1, by simp only [List.length_cons]; omega, ?_, fun x hx => ?_, by simpa using h3⟩
        · rw [h1, if_neg (by simp only [beq_iff_eq]; omega)]
          push_cast
          rfl
        · rw [List.take_succ_cons] at hx
          rcases List.mem_cons.1 hx with rfl | hx
          · exact h
          · exact h2 x hx
/-- A number with one digit more. -/
theorem dec_snoc {n d : Nat} (hn : 0 < n) (hd : d < 10) : Lib.decDigits (n * 10 + d) = Lib.decDigits n ++ [UInt8.ofNat (48 + d)] := by
  rw [Lib.decDigits.eq_1 (n * 10 + d), dif_neg (by omega), show (n * 10 + d) / 10 = n by omega, show (n * 10 + d) % 10 = d by omega]
theorem dec_unsnoc {n : Nat} (h : ¬ n < 10) : Lib.decDigits n = Lib.decDigits (n / 10) ++ [UInt8.ofNat (48 + n % 10)] := by
  rw [Lib.decDigits.eq_1 n, dif_neg h]
/-- Bytes that are digits. -/
def dig (x : UInt8) : Prop := 48 ≤ x.toNat ∧ x.toNat ≤ 57
instance (x : UInt8) : Decidable (dig x) := by unfold dig; infer_instance
def dval (x : UInt8) : Nat := x.toNat - 48
theorem dig_of {d : Nat} (h : d < 10) : dig (UInt8.ofNat (48 + d)) ∧ dval (UInt8.ofNat (48 + d)) = d := by
  have e : (UInt8.ofNat (48 + d)).toNat = 48 + d := by
    rw [UInt8.toNat_ofNat']
    exact Nat.mod_eq_of_lt (by omega)
  unfold dig dval
  rw [e]
  omega
theorem of_dig {x : UInt8} (h : dig x) : UInt8.ofNat (48 + dval x) = x := by
  unfold dig at h
  unfold dval
  rw [show 48 + (x.toNat - 48) = x.toNat by omega]
  exact UInt8.ofNat_toNat
/-- The number that digits tell. -/
def numL (l : List UInt8) : Nat := l.foldl (fun a x => a * 10 + dval x) 0
theorem numL_snoc (l : List UInt8) (x : UInt8) : numL (l ++ [x]) = numL l * 10 + dval x := by
  unfold numL
  rw [List.foldl_append]
  rfl
theorem dec_digs : ∀ n : Nat, (∀ x ∈ Lib.decDigits n, dig x) ∧ numL (Lib.decDigits n) = n ∧ 0 < (Lib.decDigits n).length ∧ ((Lib.decDigits n).head? = some 48 → n = 0) := by
  intro n
  induction n using Nat.strongRecOn with
  | ind n ih =>
    by_cases h : n < 10
    · rw [Lib.decDigits_one h]
      have hd := dig_of h
      refine ⟨fun x hx => ?_, ?_, by simp, fun e => ?_⟩
      · obtain rfl : x = _ := List.mem_singleton.1 hx
        exact hd.1
      · show 0 * 10 + dval _ = n
        rw [hd.2]
        omega
      · have e1 : UInt8.ofNat (48 + n) = 48 := by simpa using e
        have := hd.2
        rw [e1] at this
        exact this.symm
    · obtain ⟨h1, h2, h3, h4⟩ := ih (n / 10) (by omega)
      rw [dec_unsnoc h]
      have hd := dig_of (d := n % 10) (by omega)
      refine ⟨fun x hx => ?_, ?_, by simp, fun e => ?_⟩
      · rcases List.mem_append.1 hx with hx | hx
        · exact h1 x hx
        · obtain rfl : x = _ := List.mem_singleton.1 hx
          exact hd.1
      · rw [numL_snoc, h2, hd.2]
        omega
      · have : (Lib.decDigits (n / 10)).head? = some 48 := by
          cases hl : Lib.decDigits (n / 10) with
          | nil => rw [hl] at h3; simp at h3
          | cons a b => rw [hl] at e; simpa using e
        have := h4 this
        omega
/-- Digits without a needless nought are what their number is written as. -/
theorem dec_numL : ∀ (k : Nat) (l : List UInt8), l.length = k → 0 < l.length → (∀ x ∈ l, dig x) → (l.head? = some 48 → l.length = 1) → Lib.decDigits (numL l) = l ∧ (1 < l.length → 0 < numL l) := by
  intro k
  induction k with
  | zero => intro l hl h0; omega
  | succ k ih =>
    intro l hl h0 hd hz
    obtain ⟨p, x, rfl⟩ : ∃ p x, l = p ++ [x] := ⟨l.dropLast, l.getLast (by intro e; rw [e] at h0; simp at h0), (List.dropLast_concat_getLast _).symm⟩
    have hx : dig x := hd x (by simp)
    have hv : dval x < 10 := by unfold dig at hx; unfold dval; omega
    rw [numL_snoc]
    by_cases hp : p.length = 0
    · obtain rfl : p = [] := List.length_eq_zero_iff.1 hp
      refine ⟨?_, fun h => by simp at h⟩
      show Lib.decDigits (0 * 10 + dval x) = [x]
      rw [Nat.zero_mul, Nat.zero_add, Lib.decDigits_one hv, of_dig hx]
    · have hpl : p.length = k := by simpa using hl
      have hh : (p ++ [x]).head? = p.head? := by
        cases p with
        | nil => exact absurd rfl hp
        | cons a b => rfl
      have hz' : p.head? = some 48 → p.length = 1 := fun e => by
        have := hz (hh.trans e)
        rw [List.length_append] at this
        simp only [List.length_cons, List.length_nil] at this
        omega
      obtain ⟨i1, i2⟩ := ih p hpl (by omega) (fun y hy => hd y (by simp [hy])) hz'
      have hpos : 0 < numL p := by
        by_cases h1 : 1 < p.length
        · exact i2 h1
        · have hne : p.head? ≠ some 48 := fun e => by
            have := hz (hh.trans e)
            rw [List.length_append] at this
            simp only [List.length_cons, List.length_nil] at this
            omega
          obtain ⟨a, rfl⟩ : ∃ a, p = [a] := List.length_eq_one_iff.1 (by omega)
          have ha : dig a := hd a (by simp)
          show 0 < 0 * 10 + dval a
          have : a ≠ 48 := fun e => hne (by rw [e]; rfl)
          have : a.toNat ≠ 48 := fun e => this (by rw [← UInt8.toNat_inj]; exact e)
          unfold dig at ha
          unfold dval
          omega
      refine ⟨?_, fun _ => by omega⟩
      rw [dec_snoc hpos hv, i1, of_dig hx]
/-- The kit's reading of digits. -/
theorem parseU_digs (M : Nat) : ∀ (l : List UInt8) (a : Nat), (∀ x ∈ l, dig x) → (l.foldl (fun a x => a * 10 + dval x) a) ≤ M → M ≤ 18446744073709551615 → Lib.parseUintM M a l = .ok (l.foldl (fun a x => a * 10 + dval x) a)
  | [], a, _, _, _ => rfl
  | c :: r, a, h, hM, hb => by
    have hc : dig c := h c (by simp)
    have hmono : ∀ (l : List UInt8) (b : Nat), b ≤ l.foldl (fun a x => a * 10 + dval x) b := by
      intro l
      induction l with
      | nil => intro b; exact Nat.le_refl _
      | cons y q ih => intro b; exact Nat.le_trans (by omega) (ih (b * 10 + dval y))
    have h1 := hmono r (a * 10 + dval c)
    rw [List.foldl_cons] at hM
    unfold Lib.parseUintM
    unfold dig at hc
    rw [if_pos hc, if_neg (by unfold dval at h1 hM; omega), if_neg (by unfold dval at h1 hM; omega)]
    exact parseU_digs M r (a * 10 + dval c) (fun x hx => h x (by simp [hx])) hM hb
theorem parse_dec {n : Nat} (h : n < 2 ^ 63) : Lib.parseIntB 64 (Lib.decDigits n) = .ok (n : Int) := by
  obtain ⟨h1, h2, h3, -⟩ := dec_digs n
  cases hl : Lib.decDigits n with
  | nil => rw [hl] at h3; simp at h3
  | cons c r =>
    rw [hl] at h1 h2
    have hc : dig c := h1 c (by simp)
    unfold dig at hc
    have hu : Lib.parseUintB 64 (c :: r) = .ok n := by
      unfold Lib.parseUintB
      rw [if_neg (by simp), parseU_digs _ _ _ h1 (by have : numL (c :: r) ≤ 2 ^ 64 - 1 := by omega
                                                     exact this) (by decide)]
      show Lib.NumEnd.ok (numL (c :: r)) = _
      rw [h2]
    unfold Lib.parseIntB
    simp only
    rw [if_neg (by omega), hu]
    simp only
    rw [if_neg (by omega), if_neg (by omega), if_neg (by omega)]
open Go.RowKit in
theorem ag_slice_av {X : Cx} {sl : Sl} {H : List Ob} {t e : TypeId} {x : Operand} {n a b : Nat} {z : List Value} {o : Bool} {off k : Nat} {cs cs' : List C} {L : Lay} (hL : X.lay t = some ⟨.array n e, a, b, z⟩) (hLe : X.lay e = some L) (hk : L.size = k) (hx : rho X.G sl x = .c (.vw o cs off)) (hk0 : 0 < k)
    (hn : n ≤ maxLen) (hf : off + n * k ≤ cs.length) (hs : sub cs off (n * k) = cs') : evq X.lay H (rho X.G sl) (.slice t x none none none) = some (.c (.sl o n k cs')) := by
  subst hk hs
  simp only [evq, hL, hx, hLe, bnd]
  rw [if_pos ⟨hk0, by omega, by omega, by omega, hn, hf⟩]
  simp
end Go.VL
namespace Go.VL
open Go.RowKit
theorem trod_iface {T : Type} {enc : TypeId × Value → T} {P : Program} {w : World} {b : Nat} {sp : Nat → Bool} {hd : Bool} {fuel : Nat} {t : TypeId} {ms : Array (String × TypeId)} {vs : List Value} {x : DataW T × List MemPlace} (hu : P.underlying t = some (.interface ms)) (h : DataW.trod enc P w b sp hd fuel t vs = some x) :
    ∃ v, vs = [v] ∧ (v = .nilIface ∨ ∃ u y, v = .iface u y) := by
  cases fuel with
  | zero => cases h
  | succ f =>
    unfold DataW.trod at h
    rw [hu] at h
    match vs, h with
    | [], h => cases h
    | [v], h =>
      refine ⟨v, rfl, ?_⟩
      cases v with
      | nilIface => exact .inl rfl
      | iface u y => exact .inr ⟨u, y, rfl⟩
      | _ => cases h
    | a :: c :: r, h => cases a <;> cases h
theorem laid_iface {P : Program} {w : World} {n : String} {d : DataW Unit} : ∀ {l : List (String × DataW Unit)} {ps : List MemPlace}, DataW.LaidVars P w l ps → (n, d) ∈ l → ∀ {g : Nat} {t : TypeId} {ms : Array (String × TypeId)}, P.globalNamed n = some g → (P.globals[g]?).map (·.type) = some t → P.underlying t = some (.interface ms) →
    ∃ v, (v = .nilIface ∨ ∃ u y, v = .iface u y) ∧ ([v] ≠ [] ∧ (∀ (j : Nat) (x : Value), [v][j]? = some x → w.cell? ⟨g, j, none⟩ = some x ∧ plain x = true) ∧ GlAt w (g, [v]))
  | [], ps, _, hm, g, t, _, _, _, _ => by cases hm
  | (n', d') :: r, ps, h, hm, g, t, ms, hg, ht, hu => by
    obtain ⟨g0, t0, cs, fuel, p, q, h1, h2, h3, h4, h5, -⟩ := h
    rcases List.mem_cons.1 hm with he | hm
    · cases he
      obtain rfl := Option.some.inj (hg.symm.trans h1)
      obtain rfl := Option.some.inj (ht.symm.trans h2)
      obtain ⟨v, hv, hi⟩ := trod_iface hu h4
      have hcs : cs = #[v] := by
        apply Array.ext'
        exact hv
      subst hcs
      refine ⟨v, hi, by simp, fun j x hj => ?_, ?_⟩
      · refine ⟨?_, ?_⟩
        · rw [World.var?_cell hg h3 j]
          simpa using hj
        · have hx : x = v := by
            cases j with
            | zero => simpa using hj.symm
            | succ j => simp at hj
          subst hx
          rcases hi with rfl | ⟨u, y, rfl⟩ <;> rfl
      · unfold World.var? at h3
        rw [hg] at h3
        simp only [Option.bind_some] at h3
        unfold GlAt
        cases hh : w.heap[g]? with
        | none => rw [hh] at h3; cases h3
        | some o =>
          rw [hh] at h3
          cases o with
          | cells c t s =>
            simp only [Option.some.injEq] at h3
            subst h3
            exact ⟨t, s, rfl⟩
          | _ => cases h3
    · exact laid_iface h5 hm hg ht hu
end Go.VL
namespace Go.VL
open Go.RowKit
set_option maxHeartbeats 4000000
abbrev fD : Ieee.Format := FloatKind.f64.format
theorem fD_fb : fD.fractionBits = 52 := by decide
theorem fD_bi : fD.binade = 4503599627370496 := by decide
theorem fD_in : fD.infRung = 9218868437227405312 := by decide
theorem fD_lp : fD.leastPlace = -1074 := by decide
theorem fD_sw : fD.signWeight = 9223372036854775808 := by decide
theorem big_lo {m : Nat} (hm0 : m ≠ 0) (hm : m.log2 ≤ 52) : 2 ^ 52 ≤ m * 2 ^ (52 - m.log2) ∧ m * 2 ^ (52 - m.log2) < 2 ^ 53 := by
  constructor
  · have h1 := Nat.log2_self_le hm0
    have h2 : 2 ^ m.log2 * 2 ^ (52 - m.log2) ≤ m * 2 ^ (52 - m.log2) := Nat.mul_le_mul_right _ h1
    rw [← Nat.pow_add, show m.log2 + (52 - m.log2) = 52 by omega] at h2
    exact h2
  · have h1 : m < 2 ^ (m.log2 + 1) := Nat.lt_log2_self
    have h2 : m * 2 ^ (52 - m.log2) < 2 ^ (m.log2 + 1) * 2 ^ (52 - m.log2) := (Nat.mul_lt_mul_right (Nat.two_pow_pos _)).2 h1
    rw [← Nat.pow_add, show m.log2 + 1 + (52 - m.log2) = 53 by omega] at h2
    exact h2
/-- The word of a number of at most 53 digits. -/
def wrd (m : Nat) (e : Int) : Nat := (e + (m.log2 : Int) - 52 + 1074).toNat * 4503599627370496 + m * 2 ^ (52 - m.log2)
theorem near_wrd {s : Bool} {m : Nat} {e : Int} (hm0 : m ≠ 0) (hm : m.log2 ≤ 52) (he : -1074 ≤ e + (m.log2 : Int) - 52) (he2 : e + (m.log2 : Int) - 52 ≤ 900) : fD.nearest s m e = fD.word s (wrd m e) := by
  obtain ⟨hM1, hM2⟩ := big_lo hm0 hm
  have d52 : (2 : Nat) ^ 52 = 4503599627370496 := by decide
  have d53 : (2 : Nat) ^ 53 = 9007199254740992 := by decide
  unfold Ieee.Format.nearest wrd
  rw [if_neg hm0]
  simp only [fD_fb, fD_lp, fD_bi, fD_in]
  have hmax : max (e + (m.log2 : Int) - ((52 : Nat) : Int)) (-1074) = e + (m.log2 : Int) - 52 := by omega
  rw [hmax, show (e - (e + (m.log2 : Int) - 52)).toNat = 52 - m.log2 by omega, show (e + (m.log2 : Int) - 52 - e).toNat = 0 by omega, cut_zero, Nat.shiftLeft_eq]
  generalize m * 2 ^ (52 - m.log2) = M at *
  obtain ⟨L, hL⟩ : ∃ L : Nat, e + (m.log2 : Int) - 52 = (L : Int) - 1074 := ⟨(e + (m.log2 : Int) - 52 + 1074).toNat, by omega⟩
  rw [hL, show ((L : Int) - 1074 - -1074).toNat = L by omega, show ((L : Int) - 1074 + 1074).toNat = L by omega, Nat.min_eq_left (by omega)]
theorem wrd_lt {m : Nat} {e : Int} (hm0 : m ≠ 0) (hm : m.log2 ≤ 52) (he2 : e + (m.log2 : Int) - 52 ≤ 900) : wrd m e < 9218868437227405312 := by
  obtain ⟨hM1, hM2⟩ := big_lo hm0 hm
  have d53 : (2 : Nat) ^ 53 = 9007199254740992 := by decide
  unfold wrd
  omega
theorem dbl_readS {s : Bool} {m : Nat} {e : Int} (hm0 : m ≠ 0) (hm : m.log2 ≤ 52) (he : -1074 ≤ e + (m.log2 : Int) - 52) (he2 : e + (m.log2 : Int) - 52 ≤ 900) : fD.read (fD.nearest s m e) = .number s (m * 2 ^ (52 - m.log2)) (e + (m.log2 : Int) - 52) := by
  cases s with
  | false => exact dbl_read hm0 hm he he2
  | true =>
    have h0 := dbl_read hm0 hm he he2
    rw [near_wrd hm0 hm he he2] at h0 ⊢
    have hlt := wrd_lt hm0 hm he2
    generalize wrd m e = r at *
    have w0 : fD.word false r = r := rfl
    have w1 : fD.word true r = 9223372036854775808 + r := by
      unfold Ieee.Format.word
      rw [fD_sw]
      rfl
    rw [w0] at h0
    rw [w1]
    unfold Ieee.Format.read at h0 ⊢
    rw [fD_sw, fD_bi, fD_in, fD_lp] at *
    have r1 : r / 9223372036854775808 % 2 = 0 := by omega
    have r2 : r % 9223372036854775808 = r := by omega
    have q1 : (9223372036854775808 + r) / 9223372036854775808 % 2 = 1 := by omega
    have q2 : (9223372036854775808 + r) % 9223372036854775808 = r := by omega
    simp only [r1, r2] at h0
    simp only [q1, q2]
    split at h0
    · rename_i h1
      rw [if_pos h1]
      simp only [Ieee.Datum.number.injEq] at h0 ⊢
      exact ⟨rfl, h0.2⟩
    · rename_i h1
      rw [if_neg h1, if_pos hlt]
      simp only [Ieee.Datum.number.injEq] at h0 ⊢
      exact ⟨rfl, h0.2⟩
/-- The same number, told with more digits. -/
theorem dbl_scale {s : Bool} {n j : Nat} {p : Int} (hn : n ≠ 0) (hl : n.log2 ≤ 52) (lo : -1074 ≤ p + (n.log2 : Int) - 52) : fD.nearest s (n * 2 ^ j) (p - j) = fD.nearest s n p := by
  have hm : n * 2 ^ j ≠ 0 := Nat.mul_ne_zero hn (Nat.ne_of_gt (Nat.two_pow_pos j))
  unfold Ieee.Format.nearest
  rw [if_neg hn, if_neg hm, log2_mul hn]
  simp only [fD_fb, fD_lp, fD_bi, fD_in, cut_rne, Nat.shiftLeft_eq]
  have h1 : max (p - (j : Int) + ((n.log2 + j : Nat) : Int) - ((52 : Nat) : Int)) (-1074) = p + (n.log2 : Int) - 52 := by omega
  have h2 : max (p + (n.log2 : Int) - ((52 : Nat) : Int)) (-1074) = p + (n.log2 : Int) - 52 := by omega
  rw [h1, h2]
  have e0 : (p + (n.log2 : Int) - 52 - p).toNat = 0 := by omega
  have e1 : (p - (p + (n.log2 : Int) - 52)).toNat = 52 - n.log2 := by omega
  rw [e0, e1]
  have hz := rne_mul (n * 2 ^ (52 - n.log2)) 0
  rw [Nat.pow_zero, Nat.mul_one] at hz
  rw [hz]
  by_cases hj : j ≤ 52 - n.log2
  · rw [show (p - (j : Int) - (p + (n.log2 : Int) - 52)).toNat = 52 - n.log2 - j by omega, show (p + (n.log2 : Int) - 52 - (p - (j : Int))).toNat = 0 by omega, Nat.mul_assoc, ← Nat.pow_add, show j + (52 - n.log2 - j) = 52 - n.log2 by omega, hz]
  · obtain ⟨d, hd⟩ : ∃ d, j = (52 - n.log2) + d := ⟨j - (52 - n.log2), by omega⟩
    rw [show (p - (j : Int) - (p + (n.log2 : Int) - 52)).toNat = 0 by omega, show (p + (n.log2 : Int) - 52 - (p - (j : Int))).toNat = d by omega, Nat.pow_zero, Nat.mul_one, hd, Nat.pow_add, ← Nat.mul_assoc, rne_mul]
/-- A single times a power of two, as a double: m, and the place u behind 2 ^ -201. -/
def dW (s : Bool) (m u : Nat) : Nat := fD.nearest s m ((u : Int) - 201)
/-- What such doubles are. -/
structure Dm (m u : Nat) : Prop where
  h0 : m ≠ 0
  hm : m.log2 ≤ 52
  hu : u ≤ 600
theorem Dm.read {s : Bool} {m u : Nat} (h : Dm m u) : fD.read (dW s m u) = .number s (m * 2 ^ (52 - m.log2)) ((u : Int) + (m.log2 : Int) - 253) := by
  have := dbl_readS (s := s) (e := (u : Int) - 201) h.h0 h.hm (by omega) (by have := h.hm; have := h.hu; omega)
  rw [show (u : Int) - 201 + (m.log2 : Int) - 52 = (u : Int) + (m.log2 : Int) - 253 by omega] at this
  exact this
theorem Dm.num {s : Bool} {m u : Nat} (h : Dm m u) : isNaN .f64 (dW s m u) = false := by
  unfold isNaN
  have : FloatKind.f64.decode (dW s m u) = _ := h.read (s := s)
  rw [this]
  rfl
/-- Twice as much. -/
theorem Dm.mul {s : Bool} {m u k : Nat} (h : Dm m u) {B : Nat} (hB : fD.read B = .number false (2 ^ 52) ((k : Int) - 52)) : fop .mul .f64 (some (dW s m u)) (some B) = some (dW s m (u + k)) := by
  show fD.mul _ _ = _
  unfold Ieee.Format.mul
  rw [h.read, hB]
  simp only [Ieee.Datum.product, Option.map_some, Bool.xor_false]
  congr 1
  show fD.nearest s _ _ = fD.nearest s _ _
  have hm := h.hm
  have := dbl_scale (s := s) (n := m) (j := 104 - m.log2) (p := ((u + k : Nat) : Int) - 201) h.h0 h.hm (by omega)
  rw [← this, Nat.mul_assoc, ← Nat.pow_add, show 52 - m.log2 + 52 = 104 - m.log2 by omega]
  congr 1
  omega
/-- The value in units of 2 ^ -253. -/
theorem Dm.val {m u : Nat} (h : Dm m u) : m * 2 ^ (52 - m.log2) * 2 ^ (u + m.log2) = m * 2 ^ u * 2 ^ 52 := by
  have hm := h.hm
  rw [Nat.mul_assoc, ← Nat.pow_add, Nat.mul_assoc, ← Nat.pow_add]
  congr 2
  omega
def sg (s : Bool) (n : Nat) : Int := if s then -(n : Int) else n
theorem signed_sg (s : Bool) (m u : Nat) : Ieee.signed s m u = sg s (m * 2 ^ u) := by
  cases s
  · exact sgn_f m u
  · exact sgn_t m u
theorem sg_mul (s : Bool) (a b : Nat) : sg s (a * b) = sg s a * (b : Int) := by
  unfold sg
  split
  · rw [Int.neg_mul]; push_cast; rfl
  · push_cast; rfl
theorem cmpI (a b : Int) : compare a b = if a < b then .lt else if a = b then .eq else .gt := rfl
theorem cmp_mul {a b : Int} {c : Nat} (hc : 0 < c) : compare (a * c) (b * c) = compare a b := by
  have hc' : (0 : Int) < (c : Int) := by omega
  rw [cmpI, cmpI]
  rcases Int.lt_trichotomy a b with h | h | h
  · rw [if_pos h, if_pos (Int.mul_lt_mul_of_pos_right h hc')]
  · subst h
    rw [if_neg (Int.lt_irrefl _), if_pos rfl, if_neg (Int.lt_irrefl _), if_pos rfl]
  · have h2 : b * c < a * c := Int.mul_lt_mul_of_pos_right h hc'
    rw [if_neg (by omega), if_neg (by omega), if_neg (by omega), if_neg (by omega)]
/-- The order of two numbers, at a common place. -/
theorem order_at {s t : Bool} {m n : Nat} {i j b : Int} (hi : b ≤ i) (hj : b ≤ j) : (Ieee.Datum.number s m i).order (.number t n j) = some (compare (sg s (m * 2 ^ (i - b).toNat)) (sg t (n * 2 ^ (j - b).toNat))) := by
  simp only [Ieee.Datum.order, signed_sg, Option.some.injEq]
  obtain ⟨g, hg⟩ : ∃ g : Nat, min i j = b + (g : Int) := ⟨(min i j - b).toNat, by omega⟩
  rw [hg, show (i - b).toNat = (i - (b + (g : Int))).toNat + g by omega, show (j - b).toNat = (j - (b + (g : Int))).toNat + g by omega, Nat.pow_add, Nat.pow_add, ← Nat.mul_assoc, ← Nat.mul_assoc, sg_mul _ _ (2 ^ g), sg_mul _ _ (2 ^ g), cmp_mul (Nat.two_pow_pos g)]
/-- Two of them held against each other. -/
theorem Dm.order {s t : Bool} {m u n v : Nat} (h : Dm m u) (h2 : Dm n v) : ford .f64 (some (dW s m u)) (some (dW t n v)) = some (compare (sg s (m * 2 ^ u)) (sg t (n * 2 ^ v))) := by
  show fD.order _ _ = _
  unfold Ieee.Format.order
  rw [h.read, h2.read, order_at (b := -253) (by omega) (by omega)]
  rw [show ((u : Int) + (m.log2 : Int) - 253 - -253).toNat = u + m.log2 by omega, show ((v : Int) + (n.log2 : Int) - 253 - -253).toNat = v + n.log2 by omega, h.val, h2.val, sg_mul _ (m * 2 ^ u), sg_mul _ (n * 2 ^ v), cmp_mul (Nat.two_pow_pos 52)]
/-- Held against nought. -/
theorem Dm.order0 {s : Bool} {m u : Nat} (h : Dm m u) : ford .f64 (some (dW s m u)) (some 0) = some (if s then .lt else .gt) := by
  show fD.order _ _ = _
  have h0 : fD.read 0 = .number false 0 (-1074) := by decide
  unfold Ieee.Format.order
  rw [h.read, h0, order_at (b := -1074) (by omega) (by omega)]
  have hp : 0 < m * 2 ^ (52 - m.log2) * 2 ^ ((u : Int) + (m.log2 : Int) - 253 - -1074).toNat := Nat.mul_pos (Nat.mul_pos (Nat.pos_of_ne_zero h.h0) (Nat.two_pow_pos _)) (Nat.two_pow_pos _)
  generalize m * 2 ^ (52 - m.log2) * 2 ^ ((u : Int) + (m.log2 : Int) - 253 - -1074).toNat = W at *
  rw [Nat.zero_mul]
  cases s with
  | true =>
    have : compare (sg true W) (sg false 0) = .lt := by
      rw [cmpI, if_pos (by simp only [sg, if_true, Bool.false_eq_true, if_false]; omega)]
    rw [this]; rfl
  | false =>
    have : compare (sg false W) (sg false 0) = .gt := by
      rw [cmpI, if_neg (by simp only [sg, Bool.false_eq_true, if_false]; omega), if_neg (by simp only [sg, Bool.false_eq_true, if_false]; omega)]
    rw [this]; rfl
theorem cut_way {way : Ieee.Toward} {s : Bool} (hw : way = .zero ∨ (way = .down ∧ s = false)) (n d : Nat) : way.cut s n d = n / 2 ^ d := by
  have e : way.cut s n d = Ieee.Toward.down.cut false n d := by
    rcases hw with rfl | ⟨rfl, rfl⟩
    · unfold Ieee.Toward.cut
      simp only [Bool.false_and]
    · rfl
  rw [e, cut_down]
end Go.VL
namespace Go.VL
open Go.RowKit
set_option maxHeartbeats 4000000
theorem cut_neg (n d : Nat) : Ieee.Toward.down.cut true n d = n / 2 ^ d + (if n % 2 ^ d = 0 then 0 else 1) := by
  unfold Ieee.Toward.cut
  simp only [Bool.true_and, Nat.one_shiftLeft]
  by_cases h : d ≤ n.log2 + 2
  · rw [Nat.min_eq_left h]
    congr 1
    split
    · rename_i h0; rw [h0]; rfl
    · rename_i h0
      have : (n % 2 ^ d != 0) = true := by simpa using h0
      rw [this]; rfl
  · rw [Nat.min_eq_right (by omega)]
    have h1 : n < 2 ^ (n.log2 + 1) := Nat.lt_log2_self
    have h2 : 2 ^ (n.log2 + 1) ≤ 2 ^ (n.log2 + 2) := Nat.pow_le_pow_right (by decide) (by omega)
    have h3 : 2 ^ (n.log2 + 2) ≤ 2 ^ d := Nat.pow_le_pow_right (by decide) (by omega)
    rw [Nat.div_eq_of_lt (by omega), Nat.div_eq_of_lt (by omega), Nat.mod_eq_of_lt (by omega), Nat.mod_eq_of_lt (by omega)]
    congr 1
    split
    · rename_i h0; rw [h0]; rfl
    · rename_i h0
      have : (n != 0) = true := by simpa using h0
      rw [this]; rfl
theorem whole_eq {A d V c : Nat} (e : A * 2 ^ c = V * 2 ^ d) : A / 2 ^ d = V / 2 ^ c ∧ (A % 2 ^ d = 0 ↔ V % 2 ^ c = 0) := by
  have hc := Nat.two_pow_pos c
  have hd := Nat.two_pow_pos d
  have h1 : A / 2 ^ d = V / 2 ^ c := by
    rw [← Nat.mul_div_mul_right A (2 ^ d) hc, e, Nat.mul_comm (2 ^ d) (2 ^ c), Nat.mul_div_mul_right V (2 ^ c) hd]
  refine ⟨h1, ?_⟩
  have hA := Nat.div_add_mod A (2 ^ d)
  have hV := Nat.div_add_mod V (2 ^ c)
  have e2 : A % 2 ^ d * 2 ^ c = V % 2 ^ c * 2 ^ d := by
    have e3 : (2 ^ d * (A / 2 ^ d) + A % 2 ^ d) * 2 ^ c = (2 ^ c * (V / 2 ^ c) + V % 2 ^ c) * 2 ^ d := by rw [hA, hV, e]
    rw [h1, Nat.add_mul, Nat.add_mul] at e3
    have e4 : 2 ^ d * (V / 2 ^ c) * 2 ^ c = 2 ^ c * (V / 2 ^ c) * 2 ^ d := by ac_rfl
    omega
  constructor
  · intro h
    rw [h, Nat.zero_mul] at e2
    rcases Nat.mul_eq_zero.1 e2.symm with h | h
    · exact h
    · omega
  · intro h
    rw [h, Nat.zero_mul] at e2
    rcases Nat.mul_eq_zero.1 e2 with h | h
    · exact h
    · omega
/-- The whole part towards nought. -/
def trc (x : Option Nat) : Option Nat := x.map fun b => FloatKind.f64.encode ((FloatKind.f64.decode b).integral .zero)
theorem Dm.place {m u : Nat} (h : Dm m u) : ∃ A d : Nat, (m * 2 ^ (52 - m.log2)) <<< ((u : Int) + (m.log2 : Int) - 253).toNat = A ∧ (-((u : Int) + (m.log2 : Int) - 253)).toNat = d ∧ A * 2 ^ 201 = m * 2 ^ u * 2 ^ d := by
  refine ⟨_, _, rfl, rfl, ?_⟩
  have hm := h.hm
  rw [Nat.shiftLeft_eq, Nat.mul_assoc, Nat.mul_assoc, Nat.mul_assoc, ← Nat.pow_add, ← Nat.pow_add, ← Nat.pow_add]
  congr 2
  omega
theorem Dm.trunc {s : Bool} {m u : Nat} (h : Dm m u) : trc (some (dW s m u)) = some (fD.nearest s (m * 2 ^ u / 2 ^ 201) 0) := by
  obtain ⟨A, d, h1, h2, h3⟩ := h.place
  unfold trc
  simp only [Option.map_some]
  congr 1
  show fD.write ((fD.read (dW s m u)).integral .zero) = _
  rw [h.read]
  simp only [Ieee.Datum.integral, h1, h2]
  rw [cut_way (.inl rfl), (whole_eq h3).1]
  rfl
/-- How far down. -/
def flK (s : Bool) (V : Nat) : Nat := V / 2 ^ 201 + (if s = true then (if V % 2 ^ 201 = 0 then 0 else 1) else 0)
theorem Dm.floor {s : Bool} {m u : Nat} (h : Dm m u) : flr (some (dW s m u)) = some (fD.nearest s (flK s (m * 2 ^ u)) 0) := by
  obtain ⟨A, d, h1, h2, h3⟩ := h.place
  unfold flr
  simp only [Option.map_some]
  congr 1
  show fD.write ((fD.read (dW s m u)).integral .down) = _
  rw [h.read]
  simp only [Ieee.Datum.integral, h1, h2]
  unfold flK
  cases s with
  | false =>
    rw [cut_way (.inr ⟨rfl, rfl⟩), (whole_eq h3).1, if_neg (by decide)]
    rfl
  | true =>
    rw [cut_neg, (whole_eq h3).1, if_pos rfl]
    have := (whole_eq h3).2
    by_cases h0 : A % 2 ^ d = 0
    · rw [if_pos h0, if_pos (this.1 h0)]; rfl
    · rw [if_neg h0, if_neg (fun e => h0 (this.2 e))]; rfl
theorem Dm.one (K : Nat) (h0 : K ≠ 0) (hK : K.log2 ≤ 52) : Dm K 201 ∧ ∀ s, dW s K 201 = fD.nearest s K 0 := ⟨⟨h0, hK, by omega⟩, fun s => rfl⟩
/-- Whether it is a whole number. -/
theorem Dm.eq_whole {s : Bool} {m u K : Nat} (h : Dm m u) (hK : K.log2 ≤ 52) : (ford .f64 (some (dW s m u)) (some (fD.nearest s K 0)) = some .eq) ↔ m * 2 ^ u = K * 2 ^ 201 := by
  have hpos : 0 < m * 2 ^ u := Nat.mul_pos (Nat.pos_of_ne_zero h.h0) (Nat.two_pow_pos _)
  by_cases h0 : K = 0
  · subst h0
    have e : ∀ t, fD.read (fD.nearest t 0 0) = .number t 0 (-1074) := by intro t; cases t <;> decide
    constructor
    · intro hh
      exfalso
      have hh2 : fD.order (dW s m u) (fD.nearest s 0 0) = some .eq := hh
      unfold Ieee.Format.order at hh2
      rw [h.read, e, order_at (b := -1074) (by omega) (by omega)] at hh2
      have hp : 0 < m * 2 ^ (52 - m.log2) * 2 ^ ((u : Int) + (m.log2 : Int) - 253 - -1074).toNat := Nat.mul_pos (Nat.mul_pos (Nat.pos_of_ne_zero h.h0) (Nat.two_pow_pos _)) (Nat.two_pow_pos _)
      generalize m * 2 ^ (52 - m.log2) * 2 ^ ((u : Int) + (m.log2 : Int) - 253 - -1074).toNat = W at *
      rw [Nat.zero_mul, cmpI] at hh2
      have z : sg s 0 = 0 := by unfold sg; split <;> rfl
      have nz : sg s W ≠ 0 := by unfold sg; split <;> omega
      rw [z] at hh2
      split at hh2
      · cases hh2
      · cases hh2
    · intro hh; omega
  · obtain ⟨h2, h3⟩ := Dm.one K h0 hK
    rw [← h3 s, h.order h2, cmpI]
    constructor
    · intro hh
      split at hh
      · cases hh
      · split at hh
        · rename_i e
          unfold sg at e
          split at e <;> omega
        · cases hh
    · intro hh
      rw [hh, if_neg (Int.lt_irrefl _), if_pos rfl]
theorem Dm.toInt {s : Bool} {m u : Nat} (h : Dm m u) : (FloatKind.f64.decode (dW s m u)).toInt .zero = some (sg s (m * 2 ^ u / 2 ^ 201)) := by
  obtain ⟨A, d, h1, h2, h3⟩ := h.place
  show (fD.read (dW s m u)).toInt .zero = _
  rw [h.read]
  unfold Ieee.Datum.toInt
  simp only [Ieee.Datum.integral, h1, h2]
  rw [cut_way (.inl rfl), (whole_eq h3).1, signed_sg, Nat.pow_zero, Nat.mul_one]
theorem Dm.word {m u : Nat} (h : Dm m u) : ∃ r, r < 9218868437227405312 ∧ dW false m u = r ∧ dW true m u = 9223372036854775808 + r := by
  have hm := h.hm
  have hu := h.hu
  refine ⟨wrd m ((u : Int) - 201), wrd_lt h.h0 hm (by omega), ?_, ?_⟩
  · exact near_wrd h.h0 hm (by omega) (by omega)
  · have := near_wrd (s := true) (e := (u : Int) - 201) h.h0 hm (by omega) (by omega)
    unfold dW
    rw [this]
    unfold Ieee.Format.word
    rw [fD_sw]
    rfl
theorem xor_top {n r : Nat} (h : r < 2 ^ n) : (2 ^ n + r) ^^^ 2 ^ n = r := by
  have e : 2 ^ n + r = 2 ^ n ||| r := by
    have := Nat.two_pow_add_eq_or_of_lt h 1
    simpa using this
  rw [e]
  apply Nat.eq_of_testBit_eq
  intro i
  rw [Nat.testBit_xor, Nat.testBit_or, Nat.testBit_two_pow]
  by_cases hi : n = i
  · subst hi
    rw [Nat.testBit_lt_two_pow h]
    simp
  · simp [hi]
theorem and_not_top (b : Nat) (hb : b < 2 ^ 64) : bits .andNot .u64 (b : Int) 9223372036854775808 = ((b % 2 ^ 63 : Nat) : Int) := by
  unfold bits
  simp only
  have e1 : (BitVec.ofInt IntKind.u64.bits (b : Int)).toNat = b := by
    rw [BitVec.ofInt_natCast, BitVec.toNat_ofNat]
    exact Nat.mod_eq_of_lt hb
  have e2 : (~~~ BitVec.ofInt IntKind.u64.bits (9223372036854775808 : Int)).toNat = 2 ^ 63 - 1 := by decide
  rw [BitVec.toNat_and, e1, e2, Nat.and_two_pow_sub_one_eq_mod]
  refine wrap_of ?_
  have := Nat.mod_lt b (show 0 < 2 ^ 63 by decide)
  show (0 : Int) ≤ _ ∧ _ ≤ (18446744073709551615 : Int)
  omega
/-- The absolute value. -/
theorem Dm.abs {s : Bool} {m u : Nat} (h : Dm m u) : dW s m u % 2 ^ 63 = dW false m u ∧ dW s m u < 2 ^ 64 := by
  obtain ⟨r, h1, h2, h3⟩ := h.word
  cases s with
  | false => rw [h2]; omega
  | true => rw [h2, h3]; omega
theorem Dm.neg {m u : Nat} (h : Dm m u) : Go.Op.negFloat .f64 (dW true m u) = dW false m u := by
  obtain ⟨r, h1, h2, h3⟩ := h.word
  unfold Go.Op.negFloat
  have e : 2 ^ (FloatKind.f64.format.exponentBits + FloatKind.f64.format.fractionBits) = 2 ^ 63 := by decide
  rw [e, h2, h3]
  exact xor_top (n := 63) (by omega)
section
variable {X : Cx} {all r : List Oper} {K : Sl → List Ob → Prop} {sl : Sl} {H : List Ob} {d : Tmp} {ty : TypeId} {ps : String} {af : Array Edge}
/-- The negative of a float. -/
theorem v_negf {t : TypeId} {x : Operand} {k : FloatKind} {p : Nat} (q : Nat) (ha : all.isEmpty = false) (hx : rho X.G sl x = .c (.f k (some p))) (hq : Go.Op.negFloat k p = q) (hn : isNaN k q = false)
    (h : vops X all r K (upd sl d (.c (.f k (some q)))) H) : vops X all (⟨some d, .unOp .neg t x, ty, ps, af, none⟩ :: r) K sl H := by
  subst hq
  refine v_raw ha rfl (by simp only [evq, hx, un, Option.map_none]) rfl ?_
  intro m ε oper ho hS hρ
  have hxr := hρ x
  rw [hx] at hxr
  obtain ⟨b, hu, hb⟩ := hxr.cell.floatI
  have hbp : b = p := by
    unfold fOf at hb
    split at hb
    · cases hb
    · exact (Option.some.inj hb).symm
  subst hbp
  refine ⟨.value (.float k (Go.Op.negFloat k b)), m, .c (.f k (some (Go.Op.negFloat k b))), H, ?_, hS, Ext.refl m, h, .inl ⟨_, rfl, .c (.fs hn)⟩⟩
  simp [execOp, ho, hu, Go.Op.unary]
end
end Go.VL
namespace Go.VL
open Go.RowKit
section
variable {X : Cx} {g : FuncId} {fn : Func}
theorem pure_f64from (hf : X.P.funcs[g]? = some fn) (hname : (fn.name == "runtime.NumGoroutine") = false) (hb : fn.body.isNone = true) (hn : Extern.findNext fn = none) (he : Extern.find fn = some Extern.MathFloatBits.float64frombits) (b : Nat) (hnum : isNaN .f64 b = false) :
    PureC X g [.c (.v (.int .u64 (b : Int)))] (.c (.f .f64 (some b))) := by
  refine PureC.extern hf hname hb hn he fun m arr hr => ?_
  obtain ⟨u, rfl, hu⟩ := one_arg hr
  obtain rfl := hu.val
  exact ⟨.float .f64 b, m.w, rfl, rfl, rfl, rfl, rfl, fun m' => .c (.fs hnum)⟩
end
/-- 999999, in units of 2 ^ -201. -/
def topV : Nat := 999999 * 2 ^ 201
def bigV (V : Nat) : Prop := topV < V
def intV (V : Nat) : Prop := V % 2 ^ 201 = 0
instance (V : Nat) : Decidable (bigV V) := by unfold bigV; infer_instance
instance (V : Nat) : Decidable (intV V) := by unfold intV; infer_instance
theorem dm_top : Dm 999999 201 := ⟨by decide, by decide, by decide⟩
theorem top_f : fOf .f64 4696837138094751744 = some (dW false 999999 201) := by decide
theorem top_t : fOf .f64 13920209174949527552 = some (dW true 999999 201) := by decide
theorem zero_f : fOf .f64 0 = some 0 := by decide
theorem small_log {V : Nat} (hb : ¬ bigV V) : (V / 2 ^ 201).log2 ≤ 52 ∧ (V / 2 ^ 201 + 1).log2 ≤ 52 ∧ V / 2 ^ 201 ≤ 999999 := by
  have h1 : V / 2 ^ 201 ≤ 999999 := by
    unfold bigV topV at hb
    rw [Nat.div_le_iff_le_mul (Nat.two_pow_pos _)]
    omega
  have hl : ∀ n : Nat, n ≤ 1000000 → n.log2 ≤ 52 := fun n hn => by
    by_cases h0 : n = 0
    · subst h0; decide
    · have h2 := Nat.log2_self_le h0
      have : 2 ^ n.log2 < 2 ^ 53 := by
        have : (2 : Nat) ^ 53 = 9007199254740992 := by decide
        omega
      have := (Nat.pow_lt_pow_iff_right (show 1 < 2 by decide)).1 this
      omega
  exact ⟨hl _ (by omega), hl _ (by omega), h1⟩
section
variable {s : Bool} {m u : Nat} (h : Dm m u)
include h
theorem Dm.pos : 0 < m * 2 ^ u := Nat.mul_pos (Nat.pos_of_ne_zero h.h0) (Nat.two_pow_pos _)
theorem Dm.gt_top : (ford .f64 (some (dW s m u)) (fOf .f64 4696837138094751744) == some .gt) = decide (s = false ∧ bigV (m * 2 ^ u)) := by
  rw [top_f, h.order dm_top, cmpI]
  have hp := h.pos
  unfold bigV topV
  generalize m * 2 ^ u = V at *
  cases s with
  | true =>
    rw [if_pos (by simp only [sg, if_true, Bool.false_eq_true, if_false]; omega)]
    simp
  | false =>
    simp only [sg, Bool.false_eq_true, if_false, true_and]
    by_cases hb : 999999 * 2 ^ 201 < V
    · rw [if_neg (by omega), if_neg (by omega), decide_eq_true hb]; rfl
    · rw [decide_eq_false hb]
      by_cases h1 : (V : Int) < ((999999 * 2 ^ 201 : Nat) : Int)
      · rw [if_pos h1]; rfl
      · rw [if_neg h1, if_pos (by omega)]; rfl
theorem Dm.lt_top : (ford .f64 (some (dW s m u)) (fOf .f64 13920209174949527552) == some .lt) = decide (s = true ∧ bigV (m * 2 ^ u)) := by
  rw [top_t, h.order dm_top, cmpI]
  have hp := h.pos
  unfold bigV topV
  generalize m * 2 ^ u = V at *
  cases s with
  | false =>
    rw [if_neg (by simp only [sg, if_true, Bool.false_eq_true, if_false]; omega), if_neg (by simp only [sg, if_true, Bool.false_eq_true, if_false]; omega)]
    simp
  | true =>
    simp only [sg, if_true, true_and]
    by_cases hb : 999999 * 2 ^ 201 < V
    · rw [if_pos (by omega), decide_eq_true hb]; rfl
    · rw [decide_eq_false hb, if_neg (by omega)]
      split <;> rfl
theorem Dm.lt_zero : (ford .f64 (some (dW s m u)) (fOf .f64 0) == some .lt) = s := by
  rw [zero_f, h.order0]
  cases s <;> rfl
theorem Dm.eq_floor (hb : ¬ bigV (m * 2 ^ u)) : (ford .f64 (some (dW s m u)) (flr (some (dW s m u))) == some .eq) = decide (intV (m * 2 ^ u)) := by
  obtain ⟨l1, l2, -⟩ := small_log hb
  rw [h.floor]
  have hK : (flK s (m * 2 ^ u)).log2 ≤ 52 := by
    unfold flK
    split
    · split
      · exact l1
      · exact l2
    · exact l1
  have e := h.eq_whole (s := s) hK
  have e2 : m * 2 ^ u = flK s (m * 2 ^ u) * 2 ^ 201 ↔ intV (m * 2 ^ u) := by
    unfold flK intV
    have hd := Nat.div_add_mod (m * 2 ^ u) (2 ^ 201)
    generalize m * 2 ^ u = V at *
    split
    · split
      · rename_i h0; constructor
        · intro; exact h0
        · intro; omega
      · rename_i h0; constructor
        · intro hh; omega
        · intro hh; exact absurd hh h0
    · constructor
      · intro hh; omega
      · intro hh; omega
  rw [e2] at e
  by_cases hi : intV (m * 2 ^ u)
  · rw [decide_eq_true hi, e.2 hi]; rfl
  · rw [decide_eq_false hi]
    have := fun q => hi (e.1 q)
    simpa using this
theorem Dm.eq_trunc (hb : ¬ bigV (m * 2 ^ u)) : (ford .f64 (some (dW s m u)) (trc (some (dW s m u))) == some .eq) = decide (intV (m * 2 ^ u)) := by
  obtain ⟨l1, -, -⟩ := small_log hb
  rw [h.trunc]
  have e := h.eq_whole (s := s) l1
  have e2 : m * 2 ^ u = m * 2 ^ u / 2 ^ 201 * 2 ^ 201 ↔ intV (m * 2 ^ u) := by
    unfold intV
    have hd := Nat.div_add_mod (m * 2 ^ u) (2 ^ 201)
    constructor
    · intro hh; omega
    · intro hh; omega
  rw [e2] at e
  by_cases hi : intV (m * 2 ^ u)
  · rw [decide_eq_true hi, e.2 hi]; rfl
  · rw [decide_eq_false hi]
    have := fun q => hi (e.1 q)
    simpa using this
end
/-- More is as big. -/
theorem big_up {m u j k : Nat} (hjk : j ≤ k) (h : bigV (m * 2 ^ (u + j))) : bigV (m * 2 ^ (u + k)) := by
  unfold bigV at *
  have : m * 2 ^ (u + j) ≤ m * 2 ^ (u + k) := Nat.mul_le_mul_left _ (Nat.pow_le_pow_right (by decide) (by omega))
  omega
/-- The powers of two. -/
theorem two_read : ∀ k : Nat, k ≤ 11 → fD.read (FloatKind.f64.nearest (2 ^ k : Int)) = .number false (2 ^ 52) ((k : Int) - 52) ∧ FloatKind.f64.nearest (2 ^ k : Int) = 4607182418800017408 + k * 4503599627370496
  | 0, _ => by decide
  | 1, _ => by decide
  | 2, _ => by decide
  | 3, _ => by decide
  | 4, _ => by decide
  | 5, _ => by decide
  | 6, _ => by decide
  | 7, _ => by decide
  | 8, _ => by decide
  | 9, _ => by decide
  | 10, _ => by decide
  | 11, _ => by decide
  | k + 12, h => absurd h (by omega)
/-- Where a fraction has its least denominator. -/
def frK (m u : Nat) : Option Nat := (List.range 11).find? fun k => decide (intV (m * 2 ^ (u + k)) ∧ ¬ bigV (m * 2 ^ (u + k)))
theorem frK_hit {m u i : Nat} (hi : i < 11) (h : ∀ j < i, ¬ (intV (m * 2 ^ (u + j)) ∧ ¬ bigV (m * 2 ^ (u + j)))) (h1 : intV (m * 2 ^ (u + i)) ∧ ¬ bigV (m * 2 ^ (u + i))) : frK m u = some i := by
  unfold frK
  rw [List.find?_eq_some_iff_getElem]
  refine ⟨by simpa using h1, i, by simpa using hi, by simp, fun j hj => ?_⟩
  have := h j hj
  simp only [List.getElem_range, Bool.not_eq_true', decide_eq_false_iff_not]
  exact this
theorem frK_none {m u : Nat} (h : ∀ j < 11, ¬ (intV (m * 2 ^ (u + j)) ∧ ¬ bigV (m * 2 ^ (u + j)))) : frK m u = none := by
  unfold frK
  rw [List.find?_eq_none]
  intro j hj
  have := h j (by simpa using hj)
  simpa using this
end Go.VL
set_option maxRecDepth 20000
namespace Go.VL
open Go.RowKit
def layT : List (TypeId × Lay) := [
  (1, ⟨.other, 1, 8, [.nilFunc]⟩),
  (2, ⟨.int .i64, 1, 8, [.int .i64 0]⟩),
  (3, ⟨.int .i64, 1, 8, [.int .i64 0]⟩),
  (4, ⟨.bool, 1, 1, [.bool false]⟩),
  (5, ⟨.int .u8, 1, 1, [.int .u8 0]⟩),
  (6, ⟨.int .u8, 1, 1, [.int .u8 0]⟩),
  (7, ⟨.struct [(2, 0), (3, 1), (4, 2), (6, 3)], 4, 24, [.int .i64 0, .int .i64 0, .bool false, .int .u8 0]⟩),
  (8, ⟨.struct [(2, 0), (3, 1), (4, 2), (6, 3)], 4, 24, [.int .i64 0, .int .i64 0, .bool false, .int .u8 0]⟩),
  (9, ⟨.string, 1, 16, [.string ⟨#[]⟩]⟩),
  (10, ⟨.string, 1, 16, [.string ⟨#[]⟩]⟩),
  (11, ⟨.string, 1, 16, [.string ⟨#[]⟩]⟩),
  (12, ⟨.int .u64, 1, 8, [.int .u64 0]⟩),
  (13, ⟨.struct [(9, 0), (12, 1)], 2, 24, [.string ⟨#[]⟩, .int .u64 0]⟩),
  (14, ⟨.struct [(9, 0), (12, 1)], 2, 24, [.string ⟨#[]⟩, .int .u64 0]⟩),
  (15, ⟨.other, 1, 8, [.pointer none]⟩),
  (16, ⟨.other, 1, 8, [.pointer none]⟩),
  (17, ⟨.other, 1, 8, [.pointer none]⟩),
  (18, ⟨.struct [(17, 0)], 1, 8, [.pointer none]⟩),
  (19, ⟨.struct [(17, 0)], 1, 8, [.pointer none]⟩),
  (21, ⟨.int .i32, 1, 4, [.int .i32 0]⟩),
  (22, ⟨.struct [(2, 0), (2, 1), (2, 2)], 3, 24, [.int .i64 0, .int .i64 0, .int .i64 0]⟩),
  (23, ⟨.struct [(2, 0), (2, 1), (2, 2)], 3, 24, [.int .i64 0, .int .i64 0, .int .i64 0]⟩),
  (24, ⟨.other, 1, 8, [.nilFunc]⟩),
  (25, ⟨.struct [(2, 0), (2, 1), (2, 2)], 3, 24, [.int .i64 0, .int .i64 0, .int .i64 0]⟩),
  (26, ⟨.other, 1, 8, [.nilFunc]⟩),
  (27, ⟨.other, 1, 8, [.nilFunc]⟩),
  (29, ⟨.other, 1, 8, [.nilFunc]⟩),
  (30, ⟨.other, 1, 8, [.nilFunc]⟩),
  (31, ⟨.other, 1, 8, [.nilFunc]⟩),
  (32, ⟨.float .f32, 1, 4, [.float .f32 0]⟩),
  (33, ⟨.struct [(2, 0), (2, 1), (2, 2), (2, 3), (32, 4)], 5, 40, [.int .i64 0, .int .i64 0, .int .i64 0, .int .i64 0, .float .f32 0]⟩),
  (34, ⟨.struct [(2, 0), (2, 1), (2, 2), (2, 3), (32, 4)], 5, 40, [.int .i64 0, .int .i64 0, .int .i64 0, .int .i64 0, .float .f32 0]⟩),
  (35, ⟨.other, 1, 8, [.nilFunc]⟩),
  (36, ⟨.struct [(2, 0), (2, 1), (2, 2), (2, 3), (32, 4)], 5, 40, [.int .i64 0, .int .i64 0, .int .i64 0, .int .i64 0, .float .f32 0]⟩),
  (37, ⟨.other, 1, 8, [.nilFunc]⟩),
  (38, ⟨.other, 1, 8, [.nilFunc]⟩),
  (39, ⟨.slice 36, 1, 24, [.slice none 0 0]⟩),
  (41, ⟨.other, 1, 8, [.nilFunc]⟩),
  (42, ⟨.other, 1, 8, [.nilFunc]⟩),
  (43, ⟨.other, 1, 8, [.nilFunc]⟩),
  (44, ⟨.other, 1, 8, [.nilFunc]⟩),
  (45, ⟨.slice 9, 1, 24, [.slice none 0 0]⟩),
  (46, ⟨.slice 3, 1, 24, [.slice none 0 0]⟩),
  (48, ⟨.other, 1, 8, [.nilFunc]⟩),
  (49, ⟨.other, 1, 8, [.nilFunc]⟩),
  (50, ⟨.array 7 9, 7, 112, [.string ⟨#[]⟩, .string ⟨#[]⟩, .string ⟨#[]⟩, .string ⟨#[]⟩, .string ⟨#[]⟩, .string ⟨#[]⟩, .string ⟨#[]⟩]⟩),
  (51, ⟨.other, 1, 8, [.nilFunc]⟩),
  (53, ⟨.other, 1, 8, [.nilFunc]⟩),
  (54, ⟨.other, 1, 8, [.nilFunc]⟩),
  (55, ⟨.other, 1, 8, [.nilFunc]⟩),
  (56, ⟨.other, 1, 8, [.nilFunc]⟩),
  (57, ⟨.other, 1, 8, [.pointer none]⟩),
  (58, ⟨.slice 4, 1, 24, [.slice none 0 0]⟩),
  (60, ⟨.other, 1, 8, [.nilFunc]⟩),
  (61, ⟨.other, 1, 8, [.nilFunc]⟩),
  (62, ⟨.other, 1, 8, [.nilFunc]⟩),
  (63, ⟨.struct [(9, 0), (3, 1), (4, 2)], 3, 32, [.string ⟨#[]⟩, .int .i64 0, .bool false]⟩),
  (64, ⟨.struct [(9, 0), (3, 1), (4, 2)], 3, 32, [.string ⟨#[]⟩, .int .i64 0, .bool false]⟩),
  (65, ⟨.array 6 64, 18, 192, [.string ⟨#[]⟩, .int .i64 0, .bool false, .string ⟨#[]⟩, .int .i64 0, .bool false, .string ⟨#[]⟩, .int .i64 0, .bool false, .string ⟨#[]⟩, .int .i64 0, .bool false, .string ⟨#[]⟩, .int .i64 0, .bool false, .string ⟨#[]⟩, .int .i64 0, .bool false]⟩),
  (66, ⟨.array 3 2, 3, 24, [.int .i64 0, .int .i64 0, .int .i64 0]⟩),
  (68, ⟨.other, 1, 8, [.nilFunc]⟩),
  (69, ⟨.other, 1, 8, [.nilFunc]⟩),
  (70, ⟨.other, 1, 8, [.pointer none]⟩),
  (71, ⟨.slice 2, 1, 24, [.slice none 0 0]⟩),
  (72, ⟨.struct [(39, 0), (46, 1), (71, 2)], 3, 72, [.slice none 0 0, .slice none 0 0, .slice none 0 0]⟩),
  (73, ⟨.struct [(39, 0), (46, 1), (71, 2)], 3, 72, [.slice none 0 0, .slice none 0 0, .slice none 0 0]⟩),
  (75, ⟨.other, 1, 8, [.nilFunc]⟩),
  (76, ⟨.other, 1, 8, [.nilFunc]⟩),
  (77, ⟨.other, 1, 8, [.pointer none]⟩),
  (78, ⟨.slice 122, 1, 24, [.slice none 0 0]⟩),
  (79, ⟨.struct [(39, 0), (78, 1), (3, 2)], 3, 56, [.slice none 0 0, .slice none 0 0, .int .i64 0]⟩),
  (80, ⟨.struct [(39, 0), (78, 1), (3, 2)], 3, 56, [.slice none 0 0, .slice none 0 0, .int .i64 0]⟩),
  (81, ⟨.other, 1, 8, [.nilFunc]⟩),
  (82, ⟨.other, 1, 8, [.nilFunc]⟩),
  (83, ⟨.other, 1, 8, [.nilFunc]⟩),
  (84, ⟨.slice 5, 1, 24, [.slice none 0 0]⟩),
  (85, ⟨.other, 1, 8, [.nilFunc]⟩),
  (86, ⟨.other, 1, 8, [.nilFunc]⟩),
  (90, ⟨.other, 1, 8, [.nilFunc]⟩),
  (91, ⟨.other, 1, 8, [.nilFunc]⟩),
  (92, ⟨.int .u32, 1, 4, [.int .u32 0]⟩),
  (93, ⟨.other, 1, 8, [.nilFunc]⟩),
  (94, ⟨.float .f64, 1, 8, [.float .f64 0]⟩),
  (95, ⟨.other, 1, 8, [.nilFunc]⟩),
  (96, ⟨.other, 1, 8, [.nilFunc]⟩),
  (97, ⟨.other, 1, 8, [.pointer none]⟩),
  (98, ⟨.struct [(97, 0), (84, 1)], 2, 32, [.pointer none, .slice none 0 0]⟩),
  (99, ⟨.struct [(97, 0), (84, 1)], 2, 32, [.pointer none, .slice none 0 0]⟩),
  (100, ⟨.other, 1, 8, [.nilFunc]⟩),
  (102, ⟨.other, 1, 8, [.nilFunc]⟩),
  (103, ⟨.other, 1, 8, [.nilFunc]⟩),
  (104, ⟨.other, 1, 8, [.nilFunc]⟩),
  (106, ⟨.other, 1, 8, [.nilFunc]⟩),
  (107, ⟨.other, 1, 8, [.nilFunc]⟩),
  (108, ⟨.other, 1, 8, [.nilFunc]⟩),
  (109, ⟨.other, 1, 8, [.nilFunc]⟩),
  (110, ⟨.other, 1, 8, [.nilFunc]⟩),
  (111, ⟨.other, 1, 8, [.nilFunc]⟩),
  (112, ⟨.other, 1, 8, [.nilFunc]⟩),
  (113, ⟨.int .u64, 1, 8, [.int .u64 0]⟩),
  (114, ⟨.other, 1, 8, [.nilFunc]⟩),
  (115, ⟨.other, 1, 8, [.nilFunc]⟩),
  (116, ⟨.other, 1, 8, [.pointer none]⟩),
  (118, ⟨.other, 1, 8, [.nilFunc]⟩),
  (119, ⟨.other, 1, 8, [.nilFunc]⟩),
  (120, ⟨.other, 1, 8, [.nilFunc]⟩),
  (121, ⟨.struct [(3, 0), (2, 1)], 2, 16, [.int .i64 0, .int .i64 0]⟩),
  (122, ⟨.struct [(3, 0), (2, 1)], 2, 16, [.int .i64 0, .int .i64 0]⟩),
  (123, ⟨.other, 1, 8, [.nilFunc]⟩),
  (124, ⟨.slice 64, 1, 24, [.slice none 0 0]⟩),
  (125, ⟨.other, 1, 8, [.nilFunc]⟩),
  (126, ⟨.other, 1, 8, [.pointer none]⟩),
  (127, ⟨.array 3 126, 3, 24, [.pointer none, .pointer none, .pointer none]⟩),
  (128, ⟨.other, 1, 8, [.nilFunc]⟩),
  (129, ⟨.array 24 5, 24, 24, [.int .u8 0, .int .u8 0, .int .u8 0, .int .u8 0, .int .u8 0, .int .u8 0, .int .u8 0, .int .u8 0, .int .u8 0, .int .u8 0, .int .u8 0, .int .u8 0, .int .u8 0, .int .u8 0, .int .u8 0, .int .u8 0, .int .u8 0, .int .u8 0, .int .u8 0, .int .u8 0, .int .u8 0, .int .u8 0, .int .u8 0, .int .u8 0]⟩),
  (130, ⟨.other, 1, 8, [.nilFunc]⟩),
  (131, ⟨.other, 1, 8, [.nilFunc]⟩),
  (133, ⟨.other, 1, 8, [.nilFunc]⟩),
  (134, ⟨.other, 1, 8, [.nilFunc]⟩),
  (136, ⟨.other, 1, 8, [.nilFunc]⟩),
  (137, ⟨.other, 1, 8, [.nilFunc]⟩),
  (138, ⟨.int .i64, 1, 8, [.int .i64 0]⟩),
  (140, ⟨.other, 1, 8, [.nilFunc]⟩),
  (141, ⟨.int .u64, 1, 8, [.int .u64 0]⟩),
  (142, ⟨.other, 1, 8, [.pointer none]⟩),
  (143, ⟨.other, 1, 8, [.nilFunc]⟩),
  (144, ⟨.other, 1, 8, [.nilFunc]⟩),
  (145, ⟨.other, 1, 8, [.nilFunc]⟩),
  (147, ⟨.other, 1, 8, [.nilFunc]⟩),
  (148, ⟨.other, 1, 8, [.nilFunc]⟩),
  (150, ⟨.other, 1, 8, [.nilFunc]⟩),
  (151, ⟨.other, 1, 8, [.nilFunc]⟩),
  (152, ⟨.other, 1, 8, [.nilFunc]⟩),
  (154, ⟨.other, 1, 8, [.nilFunc]⟩),
  (155, ⟨.other, 1, 8, [.nilFunc]⟩),
  (156, ⟨.other, 1, 8, [.nilFunc]⟩),
  (157, ⟨.array 20 113, 20, 160, [.int .u64 0, .int .u64 0, .int .u64 0, .int .u64 0, .int .u64 0, .int .u64 0, .int .u64 0, .int .u64 0, .int .u64 0, .int .u64 0, .int .u64 0, .int .u64 0, .int .u64 0, .int .u64 0, .int .u64 0, .int .u64 0, .int .u64 0, .int .u64 0, .int .u64 0, .int .u64 0]⟩),
  (158, ⟨.array 65 5, 65, 65, [.int .u8 0, .int .u8 0, .int .u8 0, .int .u8 0, .int .u8 0, .int .u8 0, .int .u8 0, .int .u8 0, .int .u8 0, .int .u8 0, .int .u8 0, .int .u8 0, .int .u8 0, .int .u8 0, .int .u8 0, .int .u8 0, .int .u8 0, .int .u8 0, .int .u8 0, .int .u8 0, .int .u8 0, .int .u8 0, .int .u8 0, .int .u8 0, .int .u8 0, .int .u8 0, .int .u8 0, .int .u8 0, .int .u8 0, .int .u8 0, .int .u8 0, .int .u8 0, .int .u8 0, .int .u8 0, .int .u8 0, .int .u8 0, .int .u8 0, .int .u8 0, .int .u8 0, .int .u8 0, .int .u8 0, .int .u8 0, .int .u8 0, .int .u8 0, .int .u8 0, .int .u8 0, .int .u8 0, .int .u8 0, .int .u8 0, .int .u8 0, .int .u8 0, .int .u8 0, .int .u8 0, .int .u8 0, .int .u8 0, .int .u8 0, .int .u8 0, .int .u8 0, .int .u8 0, .int .u8 0, .int .u8 0, .int .u8 0, .int .u8 0, .int .u8 0, .int .u8 0]⟩),
  (159, ⟨.other, 1, 8, [.nilFunc]⟩),
  (160, ⟨.other, 1, 8, [.nilFunc]⟩),
  (161, ⟨.other, 1, 8, [.nilFunc]⟩),
  (162, ⟨.other, 1, 8, [.nilFunc]⟩),
  (165, ⟨.other, 1, 8, [.nilFunc]⟩),
  (166, ⟨.other, 1, 8, [.nilFunc]⟩),
  (167, ⟨.array 256 5, 256, 256, [.int .u8 0, .int .u8 0, .int .u8 0, .int .u8 0, .int .u8 0, .int .u8 0, .int .u8 0, .int .u8 0, .int .u8 0, .int .u8 0, .int .u8 0, .int .u8 0, .int .u8 0, .int .u8 0, .int .u8 0, .int .u8 0, .int .u8 0, .int .u8 0, .int .u8 0, .int .u8 0, .int .u8 0, .int .u8 0, .int .u8 0, .int .u8 0, .int .u8 0, .int .u8 0, .int .u8 0, .int .u8 0, .int .u8 0, .int .u8 0, .int .u8 0, .int .u8 0, .int .u8 0, .int .u8 0, .int .u8 0, .int .u8 0, .int .u8 0, .int .u8 0, .int .u8 0, .int .u8 0, .int .u8 0, .int .u8 0, .int .u8 0, .int .u8 0, .int .u8 0, .int .u8 0, .int .u8 0, .int .u8 0, .int .u8 0, .int .u8 0, .int .u8 0, .int .u8 0, .int .u8 0, .int .u8 0, .int .u8 0, .int .u8 0, .int .u8 0, .int .u8 0, .int .u8 0, .int .u8 0, .int .u8 0, .int .u8 0, .int .u8 0, .int .u8 0, .int .u8 0, .int .u8 0, .int .u8 0, .int .u8 0, .int .u8 0, .int .u8 0, .int .u8 0, .int .u8 0, .int .u8 0, .int .u8 0, .int .u8 0, .int .u8 0, .int .u8 0, .int .u8 0, .int .u8 0, .int .u8 0, .int .u8 0, .int .u8 0, .int .u8 0, .int .u8 0, .int .u8 0, .int .u8 0, .int .u8 0, .int .u8 0, .int .u8 0, .int .u8 0, .int .u8 0, .int .u8 0, .int .u8 0, .int .u8 0, .int .u8 0, .int .u8 0, .int .u8 0, .int .u8 0, .int .u8 0, .int .u8 0, .int .u8 0, .int .u8 0, .int .u8 0, .int .u8 0, .int .u8 0, .int .u8 0, .int .u8 0, .int .u8 0, .int .u8 0, .int .u8 0, .int .u8 0, .int .u8 0, .int .u8 0, .int .u8 0, .int .u8 0, .int .u8 0, .int .u8 0, .int .u8 0, .int .u8 0, .int .u8 0, .int .u8 0, .int .u8 0, .int .u8 0, .int .u8 0, .int .u8 0, .int .u8 0, .int .u8 0, .int .u8 0, .int .u8 0, .int .u8 0, .int .u8 0, .int .u8 0, .int .u8 0, .int .u8 0, .int .u8 0, .int .u8 0, .int .u8 0, .int .u8 0, .int .u8 0, .int .u8 0, .int .u8 0, .int .u8 0, .int .u8 0, .int .u8 0, .int .u8 0, .int .u8 0, .int .u8 0, .int .u8 0, .int .u8 0, .int .u8 0, .int .u8 0, .int .u8 0, .int .u8 0, .int .u8 0, .int .u8 0, .int .u8 0, .int .u8 0, .int .u8 0, .int .u8 0, .int .u8 0, .int .u8 0, .int .u8 0, .int .u8 0, .int .u8 0, .int .u8 0, .int .u8 0, .int .u8 0, .int .u8 0, .int .u8 0, .int .u8 0, .int .u8 0, .int .u8 0, .int .u8 0, .int .u8 0, .int .u8 0, .int .u8 0, .int .u8 0, .int .u8 0, .int .u8 0, .int .u8 0, .int .u8 0, .int .u8 0, .int .u8 0, .int .u8 0, .int .u8 0, .int .u8 0, .int .u8 0, .int .u8 0, .int .u8 0, .int .u8 0, .int .u8 0, .int .u8 0, .int .u8 0, .int .u8 0, .int .u8 0, .int .u8 0, .int .u8 0, .int .u8 0, .int .u8 0, .int .u8 0, .int .u8 0, .int .u8 0, .int .u8 0, .int .u8 0, .int .u8 0, .int .u8 0, .int .u8 0, .int .u8 0, .int .u8 0, .int .u8 0, .int .u8 0, .int .u8 0, .int .u8 0, .int .u8 0, .int .u8 0, .int .u8 0, .int .u8 0, .int .u8 0, .int .u8 0, .int .u8 0, .int .u8 0, .int .u8 0, .int .u8 0, .int .u8 0, .int .u8 0, .int .u8 0, .int .u8 0, .int .u8 0, .int .u8 0, .int .u8 0, .int .u8 0, .int .u8 0, .int .u8 0, .int .u8 0, .int .u8 0, .int .u8 0, .int .u8 0, .int .u8 0, .int .u8 0, .int .u8 0, .int .u8 0, .int .u8 0, .int .u8 0, .int .u8 0, .int .u8 0, .int .u8 0, .int .u8 0, .int .u8 0, .int .u8 0, .int .u8 0, .int .u8 0, .int .u8 0, .int .u8 0, .int .u8 0, .int .u8 0, .int .u8 0]⟩),
  (168, ⟨.struct [(5, 0), (5, 1)], 2, 2, [.int .u8 0, .int .u8 0]⟩),
  (169, ⟨.struct [(5, 0), (5, 1)], 2, 2, [.int .u8 0, .int .u8 0]⟩),
  (170, ⟨.array 16 169, 32, 32, [.int .u8 0, .int .u8 0, .int .u8 0, .int .u8 0, .int .u8 0, .int .u8 0, .int .u8 0, .int .u8 0, .int .u8 0, .int .u8 0, .int .u8 0, .int .u8 0, .int .u8 0, .int .u8 0, .int .u8 0, .int .u8 0, .int .u8 0, .int .u8 0, .int .u8 0, .int .u8 0, .int .u8 0, .int .u8 0, .int .u8 0, .int .u8 0, .int .u8 0, .int .u8 0, .int .u8 0, .int .u8 0, .int .u8 0, .int .u8 0, .int .u8 0, .int .u8 0]⟩),
  (172, ⟨.other, 1, 8, [.nilFunc]⟩),
  (173, ⟨.other, 1, 8, [.pointer none]⟩),
  (174, ⟨.struct [(9, 0)], 1, 16, [.string ⟨#[]⟩]⟩),
  (175, ⟨.struct [(9, 0)], 1, 16, [.string ⟨#[]⟩]⟩),
  (176, ⟨.other, 1, 8, [.nilFunc]⟩),
  (177, ⟨.array 32 5, 32, 32, [.int .u8 0, .int .u8 0, .int .u8 0, .int .u8 0, .int .u8 0, .int .u8 0, .int .u8 0, .int .u8 0, .int .u8 0, .int .u8 0, .int .u8 0, .int .u8 0, .int .u8 0, .int .u8 0, .int .u8 0, .int .u8 0, .int .u8 0, .int .u8 0, .int .u8 0, .int .u8 0, .int .u8 0, .int .u8 0, .int .u8 0, .int .u8 0, .int .u8 0, .int .u8 0, .int .u8 0, .int .u8 0, .int .u8 0, .int .u8 0, .int .u8 0, .int .u8 0]⟩),
  (178, ⟨.array 64 5, 64, 64, [.int .u8 0, .int .u8 0, .int .u8 0, .int .u8 0, .int .u8 0, .int .u8 0, .int .u8 0, .int .u8 0, .int .u8 0, .int .u8 0, .int .u8 0, .int .u8 0, .int .u8 0, .int .u8 0, .int .u8 0, .int .u8 0, .int .u8 0, .int .u8 0, .int .u8 0, .int .u8 0, .int .u8 0, .int .u8 0, .int .u8 0, .int .u8 0, .int .u8 0, .int .u8 0, .int .u8 0, .int .u8 0, .int .u8 0, .int .u8 0, .int .u8 0, .int .u8 0, .int .u8 0, .int .u8 0, .int .u8 0, .int .u8 0, .int .u8 0, .int .u8 0, .int .u8 0, .int .u8 0, .int .u8 0, .int .u8 0, .int .u8 0, .int .u8 0, .int .u8 0, .int .u8 0, .int .u8 0, .int .u8 0, .int .u8 0, .int .u8 0, .int .u8 0, .int .u8 0, .int .u8 0, .int .u8 0, .int .u8 0, .int .u8 0, .int .u8 0, .int .u8 0, .int .u8 0, .int .u8 0, .int .u8 0, .int .u8 0, .int .u8 0, .int .u8 0]⟩),
  (179, ⟨.struct [(17, 0), (17, 1), (17, 2), (9, 3)], 4, 40, [.pointer none, .pointer none, .pointer none, .string ⟨#[]⟩]⟩),
  (180, ⟨.struct [(17, 0), (17, 1), (17, 2), (9, 3)], 4, 40, [.pointer none, .pointer none, .pointer none, .string ⟨#[]⟩]⟩),
  (181, ⟨.array 0 16, 0, 0, []⟩),
  (184, ⟨.other, 1, 8, [.nilFunc]⟩),
  (185, ⟨.int .u8, 1, 1, [.int .u8 0]⟩),
  (186, ⟨.int .u8, 1, 1, [.int .u8 0]⟩),
  (187, ⟨.other, 1, 8, [.nilFunc]⟩),
  (188, ⟨.int .i32, 1, 4, [.int .i32 0]⟩),
  (189, ⟨.int .i32, 1, 4, [.int .i32 0]⟩),
  (190, ⟨.struct [(12, 0), (12, 1), (92, 2), (185, 3), (5, 4), (5, 5), (186, 6), (187, 7), (116, 8), (188, 9), (189, 10)], 11, 48, [.int .u64 0, .int .u64 0, .int .u32 0, .int .u8 0, .int .u8 0, .int .u8 0, .int .u8 0, .nilFunc, .pointer none, .int .i32 0, .int .i32 0]⟩),
  (191, ⟨.struct [(12, 0), (12, 1), (92, 2), (185, 3), (5, 4), (5, 5), (186, 6), (187, 7), (116, 8), (188, 9), (189, 10)], 11, 48, [.int .u64 0, .int .u64 0, .int .u32 0, .int .u8 0, .int .u8 0, .int .u8 0, .int .u8 0, .nilFunc, .pointer none, .int .i32 0, .int .i32 0]⟩)]
theorem layT_ok : ∀ p ∈ layT, layOf Go.Proofs.Tryd.prog p.1 = some p.2 := by
  unfold layT
  refine List.forall_mem_cons.2 ⟨by kernel_rfl, ?_⟩
  refine List.forall_mem_cons.2 ⟨by kernel_rfl, ?_⟩
  refine List.forall_mem_cons.2 ⟨by kernel_rfl, ?_⟩
  refine List.forall_mem_cons.2 ⟨by kernel_rfl, ?_⟩
  refine List.forall_mem_cons.2 ⟨by kernel_rfl, ?_⟩
  refine List.forall_mem_cons.2 ⟨by kernel_rfl, ?_⟩
  refine List.forall_mem_cons.2 ⟨by kernel_rfl, ?_⟩
  refine List.forall_mem_cons.2 ⟨by kernel_rfl, ?_⟩
  refine List.forall_mem_cons.2 ⟨by kernel_rfl, ?_⟩
  refine List.forall_mem_cons.2 ⟨by kernel_rfl, ?_⟩
  refine List.forall_mem_cons.2 ⟨by kernel_rfl, ?_⟩
  refine List.forall_mem_cons.2 ⟨by kernel_rfl, ?_⟩
  refine List.forall_mem_cons.2 ⟨by kernel_rfl, ?_⟩
  refine List.forall_mem_cons.2 ⟨by kernel_rfl, ?_⟩
  refine List.forall_mem_cons.2 ⟨by kernel_rfl, ?_⟩
  refine List.forall_mem_cons.2 ⟨by kernel_rfl, ?_⟩
  refine List.forall_mem_cons.2 ⟨by kernel_rfl, ?_⟩
  refine List.forall_mem_cons.2 ⟨by kernel_rfl, ?_⟩
  refine List.forall_mem_cons.2 ⟨by kernel_rfl, ?_⟩
  refine List.forall_mem_cons.2 ⟨by kernel_rfl, ?_⟩
  refine List.forall_mem_cons.2 ⟨by kernel_rfl, ?_⟩
  refine List.forall_mem_cons.2 ⟨by kernel_rfl, ?_⟩
  refine List.forall_mem_cons.2 ⟨by kernel_rfl, ?_⟩
  refine List.forall_mem_cons.2 ⟨by kernel_rfl, ?_⟩
  refine List.forall_mem_cons.2 ⟨by kernel_rfl, ?_⟩
  refine List.forall_mem_cons.2 ⟨by kernel_rfl, ?_⟩
  refine List.forall_mem_cons.2 ⟨by kernel_rfl, ?_⟩
  refine List.forall_mem_cons.2 ⟨by kernel_rfl, ?_⟩
  refine List.forall_mem_cons.2 ⟨by kernel_rfl, ?_⟩
  refine List.forall_mem_cons.2 ⟨by kernel_rfl, ?_⟩
  refine List.forall_mem_cons.2 ⟨by kernel_rfl, ?_⟩
  refine List.forall_mem_cons.2 ⟨by kernel_rfl, ?_⟩
  refine List.forall_mem_cons.2 ⟨by kernel_rfl, ?_⟩
  refine List.forall_mem_cons.2 ⟨by kernel_rfl, ?_⟩
  refine List.forall_mem_cons.2 ⟨by kernel_rfl, ?_⟩
  refine List.forall_mem_cons.2 ⟨by kernel_rfl, ?_⟩
  refine List.forall_mem_cons.2 ⟨by kernel_rfl, ?_⟩
  refine List.forall_mem_cons.2 ⟨by kernel_rfl, ?_⟩
  refine List.forall_mem_cons.2 ⟨by kernel_rfl, ?_⟩
  refine List.forall_mem_cons.2 ⟨by kernel_rfl, ?_⟩
  refine List.forall_mem_cons.2 ⟨by kernel_rfl, ?_⟩
  refine List.forall_mem_cons.2 ⟨by kernel_rfl, ?_⟩
  refine List.forall_mem_cons.2 ⟨by kernel_rfl, ?_⟩
  refine List.forall_mem_cons.2 ⟨by kernel_rfl, ?_⟩
  refine List.forall_mem_cons.2 ⟨by kernel_rfl, ?_⟩
  refine List.forall_mem_cons.2 ⟨by kernel_rfl, ?_⟩
  refine List.forall_mem_cons.2 ⟨by kernel_rfl, ?_⟩
  refine List.forall_mem_cons.2 ⟨by kernel_rfl, ?_⟩
  refine List.forall_mem_cons.2 ⟨by kernel_rfl, ?_⟩
  refine List.forall_mem_cons.2 ⟨by kernel_rfl, ?_⟩
  refine List.forall_mem_cons.2 ⟨by kernel_rfl, ?_⟩
  refine List.forall_mem_cons.2 ⟨by kernel_rfl, ?_⟩
  refine List.forall_mem_cons.2 ⟨by kernel_rfl, ?_⟩
  refine List.forall_mem_cons.2 ⟨by kernel_rfl, ?_⟩
  refine List.forall_mem_cons.2 ⟨by kernel_rfl, ?_⟩
  refine List.forall_mem_cons.2 ⟨by kernel_rfl, ?_⟩
  refine List.forall_mem_cons.2 ⟨by kernel_rfl, ?_⟩
  refine List.forall_mem_cons.2 ⟨by kernel_rfl, ?_⟩
  refine List.forall_mem_cons.2 ⟨by kernel_rfl, ?_⟩
  refine List.forall_mem_cons.2 ⟨by kernel_rfl, ?_⟩
  refine List.forall_mem_cons.2 ⟨by kernel_rfl, ?_⟩
  refine List.forall_mem_cons.2 ⟨by kernel_rfl, ?_⟩
  refine List.forall_mem_cons.2 ⟨by kernel_rfl, ?_⟩
  refine List.forall_mem_cons.2 ⟨by kernel_rfl, ?_⟩
  refine List.forall_mem_cons.2 ⟨by kernel_rfl, ?_⟩
  refine List.forall_mem_cons.2 ⟨by kernel_rfl, ?_⟩
  refine List.forall_mem_cons.2 ⟨by kernel_rfl, ?_⟩
  refine List.forall_mem_cons.2 ⟨by kernel_rfl, ?_⟩
  refine List.forall_mem_cons.2 ⟨by kernel_rfl, ?_⟩
  refine List.forall_mem_cons.2 ⟨by kernel_rfl, ?_⟩
  refine List.forall_mem_cons.2 ⟨by kernel_rfl, ?_⟩
  refine List.forall_mem_cons.2 ⟨by kernel_rfl, ?_⟩
  refine List.forall_mem_cons.2 ⟨by kernel_rfl, ?_⟩
  refine List.forall_mem_cons.2 ⟨by kernel_rfl, ?_⟩
  refine List.forall_mem_cons.2 ⟨by kernel_rfl, ?_⟩
  refine List.forall_mem_cons.2 ⟨by kernel_rfl, ?_⟩
  refine List.forall_mem_cons.2 ⟨by kernel_rfl, ?_⟩
  refine List.forall_mem_cons.2 ⟨by kernel_rfl, ?_⟩
  refine List.forall_mem_cons.2 ⟨by kernel_rfl, ?_⟩
  refine List.forall_mem_cons.2 ⟨by kernel_rfl, ?_⟩
  refine List.forall_mem_cons.2 ⟨by kernel_rfl, ?_⟩
  refine List.forall_mem_cons.2 ⟨by kernel_rfl, ?_⟩
  refine List.forall_mem_cons.2 ⟨by kernel_rfl, ?_⟩
  refine List.forall_mem_cons.2 ⟨by kernel_rfl, ?_⟩
  refine List.forall_mem_cons.2 ⟨by kernel_rfl, ?_⟩
  refine List.forall_mem_cons.2 ⟨by kernel_rfl, ?_⟩
  refine List.forall_mem_cons.2 ⟨by kernel_rfl, ?_⟩
  refine List.forall_mem_cons.2 ⟨by kernel_rfl, ?_⟩
  refine List.forall_mem_cons.2 ⟨by kernel_rfl, ?_⟩
  refine List.forall_mem_cons.2 ⟨by kernel_rfl, ?_⟩
  refine List.forall_mem_cons.2 ⟨by kernel_rfl, ?_⟩
  refine List.forall_mem_cons.2 ⟨by kernel_rfl, ?_⟩
  refine List.forall_mem_cons.2 ⟨by kernel_rfl, ?_⟩
  refine List.forall_mem_cons.2 ⟨by kernel_rfl, ?_⟩
  refine List.forall_mem_cons.2 ⟨by kernel_rfl, ?_⟩
  refine List.forall_mem_cons.2 ⟨by kernel_rfl, ?_⟩
  refine List.forall_mem_cons.2 ⟨by kernel_rfl, ?_⟩
  refine List.forall_mem_cons.2 ⟨by kernel_rfl, ?_⟩
  refine List.forall_mem_cons.2 ⟨by kernel_rfl, ?_⟩
  refine List.forall_mem_cons.2 ⟨by kernel_rfl, ?_⟩
  refine List.forall_mem_cons.2 ⟨by kernel_rfl, ?_⟩
  refine List.forall_mem_cons.2 ⟨by kernel_rfl, ?_⟩
  refine List.forall_mem_cons.2 ⟨by kernel_rfl, ?_⟩
  refine List.forall_mem_cons.2 ⟨by kernel_rfl, ?_⟩
  refine List.forall_mem_cons.2 ⟨by kernel_rfl, ?_⟩
  refine List.forall_mem_cons.2 ⟨by kernel_rfl, ?_⟩
  refine List.forall_mem_cons.2 ⟨by kernel_rfl, ?_⟩
  refine List.forall_mem_cons.2 ⟨by kernel_rfl, ?_⟩
  refine List.forall_mem_cons.2 ⟨by kernel_rfl, ?_⟩
  refine List.forall_mem_cons.2 ⟨by kernel_rfl, ?_⟩
  refine List.forall_mem_cons.2 ⟨by kernel_rfl, ?_⟩
  refine List.forall_mem_cons.2 ⟨by kernel_rfl, ?_⟩
  refine List.forall_mem_cons.2 ⟨by kernel_rfl, ?_⟩
  refine List.forall_mem_cons.2 ⟨by kernel_rfl, ?_⟩
  refine List.forall_mem_cons.2 ⟨by kernel_rfl, ?_⟩
  refine List.forall_mem_cons.2 ⟨by kernel_rfl, ?_⟩
  refine List.forall_mem_cons.2 ⟨by kernel_rfl, ?_⟩
  refine List.forall_mem_cons.2 ⟨by kernel_rfl, ?_⟩
  refine List.forall_mem_cons.2 ⟨by kernel_rfl, ?_⟩
  refine List.forall_mem_cons.2 ⟨by kernel_rfl, ?_⟩
  refine List.forall_mem_cons.2 ⟨by kernel_rfl, ?_⟩
  refine List.forall_mem_cons.2 ⟨by kernel_rfl, ?_⟩
  refine List.forall_mem_cons.2 ⟨by kernel_rfl, ?_⟩
  refine List.forall_mem_cons.2 ⟨by kernel_rfl, ?_⟩
  refine List.forall_mem_cons.2 ⟨by kernel_rfl, ?_⟩
  refine List.forall_mem_cons.2 ⟨by kernel_rfl, ?_⟩
  refine List.forall_mem_cons.2 ⟨by kernel_rfl, ?_⟩
  refine List.forall_mem_cons.2 ⟨by kernel_rfl, ?_⟩
  refine List.forall_mem_cons.2 ⟨by kernel_rfl, ?_⟩
  refine List.forall_mem_cons.2 ⟨by kernel_rfl, ?_⟩
  refine List.forall_mem_cons.2 ⟨by kernel_rfl, ?_⟩
  refine List.forall_mem_cons.2 ⟨by kernel_rfl, ?_⟩
  refine List.forall_mem_cons.2 ⟨by kernel_rfl, ?_⟩
  refine List.forall_mem_cons.2 ⟨by kernel_rfl, ?_⟩
  refine List.forall_mem_cons.2 ⟨by kernel_rfl, ?_⟩
  refine List.forall_mem_cons.2 ⟨by kernel_rfl, ?_⟩
  refine List.forall_mem_cons.2 ⟨by kernel_rfl, ?_⟩
  refine List.forall_mem_cons.2 ⟨by kernel_rfl, ?_⟩
  refine List.forall_mem_cons.2 ⟨by kernel_rfl, ?_⟩
  refine List.forall_mem_cons.2 ⟨by kernel_rfl, ?_⟩
  refine List.forall_mem_cons.2 ⟨by kernel_rfl, ?_⟩
  refine List.forall_mem_cons.2 ⟨by kernel_rfl, ?_⟩
  refine List.forall_mem_cons.2 ⟨by kernel_rfl, ?_⟩
  refine List.forall_mem_cons.2 ⟨by kernel_rfl, ?_⟩
  refine List.forall_mem_cons.2 ⟨by kernel_rfl, ?_⟩
  refine List.forall_mem_cons.2 ⟨by kernel_rfl, ?_⟩
  refine List.forall_mem_cons.2 ⟨by kernel_rfl, ?_⟩
  refine List.forall_mem_cons.2 ⟨by kernel_rfl, ?_⟩
  refine List.forall_mem_cons.2 ⟨by kernel_rfl, ?_⟩
  refine List.forall_mem_cons.2 ⟨by kernel_rfl, ?_⟩
  refine List.forall_mem_cons.2 ⟨by kernel_rfl, ?_⟩
  refine List.forall_mem_cons.2 ⟨by kernel_rfl, ?_⟩
  refine List.forall_mem_cons.2 ⟨by kernel_rfl, ?_⟩
  refine List.forall_mem_cons.2 ⟨by kernel_rfl, ?_⟩
  refine List.forall_mem_cons.2 ⟨by kernel_rfl, ?_⟩
  refine List.forall_mem_cons.2 ⟨by kernel_rfl, ?_⟩
  refine List.forall_mem_cons.2 ⟨by kernel_rfl, ?_⟩
  refine List.forall_mem_cons.2 ⟨by kernel_rfl, ?_⟩
  refine List.forall_mem_cons.2 ⟨by kernel_rfl, ?_⟩
  refine List.forall_mem_cons.2 ⟨by kernel_rfl, ?_⟩
  refine List.forall_mem_cons.2 ⟨by kernel_rfl, ?_⟩
  refine List.forall_mem_cons.2 ⟨by kernel_rfl, ?_⟩
  refine List.forall_mem_cons.2 ⟨by kernel_rfl, ?_⟩
  refine List.forall_mem_cons.2 ⟨by kernel_rfl, ?_⟩
  refine List.forall_mem_cons.2 ⟨by kernel_rfl, ?_⟩
  refine List.forall_mem_cons.2 ⟨by kernel_rfl, ?_⟩
  exact fun p hp => absurd hp List.not_mem_nil
theorem mem_of_lookup {t : TypeId} {L : Lay} : ∀ {l : List (TypeId × Lay)}, l.lookup t = some L → (t, L) ∈ l
  | [], h => by simp at h
  | (a, b) :: l, h => by
    simp only [List.lookup] at h
    split at h
    · rename_i he
      simp only [beq_iff_eq, Option.some.injEq] at he h
      subst he h
      exact List.mem_cons_self
    · exact List.mem_cons_of_mem _ (mem_of_lookup h)
/-- The forms of acts. -/
def formL : List (List UInt8 × Int × Bool) := [([111, 102, 102, 101, 114], 1, true), ([98, 108, 111, 99, 107], 2, true), ([112, 108, 97, 110], 2, false), ([102, 114, 101, 101], 1, false), ([116, 117, 114, 110], 3, true), ([119, 97, 105, 116], 1, false)]
/-- What the program has laid. -/
def GL : Glob := [(1, formL.flatMap fun f => [.string (tx f.1), .int .i64 f.2.1, .bool f.2.2]), (3, Lib.pow10Tab.map (Value.int .u64))]
noncomputable def X : Cx := ⟨Go.Proofs.Tryd.prog, fun t => layT.lookup t, fun t L h => layOf_ok (layT_ok (t, L) (mem_of_lookup h)), GL, by kernel_rfl⟩
theorem lay1 : X.lay 1 = some ⟨.other, 1, 8, [.nilFunc]⟩ := by kernel_rfl
theorem lay2 : X.lay 2 = some ⟨.int .i64, 1, 8, [.int .i64 0]⟩ := by kernel_rfl
theorem lay3 : X.lay 3 = some ⟨.int .i64, 1, 8, [.int .i64 0]⟩ := by kernel_rfl
theorem lay4 : X.lay 4 = some ⟨.bool, 1, 1, [.bool false]⟩ := by kernel_rfl
theorem lay5 : X.lay 5 = some ⟨.int .u8, 1, 1, [.int .u8 0]⟩ := by kernel_rfl
theorem lay6 : X.lay 6 = some ⟨.int .u8, 1, 1, [.int .u8 0]⟩ := by kernel_rfl
theorem lay7 : X.lay 7 = some ⟨.struct [(2, 0), (3, 1), (4, 2), (6, 3)], 4, 24, [.int .i64 0, .int .i64 0, .bool false, .int .u8 0]⟩ := by kernel_rfl
theorem lay8 : X.lay 8 = some ⟨.struct [(2, 0), (3, 1), (4, 2), (6, 3)], 4, 24, [.int .i64 0, .int .i64 0, .bool false, .int .u8 0]⟩ := by kernel_rfl
theorem lay9 : X.lay 9 = some ⟨.string, 1, 16, [.string ⟨#[]⟩]⟩ := by kernel_rfl
theorem lay10 : X.lay 10 = some ⟨.string, 1, 16, [.string ⟨#[]⟩]⟩ := by kernel_rfl
theorem lay11 : X.lay 11 = some ⟨.string, 1, 16, [.string ⟨#[]⟩]⟩ := by kernel_rfl
theorem lay12 : X.lay 12 = some ⟨.int .u64, 1, 8, [.int .u64 0]⟩ := by kernel_rfl
theorem lay13 : X.lay 13 = some ⟨.struct [(9, 0), (12, 1)], 2, 24, [.string ⟨#[]⟩, .int .u64 0]⟩ := by kernel_rfl
theorem lay14 : X.lay 14 = some ⟨.struct [(9, 0), (12, 1)], 2, 24, [.string ⟨#[]⟩, .int .u64 0]⟩ := by kernel_rfl
theorem lay15 : X.lay 15 = some ⟨.other, 1, 8, [.pointer none]⟩ := by kernel_rfl
theorem lay16 : X.lay 16 = some ⟨.other, 1, 8, [.pointer none]⟩ := by kernel_rfl
theorem lay17 : X.lay 17 = some ⟨.other, 1, 8, [.pointer none]⟩ := by kernel_rfl
theorem lay18 : X.lay 18 = some ⟨.struct [(17, 0)], 1, 8, [.pointer none]⟩ := by kernel_rfl
theorem lay19 : X.lay 19 = some ⟨.struct [(17, 0)], 1, 8, [.pointer none]⟩ := by kernel_rfl
theorem lay21 : X.lay 21 = some ⟨.int .i32, 1, 4, [.int .i32 0]⟩ := by kernel_rfl
theorem lay22 : X.lay 22 = some ⟨.struct [(2, 0), (2, 1), (2, 2)], 3, 24, [.int .i64 0, .int .i64 0, .int .i64 0]⟩ := by kernel_rfl
theorem lay23 : X.lay 23 = some ⟨.struct [(2, 0), (2, 1), (2, 2)], 3, 24, [.int .i64 0, .int .i64 0, .int .i64 0]⟩ := by kernel_rfl
theorem lay24 : X.lay 24 = some ⟨.other, 1, 8, [.nilFunc]⟩ := by kernel_rfl
theorem lay25 : X.lay 25 = some ⟨.struct [(2, 0), (2, 1), (2, 2)], 3, 24, [.int .i64 0, .int .i64 0, .int .i64 0]⟩ := by kernel_rfl
theorem lay26 : X.lay 26 = some ⟨.other, 1, 8, [.nilFunc]⟩ := by kernel_rfl
theorem lay27 : X.lay 27 = some ⟨.other, 1, 8, [.nilFunc]⟩ := by kernel_rfl
theorem lay29 : X.lay 29 = some ⟨.other, 1, 8, [.nilFunc]⟩ := by kernel_rfl
theorem lay30 : X.lay 30 = some ⟨.other, 1, 8, [.nilFunc]⟩ := by kernel_rfl
theorem lay31 : X.lay 31 = some ⟨.other, 1, 8, [.nilFunc]⟩ := by kernel_rfl
theorem lay32 : X.lay 32 = some ⟨.float .f32, 1, 4, [.float .f32 0]⟩ := by kernel_rfl
theorem lay33 : X.lay 33 = some ⟨.struct [(2, 0), (2, 1), (2, 2), (2, 3), (32, 4)], 5, 40, [.int .i64 0, .int .i64 0, .int .i64 0, .int .i64 0, .float .f32 0]⟩ := by kernel_rfl
theorem lay34 : X.lay 34 = some ⟨.struct [(2, 0), (2, 1), (2, 2), (2, 3), (32, 4)], 5, 40, [.int .i64 0, .int .i64 0, .int .i64 0, .int .i64 0, .float .f32 0]⟩ := by kernel_rfl
theorem lay35 : X.lay 35 = some ⟨.other, 1, 8, [.nilFunc]⟩ := by kernel_rfl
theorem lay36 : X.lay 36 = some ⟨.struct [(2, 0), (2, 1), (2, 2), (2, 3), (32, 4)], 5, 40, [.int .i64 0, .int .i64 0, .int .i64 0, .int .i64 0, .float .f32 0]⟩ := by kernel_rfl
theorem lay37 : X.lay 37 = some ⟨.other, 1, 8, [.nilFunc]⟩ := by kernel_rfl
theorem lay38 : X.lay 38 = some ⟨.other, 1, 8, [.nilFunc]⟩ := by kernel_rfl
theorem lay39 : X.lay 39 = some ⟨.slice 36, 1, 24, [.slice none 0 0]⟩ := by kernel_rfl
theorem lay41 : X.lay 41 = some ⟨.other, 1, 8, [.nilFunc]⟩ := by kernel_rfl
theorem lay42 : X.lay 42 = some ⟨.other, 1, 8, [.nilFunc]⟩ := by kernel_rfl
theorem lay43 : X.lay 43 = some ⟨.other, 1, 8, [.nilFunc]⟩ := by kernel_rfl
theorem lay44 : X.lay 44 = some ⟨.other, 1, 8, [.nilFunc]⟩ := by kernel_rfl
theorem lay45 : X.lay 45 = some ⟨.slice 9, 1, 24, [.slice none 0 0]⟩ := by kernel_rfl
theorem lay46 : X.lay 46 = some ⟨.slice 3, 1, 24, [.slice none 0 0]⟩ := by kernel_rfl
theorem lay48 : X.lay 48 = some ⟨.other, 1, 8, [.nilFunc]⟩ := by kernel_rfl
theorem lay49 : X.lay 49 = some ⟨.other, 1, 8, [.nilFunc]⟩ := by kernel_rfl
theorem lay50 : X.lay 50 = some ⟨.array 7 9, 7, 112, [.string ⟨#[]⟩, .string ⟨#[]⟩, .string ⟨#[]⟩, .string ⟨#[]⟩, .string ⟨#[]⟩, .string ⟨#[]⟩, .string ⟨#[]⟩]⟩ := by kernel_rfl
theorem lay51 : X.lay 51 = some ⟨.other, 1, 8, [.nilFunc]⟩ := by kernel_rfl
theorem lay53 : X.lay 53 = some ⟨.other, 1, 8, [.nilFunc]⟩ := by kernel_rfl
theorem lay54 : X.lay 54 = some ⟨.other, 1, 8, [.nilFunc]⟩ := by kernel_rfl
theorem lay55 : X.lay 55 = some ⟨.other, 1, 8, [.nilFunc]⟩ := by kernel_rfl
theorem lay56 : X.lay 56 = some ⟨.other, 1, 8, [.nilFunc]⟩ := by kernel_rfl
theorem lay57 : X.lay 57 = some ⟨.other, 1, 8, [.pointer none]⟩ := by kernel_rfl
theorem lay58 : X.lay 58 = some ⟨.slice 4, 1, 24, [.slice none 0 0]⟩ := by kernel_rfl
theorem lay60 : X.lay 60 = some ⟨.other, 1, 8, [.nilFunc]⟩ := by kernel_rfl
theorem lay61 : X.lay 61 = some ⟨.other, 1, 8, [.nilFunc]⟩ := by kernel_rfl
theorem lay62 : X.lay 62 = some ⟨.other, 1, 8, [.nilFunc]⟩ := by kernel_rfl
theorem lay63 : X.lay 63 = some ⟨.struct [(9, 0), (3, 1), (4, 2)], 3, 32, [.string ⟨#[]⟩, .int .i64 0, .bool false]⟩ := by kernel_rfl
theorem lay64 : X.lay 64 = some ⟨.struct [(9, 0), (3, 1), (4, 2)], 3, 32, [.string ⟨#[]⟩, .int .i64 0, .bool false]⟩ := by kernel_rfl
theorem lay65 : X.lay 65 = some ⟨.array 6 64, 18, 192, [.string ⟨#[]⟩, .int .i64 0, .bool false, .string ⟨#[]⟩, .int .i64 0, .bool false, .string ⟨#[]⟩, .int .i64 0, .bool false, .string ⟨#[]⟩, .int .i64 0, .bool false, .string ⟨#[]⟩, .int .i64 0, .bool false, .string ⟨#[]⟩, .int .i64 0, .bool false]⟩ := by kernel_rfl
theorem lay66 : X.lay 66 = some ⟨.array 3 2, 3, 24, [.int .i64 0, .int .i64 0, .int .i64 0]⟩ := by kernel_rfl
theorem lay68 : X.lay 68 = some ⟨.other, 1, 8, [.nilFunc]⟩ := by kernel_rfl
theorem lay69 : X.lay 69 = some ⟨.other, 1, 8, [.nilFunc]⟩ := by kernel_rfl
theorem lay70 : X.lay 70 = some ⟨.other, 1, 8, [.pointer none]⟩ := by kernel_rfl
theorem lay71 : X.lay 71 = some ⟨.slice 2, 1, 24, [.slice none 0 0]⟩ := by kernel_rfl
theorem lay72 : X.lay 72 = some ⟨.struct [(39, 0), (46, 1), (71, 2)], 3, 72, [.slice none 0 0, .slice none 0 0, .slice none 0 0]⟩ := by kernel_rfl
theorem lay73 : X.lay 73 = some ⟨.struct [(39, 0), (46, 1), (71, 2)], 3, 72, [.slice none 0 0, .slice none 0 0, .slice none 0 0]⟩ := by kernel_rfl
theorem lay75 : X.lay 75 = some ⟨.other, 1, 8, [.nilFunc]⟩ := by kernel_rfl
theorem lay76 : X.lay 76 = some ⟨.other, 1, 8, [.nilFunc]⟩ := by kernel_rfl
theorem lay77 : X.lay 77 = some ⟨.other, 1, 8, [.pointer none]⟩ := by kernel_rfl
theorem lay78 : X.lay 78 = some ⟨.slice 122, 1, 24, [.slice none 0 0]⟩ := by kernel_rfl
theorem lay79 : X.lay 79 = some ⟨.struct [(39, 0), (78, 1), (3, 2)], 3, 56, [.slice none 0 0, .slice none 0 0, .int .i64 0]⟩ := by kernel_rfl
theorem lay80 : X.lay 80 = some ⟨.struct [(39, 0), (78, 1), (3, 2)], 3, 56, [.slice none 0 0, .slice none 0 0, .int .i64 0]⟩ := by kernel_rfl
theorem lay81 : X.lay 81 = some ⟨.other, 1, 8, [.nilFunc]⟩ := by kernel_rfl
theorem lay82 : X.lay 82 = some ⟨.other, 1, 8, [.nilFunc]⟩ := by kernel_rfl
theorem lay83 : X.lay 83 = some ⟨.other, 1, 8, [.nilFunc]⟩ := by kernel_rfl
theorem lay84 : X.lay 84 = some ⟨.slice 5, 1, 24, [.slice none 0 0]⟩ := by kernel_rfl
theorem lay85 : X.lay 85 = some ⟨.other, 1, 8, [.nilFunc]⟩ := by kernel_rfl
theorem lay86 : X.lay 86 = some ⟨.other, 1, 8, [.nilFunc]⟩ := by kernel_rfl
theorem lay90 : X.lay 90 = some ⟨.other, 1, 8, [.nilFunc]⟩ := by kernel_rfl
theorem lay91 : X.lay 91 = some ⟨.other, 1, 8, [.nilFunc]⟩ := by kernel_rfl
theorem lay92 : X.lay 92 = some ⟨.int .u32, 1, 4, [.int .u32 0]⟩ := by kernel_rfl
theorem lay93 : X.lay 93 = some ⟨.other, 1, 8, [.nilFunc]⟩ := by kernel_rfl
theorem lay94 : X.lay 94 = some ⟨.float .f64, 1, 8, [.float .f64 0]⟩ := by kernel_rfl
theorem lay95 : X.lay 95 = some ⟨.other, 1, 8, [.nilFunc]⟩ := by kernel_rfl
theorem lay96 : X.lay 96 = some ⟨.other, 1, 8, [.nilFunc]⟩ := by kernel_rfl
theorem lay97 : X.lay 97 = some ⟨.other, 1, 8, [.pointer none]⟩ := by kernel_rfl
theorem lay98 : X.lay 98 = some ⟨.struct [(97, 0), (84, 1)], 2, 32, [.pointer none, .slice none 0 0]⟩ := by kernel_rfl
theorem lay99 : X.lay 99 = some ⟨.struct [(97, 0), (84, 1)], 2, 32, [.pointer none, .slice none 0 0]⟩ := by kernel_rfl
theorem lay100 : X.lay 100 = some ⟨.other, 1, 8, [.nilFunc]⟩ := by kernel_rfl
theorem lay102 : X.lay 102 = some ⟨.other, 1, 8, [.nilFunc]⟩ := by kernel_rfl
theorem lay103 : X.lay 103 = some ⟨.other, 1, 8, [.nilFunc]⟩ := by kernel_rfl
theorem lay104 : X.lay 104 = some ⟨.other, 1, 8, [.nilFunc]⟩ := by kernel_rfl
theorem lay106 : X.lay 106 = some ⟨.other, 1, 8, [.nilFunc]⟩ := by kernel_rfl
theorem lay107 : X.lay 107 = some ⟨.other, 1, 8, [.nilFunc]⟩ := by kernel_rfl
theorem lay108 : X.lay 108 = some ⟨.other, 1, 8, [.nilFunc]⟩ := by kernel_rfl
theorem lay109 : X.lay 109 = some ⟨.other, 1, 8, [.nilFunc]⟩ := by kernel_rfl
theorem lay110 : X.lay 110 = some ⟨.other, 1, 8, [.nilFunc]⟩ := by kernel_rfl
theorem lay111 : X.lay 111 = some ⟨.other, 1, 8, [.nilFunc]⟩ := by kernel_rfl
theorem lay112 : X.lay 112 = some ⟨.other, 1, 8, [.nilFunc]⟩ := by kernel_rfl
theorem lay113 : X.lay 113 = some ⟨.int .u64, 1, 8, [.int .u64 0]⟩ := by kernel_rfl
theorem lay114 : X.lay 114 = some ⟨.other, 1, 8, [.nilFunc]⟩ := by kernel_rfl
theorem lay115 : X.lay 115 = some ⟨.other, 1, 8, [.nilFunc]⟩ := by kernel_rfl
theorem lay116 : X.lay 116 = some ⟨.other, 1, 8, [.pointer none]⟩ := by kernel_rfl
theorem lay118 : X.lay 118 = some ⟨.other, 1, 8, [.nilFunc]⟩ := by kernel_rfl
theorem lay119 : X.lay 119 = some ⟨.other, 1, 8, [.nilFunc]⟩ := by kernel_rfl
theorem lay120 : X.lay 120 = some ⟨.other, 1, 8, [.nilFunc]⟩ := by kernel_rfl
theorem lay121 : X.lay 121 = some ⟨.struct [(3, 0), (2, 1)], 2, 16, [.int .i64 0, .int .i64 0]⟩ := by kernel_rfl
theorem lay122 : X.lay 122 = some ⟨.struct [(3, 0), (2, 1)], 2, 16, [.int .i64 0, .int .i64 0]⟩ := by kernel_rfl
theorem lay123 : X.lay 123 = some ⟨.other, 1, 8, [.nilFunc]⟩ := by kernel_rfl
theorem lay124 : X.lay 124 = some ⟨.slice 64, 1, 24, [.slice none 0 0]⟩ := by kernel_rfl
theorem lay125 : X.lay 125 = some ⟨.other, 1, 8, [.nilFunc]⟩ := by kernel_rfl
theorem lay126 : X.lay 126 = some ⟨.other, 1, 8, [.pointer none]⟩ := by kernel_rfl
theorem lay127 : X.lay 127 = some ⟨.array 3 126, 3, 24, [.pointer none, .pointer none, .pointer none]⟩ := by kernel_rfl
theorem lay128 : X.lay 128 = some ⟨.other, 1, 8, [.nilFunc]⟩ := by kernel_rfl
theorem lay129 : X.lay 129 = some ⟨.array 24 5, 24, 24, [.int .u8 0, .int .u8 0, .int .u8 0, .int .u8 0, .int .u8 0, .int .u8 0, .int .u8 0, .int .u8 0, .int .u8 0, .int .u8 0, .int .u8 0, .int .u8 0, .int .u8 0, .int .u8 0, .int .u8 0, .int .u8 0, .int .u8 0, .int .u8 0, .int .u8 0, .int .u8 0, .int .u8 0, .int .u8 0, .int .u8 0, .int .u8 0]⟩ := by kernel_rfl
theorem lay130 : X.lay 130 = some ⟨.other, 1, 8, [.nilFunc]⟩ := by kernel_rfl
theorem lay131 : X.lay 131 = some ⟨.other, 1, 8, [.nilFunc]⟩ := by kernel_rfl
theorem lay133 : X.lay 133 = some ⟨.other, 1, 8, [.nilFunc]⟩ := by kernel_rfl
theorem lay134 : X.lay 134 = some ⟨.other, 1, 8, [.nilFunc]⟩ := by kernel_rfl
theorem lay136 : X.lay 136 = some ⟨.other, 1, 8, [.nilFunc]⟩ := by kernel_rfl
theorem lay137 : X.lay 137 = some ⟨.other, 1, 8, [.nilFunc]⟩ := by kernel_rfl
theorem lay138 : X.lay 138 = some ⟨.int .i64, 1, 8, [.int .i64 0]⟩ := by kernel_rfl
theorem lay140 : X.lay 140 = some ⟨.other, 1, 8, [.nilFunc]⟩ := by kernel_rfl
theorem lay141 : X.lay 141 = some ⟨.int .u64, 1, 8, [.int .u64 0]⟩ := by kernel_rfl
theorem lay142 : X.lay 142 = some ⟨.other, 1, 8, [.pointer none]⟩ := by kernel_rfl
theorem lay143 : X.lay 143 = some ⟨.other, 1, 8, [.nilFunc]⟩ := by kernel_rfl
theorem lay144 : X.lay 144 = some ⟨.other, 1, 8, [.nilFunc]⟩ := by kernel_rfl
theorem lay145 : X.lay 145 = some ⟨.other, 1, 8, [.nilFunc]⟩ := by kernel_rfl
theorem lay147 : X.lay 147 = some ⟨.other, 1, 8, [.nilFunc]⟩ := by kernel_rfl
theorem lay148 : X.lay 148 = some ⟨.other, 1, 8, [.nilFunc]⟩ := by kernel_rfl
theorem lay150 : X.lay 150 = some ⟨.other, 1, 8, [.nilFunc]⟩ := by kernel_rfl
theorem lay151 : X.lay 151 = some ⟨.other, 1, 8, [.nilFunc]⟩ := by kernel_rfl
theorem lay152 : X.lay 152 = some ⟨.other, 1, 8, [.nilFunc]⟩ := by kernel_rfl
theorem lay154 : X.lay 154 = some ⟨.other, 1, 8, [.nilFunc]⟩ := by kernel_rfl
theorem lay155 : X.lay 155 = some ⟨.other, 1, 8, [.nilFunc]⟩ := by kernel_rfl
theorem lay156 : X.lay 156 = some ⟨.other, 1, 8, [.nilFunc]⟩ := by kernel_rfl
theorem lay157 : X.lay 157 = some ⟨.array 20 113, 20, 160, [.int .u64 0, .int .u64 0, .int .u64 0, .int .u64 0, .int .u64 0, .int .u64 0, .int .u64 0, .int .u64 0, .int .u64 0, .int .u64 0, .int .u64 0, .int .u64 0, .int .u64 0, .int .u64 0, .int .u64 0, .int .u64 0, .int .u64 0, .int .u64 0, .int .u64 0, .int .u64 0]⟩ := by kernel_rfl
theorem lay158 : X.lay 158 = some ⟨.array 65 5, 65, 65, [.int .u8 0, .int .u8 0, .int .u8 0, .int .u8 0, .int .u8 0, .int .u8 0, .int .u8 0, .int .u8 0, .int .u8 0, .int .u8 0, .int .u8 0, .int .u8 0, .int .u8 0, .int .u8 0, .int .u8 0, .int .u8 0, .int .u8 0, .int .u8 0, .int .u8 0, .int .u8 0, .int .u8 0, .int .u8 0, .int .u8 0, .int .u8 0, .int .u8 0, .int .u8 0, .int .u8 0, .int .u8 0, .int .u8 0, .int .u8 0, .int .u8 0, .int .u8 0, .int .u8 0, .int .u8 0, .int .u8 0, .int .u8 0, .int .u8 0, .int .u8 0, .int .u8 0, .int .u8 0, .int .u8 0, .int .u8 0, .int .u8 0, .int .u8 0, .int .u8 0, .int .u8 0, .int .u8 0, .int .u8 0, .int .u8 0, .int .u8 0, .int .u8 0, .int .u8 0, .int .u8 0, .int .u8 0, .int .u8 0, .int .u8 0, .int .u8 0, .int .u8 0, .int .u8 0, .int .u8 0, .int .u8 0, .int .u8 0, .int .u8 0, .int .u8 0, .int .u8 0]⟩ := by kernel_rfl
theorem lay159 : X.lay 159 = some ⟨.other, 1, 8, [.nilFunc]⟩ := by kernel_rfl
theorem lay160 : X.lay 160 = some ⟨.other, 1, 8, [.nilFunc]⟩ := by kernel_rfl
theorem lay161 : X.lay 161 = some ⟨.other, 1, 8, [.nilFunc]⟩ := by kernel_rfl
theorem lay162 : X.lay 162 = some ⟨.other, 1, 8, [.nilFunc]⟩ := by kernel_rfl
theorem lay165 : X.lay 165 = some ⟨.other, 1, 8, [.nilFunc]⟩ := by kernel_rfl
theorem lay166 : X.lay 166 = some ⟨.other, 1, 8, [.nilFunc]⟩ := by kernel_rfl
theorem lay167 : X.lay 167 = some ⟨.array 256 5, 256, 256, [.int .u8 0, .int .u8 0, .int .u8 0, .int .u8 0, .int .u8 0, .int .u8 0, .int .u8 0, .int .u8 0, .int .u8 0, .int .u8 0, .int .u8 0, .int .u8 0, .int .u8 0, .int .u8 0, .int .u8 0, .int .u8 0, .int .u8 0, .int .u8 0, .int .u8 0, .int .u8 0, .int .u8 0, .int .u8 0, .int .u8 0, .int .u8 0, .int .u8 0, .int .u8 0, .int .u8 0, .int .u8 0, .int .u8 0, .int .u8 0, .int .u8 0, .int .u8 0, .int .u8 0, .int .u8 0, .int .u8 0, .int .u8 0, .int .u8 0, .int .u8 0, .int .u8 0, .int .u8 0, .int .u8 0, .int .u8 0, .int .u8 0, .int .u8 0, .int .u8 0, .int .u8 0, .int .u8 0, .int .u8 0, .int .u8 0, .int .u8 0, .int .u8 0, .int .u8 0, .int .u8 0, .int .u8 0, .int .u8 0, .int .u8 0, .int .u8 0, .int .u8 0, .int .u8 0, .int .u8 0, .int .u8 0, .int .u8 0, .int .u8 0, .int .u8 0, .int .u8 0, .int .u8 0, .int .u8 0, .int .u8 0, .int .u8 0, .int .u8 0, .int .u8 0, .int .u8 0, .int .u8 0, .int .u8 0, .int .u8 0, .int .u8 0, .int .u8 0, .int .u8 0, .int .u8 0, .int .u8 0, .int .u8 0, .int .u8 0, .int .u8 0, .int .u8 0, .int .u8 0, .int .u8 0, .int .u8 0, .int .u8 0, .int .u8 0, .int .u8 0, .int .u8 0, .int .u8 0, .int .u8 0, .int .u8 0, .int .u8 0, .int .u8 0, .int .u8 0, .int .u8 0, .int .u8 0, .int .u8 0, .int .u8 0, .int .u8 0, .int .u8 0, .int .u8 0, .int .u8 0, .int .u8 0, .int .u8 0, .int .u8 0, .int .u8 0, .int .u8 0, .int .u8 0, .int .u8 0, .int .u8 0, .int .u8 0, .int .u8 0, .int .u8 0, .int .u8 0, .int .u8 0, .int .u8 0, .int .u8 0, .int .u8 0, .int .u8 0, .int .u8 0, .int .u8 0, .int .u8 0, .int .u8 0, .int .u8 0, .int .u8 0, .int .u8 0, .int .u8 0, .int .u8 0, .int .u8 0, .int .u8 0, .int .u8 0, .int .u8 0, .int .u8 0, .int .u8 0, .int .u8 0, .int .u8 0, .int .u8 0, .int .u8 0, .int .u8 0, .int .u8 0, .int .u8 0, .int .u8 0, .int .u8 0, .int .u8 0, .int .u8 0, .int .u8 0, .int .u8 0, .int .u8 0, .int .u8 0, .int .u8 0, .int .u8 0, .int .u8 0, .int .u8 0, .int .u8 0, .int .u8 0, .int .u8 0, .int .u8 0, .int .u8 0, .int .u8 0, .int .u8 0, .int .u8 0, .int .u8 0, .int .u8 0, .int .u8 0, .int .u8 0, .int .u8 0, .int .u8 0, .int .u8 0, .int .u8 0, .int .u8 0, .int .u8 0, .int .u8 0, .int .u8 0, .int .u8 0, .int .u8 0, .int .u8 0, .int .u8 0, .int .u8 0, .int .u8 0, .int .u8 0, .int .u8 0, .int .u8 0, .int .u8 0, .int .u8 0, .int .u8 0, .int .u8 0, .int .u8 0, .int .u8 0, .int .u8 0, .int .u8 0, .int .u8 0, .int .u8 0, .int .u8 0, .int .u8 0, .int .u8 0, .int .u8 0, .int .u8 0, .int .u8 0, .int .u8 0, .int .u8 0, .int .u8 0, .int .u8 0, .int .u8 0, .int .u8 0, .int .u8 0, .int .u8 0, .int .u8 0, .int .u8 0, .int .u8 0, .int .u8 0, .int .u8 0, .int .u8 0, .int .u8 0, .int .u8 0, .int .u8 0, .int .u8 0, .int .u8 0, .int .u8 0, .int .u8 0, .int .u8 0, .int .u8 0, .int .u8 0, .int .u8 0, .int .u8 0, .int .u8 0, .int .u8 0, .int .u8 0, .int .u8 0, .int .u8 0, .int .u8 0, .int .u8 0, .int .u8 0, .int .u8 0, .int .u8 0, .int .u8 0, .int .u8 0, .int .u8 0, .int .u8 0, .int .u8 0, .int .u8 0, .int .u8 0, .int .u8 0, .int .u8 0, .int .u8 0, .int .u8 0, .int .u8 0, .int .u8 0, .int .u8 0, .int .u8 0, .int .u8 0, .int .u8 0, .int .u8 0, .int .u8 0]⟩ := by kernel_rfl
theorem lay168 : X.lay 168 = some ⟨.struct [(5, 0), (5, 1)], 2, 2, [.int .u8 0, .int .u8 0]⟩ := by kernel_rfl
theorem lay169 : X.lay 169 = some ⟨.struct [(5, 0), (5, 1)], 2, 2, [.int .u8 0, .int .u8 0]⟩ := by kernel_rfl
theorem lay170 : X.lay 170 = some ⟨.array 16 169, 32, 32, [.int .u8 0, .int .u8 0, .int .u8 0, .int .u8 0, .int .u8 0, .int .u8 0, .int .u8 0, .int .u8 0, .int .u8 0, .int .u8 0, .int .u8 0, .int .u8 0, .int .u8 0, .int .u8 0, .int .u8 0, .int .u8 0, .int .u8 0, .int .u8 0, .int .u8 0, .int .u8 0, .int .u8 0, .int .u8 0, .int .u8 0, .int .u8 0, .int .u8 0, .int .u8 0, .int .u8 0, .int .u8 0, .int .u8 0, .int .u8 0, .int .u8 0, .int .u8 0]⟩ := by kernel_rfl
theorem lay172 : X.lay 172 = some ⟨.other, 1, 8, [.nilFunc]⟩ := by kernel_rfl
theorem lay173 : X.lay 173 = some ⟨.other, 1, 8, [.pointer none]⟩ := by kernel_rfl
theorem lay174 : X.lay 174 = some ⟨.struct [(9, 0)], 1, 16, [.string ⟨#[]⟩]⟩ := by kernel_rfl
theorem lay175 : X.lay 175 = some ⟨.struct [(9, 0)], 1, 16, [.string ⟨#[]⟩]⟩ := by kernel_rfl
theorem lay176 : X.lay 176 = some ⟨.other, 1, 8, [.nilFunc]⟩ := by kernel_rfl
theorem lay177 : X.lay 177 = some ⟨.array 32 5, 32, 32, [.int .u8 0, .int .u8 0, .int .u8 0, .int .u8 0, .int .u8 0, .int .u8 0, .int .u8 0, .int .u8 0, .int .u8 0, .int .u8 0, .int .u8 0, .int .u8 0, .int .u8 0, .int .u8 0, .int .u8 0, .int .u8 0, .int .u8 0, .int .u8 0, .int .u8 0, .int .u8 0, .int .u8 0, .int .u8 0, .int .u8 0, .int .u8 0, .int .u8 0, .int .u8 0, .int .u8 0, .int .u8 0, .int .u8 0, .int .u8 0, .int .u8 0, .int .u8 0]⟩ := by kernel_rfl
theorem lay178 : X.lay 178 = some ⟨.array 64 5, 64, 64, [.int .u8 0, .int .u8 0, .int .u8 0, .int .u8 0, .int .u8 0, .int .u8 0, .int .u8 0, .int .u8 0, .int .u8 0, .int .u8 0, .int .u8 0, .int .u8 0, .int .u8 0, .int .u8 0, .int .u8 0, .int .u8 0, .int .u8 0, .int .u8 0, .int .u8 0, .int .u8 0, .int .u8 0, .int .u8 0, .int .u8 0, .int .u8 0, .int .u8 0, .int .u8 0, .int .u8 0, .int .u8 0, .int .u8 0, .int .u8 0, .int .u8 0, .int .u8 0, .int .u8 0, .int .u8 0, .int .u8 0, .int .u8 0, .int .u8 0, .int .u8 0, .int .u8 0, .int .u8 0, .int .u8 0, .int .u8 0, .int .u8 0, .int .u8 0, .int .u8 0, .int .u8 0, .int .u8 0, .int .u8 0, .int .u8 0, .int .u8 0, .int .u8 0, .int .u8 0, .int .u8 0, .int .u8 0, .int .u8 0, .int .u8 0, .int .u8 0, .int .u8 0, .int .u8 0, .int .u8 0, .int .u8 0, .int .u8 0, .int .u8 0, .int .u8 0]⟩ := by kernel_rfl
theorem lay179 : X.lay 179 = some ⟨.struct [(17, 0), (17, 1), (17, 2), (9, 3)], 4, 40, [.pointer none, .pointer none, .pointer none, .string ⟨#[]⟩]⟩ := by kernel_rfl
theorem lay180 : X.lay 180 = some ⟨.struct [(17, 0), (17, 1), (17, 2), (9, 3)], 4, 40, [.pointer none, .pointer none, .pointer none, .string ⟨#[]⟩]⟩ := by kernel_rfl
theorem lay181 : X.lay 181 = some ⟨.array 0 16, 0, 0, []⟩ := by kernel_rfl
theorem lay184 : X.lay 184 = some ⟨.other, 1, 8, [.nilFunc]⟩ := by kernel_rfl
theorem lay185 : X.lay 185 = some ⟨.int .u8, 1, 1, [.int .u8 0]⟩ := by kernel_rfl
theorem lay186 : X.lay 186 = some ⟨.int .u8, 1, 1, [.int .u8 0]⟩ := by kernel_rfl
theorem lay187 : X.lay 187 = some ⟨.other, 1, 8, [.nilFunc]⟩ := by kernel_rfl
theorem lay188 : X.lay 188 = some ⟨.int .i32, 1, 4, [.int .i32 0]⟩ := by kernel_rfl
theorem lay189 : X.lay 189 = some ⟨.int .i32, 1, 4, [.int .i32 0]⟩ := by kernel_rfl
theorem lay190 : X.lay 190 = some ⟨.struct [(12, 0), (12, 1), (92, 2), (185, 3), (5, 4), (5, 5), (186, 6), (187, 7), (116, 8), (188, 9), (189, 10)], 11, 48, [.int .u64 0, .int .u64 0, .int .u32 0, .int .u8 0, .int .u8 0, .int .u8 0, .int .u8 0, .nilFunc, .pointer none, .int .i32 0, .int .i32 0]⟩ := by kernel_rfl
theorem lay191 : X.lay 191 = some ⟨.struct [(12, 0), (12, 1), (92, 2), (185, 3), (5, 4), (5, 5), (186, 6), (187, 7), (116, 8), (188, 9), (189, 10)], 11, 48, [.int .u64 0, .int .u64 0, .int .u32 0, .int .u8 0, .int .u8 0, .int .u8 0, .int .u8 0, .nilFunc, .pointer none, .int .i32 0, .int .i32 0]⟩ := by kernel_rfl
end Go.VL
