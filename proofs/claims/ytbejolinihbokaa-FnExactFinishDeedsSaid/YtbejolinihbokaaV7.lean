/- Operations that write, on data; and that the model comes to the same. Over any program. -/
import Derived.Test.YtbejolinihbokaaV6
namespace Go.VL
open Go.RowKit

theorem Row.set {w : World} {b : Nat} {arr arr' : Array Value} {t : TypeId} (h : Row w b arr t) (hs : arr'.size = arr.size) : Row (w.setRow b arr') b arr' t := by
  obtain ⟨fz, h1, h2⟩ := h
  exact ⟨fz, setRow_heap w b arr arr' t fz h1, h2.imp (fun h => h) (fun h => by rw [hs]; exact h)⟩
theorem run_storeCells_row (P : Program) (g o : Nat) (t : TypeId) : ∀ (vs : List Value) (i : Nat) (cur : Array Value) (w : World), Row w g cur t → o + i + vs.length ≤ cur.size → (∀ v ∈ vs, v.oneCell' = true) →
    (storeCells ⟨g, o, none⟩ vs i).run P w = .ok () (w.setRow g (cur.toList.take (o + i) ++ vs ++ cur.toList.drop (o + i + vs.length)).toArray)
  | [], i, cur, w, hr, _, _ => by
    obtain ⟨fz, hg, -⟩ := hr
    simp only [storeCells, List.append_nil, List.length_nil, Nat.add_zero, List.take_append_drop, Array.toArray_toList]
    rw [setRow_self w g cur t fz hg]
    rfl
  | v :: rest, i, cur, w, hr, hl, h1 => by
    have hr' := hr
    obtain ⟨fz, hg, hfz⟩ := hr
    have hi : o + i < cur.size := by simp at hl; omega
    have hadd : (⟨g, o, none⟩ : Addr).add i = ⟨g, o + i, none⟩ := by unfold Addr.add; split <;> simp_all
    have hcell : w.cell? ⟨g, o + i, none⟩ = some cur[o + i] := by simp [World.cell?, hg, hi]
    have hfro : w.frozen? ⟨g, o + i, none⟩ = false := by
      obtain ⟨lo, hi'⟩ := fz
      simp only [World.frozen?, hg, Bool.and_eq_false_iff, decide_eq_false_iff_not]
      rcases hfz with hfz | hfz
      · simp only [Prod.mk.injEq] at hfz
        right; omega
      · have hfz1 := hfz.1
        simp only at hfz1
        left; omega
    have hst : (store ((⟨g, o, none⟩ : Addr).add i) v).run P w = .ok () (w.setRow g (cur.setIfInBounds (o + i) v)) := by
      rw [hadd, run_store P w _ v _ (h1 v (by simp)), hcell]
      simp [hfro, setCell_eq_setRow w g (o + i) cur t fz v hg]
    have ih := run_storeCells_row P g o t rest (i + 1) (cur.setIfInBounds (o + i) v) (w.setRow g (cur.setIfInBounds (o + i) v)) (hr'.set (by simp)) (by simp at hl ⊢; omega) (fun x hx => h1 x (by simp [hx]))
    simp only [storeCells, Sem.run_bind, hst, Result.andThen_ok, ih, setRow_setRow]
    congr 3
    have e := list_seg_step cur.toList (o + i) v rest (by simp at hl ⊢; omega)
    simpa [Array.toList_setIfInBounds, Nat.add_assoc] using e

/-- What an operation that writes comes to: its value, the objects, and what must hold. -/
structure Eff where
  v : V
  H : List Ob
  φ : Prop

def setCells (cs : List C) (off : Nat) (new : List C) : List C := cs.take off ++ new ++ cs.drop (off + new.length)

def zeros (L : Lay) : Nat → List C
  | 0 => []
  | n + 1 => L.zero.map cOf ++ zeros L n

/-- The cells of a slice that is read. -/
def srcOf (H : List Ob) : V → Option (Nat × Nat × List C)
  | .c (.sl o n k cs) => some (n, k, reowns o cs)
  | .c (.mu id off n k) => match H[id]? with
    | some o => if o.live = true ∧ off + n * k ≤ o.cs.length then some (n, k, sub o.cs off (n * k)) else none
    | none => none
  | _ => none

def eve (lay : TypeId → Option Lay) (H : List Ob) (ρ : Operand → V) : Op → Option Eff
  | .box t x => match lay t, (ρ x).cells with
    | some _, some cs => some ⟨.c (.pt H.length 0), H ++ [⟨cs, t, true⟩], True⟩
    | _, _ => none
  | .alloc t => match lay t with
    | some L => some ⟨.c (.pt H.length 0), H ++ [⟨L.zero.map cOf, t, true⟩], True⟩
    | none => none
  | .store t a x => match lay t, ρ a, (ρ x).cells with
    | some L, .c (.pt id off), some cs => match H[id]? with
      | some o => if o.live = true ∧ cs.length = L.size ∧ off + L.size ≤ o.cs.length then some ⟨.any, H.set id { o with cs := setCells o.cs off cs }, True⟩ else none
      | none => none
    | _, _, _ => none
  | .buildSlice t n parts => match lay t with
    | some ⟨.slice e, _, _, _⟩ => match lay e with
      | some L => match fillC (fun i => some (i * L.size, L.size)) (zeros L n) (parts.toList.map fun p => (p.1, ρ p.2)) with
        | some cs => if 0 < L.size ∧ n * L.size ≤ 2 ^ 24 then some ⟨.c (.mu H.length 0 n L.size), H ++ [⟨cs, e, true⟩], True⟩ else none
        | none => none
      | none => none
    | _ => none
  | .makeSlice t l c => match lay t, ρ l, ρ c with
    | some ⟨.slice e, _, _, _⟩, .c (.v (.int _ n)), .c (.v (.int _ n')) => match lay e with
      | some L => if n = n' then some ⟨.c (.mu H.length 0 n.toNat L.size), H ++ [⟨zeros L n.toNat, e, true⟩], 0 < L.size ∧ 0 ≤ n ∧ n ≤ maxLen ∧ L.bytes * n ≤ 140737488355328⟩ else none
      | none => none
    | _, _, _ => none
  | .call { callee := .builtin .append, args, argTypes } => match args.toList, argTypes.toList with
    | [s, x], [t, t'] => if t = t' then match lay t with
      | some ⟨.slice e, _, _, _⟩ => match lay e, srcOf H (ρ x) with
        | some L, some (n, k, cs) => match ρ s with
          | .c (.v (.slice none 0 0)) => some ⟨.c (.mu H.length 0 n k), H ++ [⟨cs, e, true⟩], L.size = k ∧ 0 < k ∧ n ≤ maxLen ∧ n * L.bytes ≤ 140737488355328⟩
          | .c (.mu id off n0 k0) => match H[id]? with
            | some o => some ⟨.c (.mu H.length 0 (n0 + n) k), H.set id { o with live := false } ++ [⟨sub o.cs off (n0 * k) ++ cs, e, true⟩],
                L.size = k ∧ k0 = k ∧ 0 < k ∧ o.live = true ∧ o.t = e ∧ off + n0 * k ≤ o.cs.length ∧ n0 + n ≤ maxLen ∧ (n0 + n) * L.bytes ≤ 140737488355328⟩
            | none => none
          | _ => none
        | _, _ => none
      | _ => none
      else none
    | _, _ => none
  | .call { callee := .builtin .copy, args, argTypes } => match args.toList, argTypes.toList with
    | [s, x], [t, _] => match lay t with
      | some ⟨.slice e, _, _, _⟩ => match lay e, srcOf H (ρ x) with
        | some L, some (n, k, cs) => match ρ s with
          | .c (.mu id off n0 k0) => match H[id]? with
            | some o => some ⟨.c (.v (.int .i64 (Nat.min n n0 : Nat))), H.set id { o with cs := setCells o.cs off (cs.take (Nat.min n n0 * k)) }, L.size = k ∧ k0 = k ∧ o.live = true ∧ off + n0 * k ≤ o.cs.length⟩
            | none => none
          | _ => none
        | _, _ => none
      | _ => none
    | _, _ => none
  | _ => none

section
variable {X : Cx} {m : Mem} {H : List Ob} {ε : Operand → Value} {ρ : Operand → V} {o : Oper} {f : Eff}

def GoodE (X : Cx) (m : Mem) (ε : Operand → Value) (o : Oper) (v : V) (H' : List Ob) : Prop :=
  ∃ (n : Next) (m' : Mem), (execOp ε o).run X.P m.w = .ok n m'.w ∧ Sim X.G m' H' ∧ Ext m m' ∧ ((∃ u, n = .value u ∧ RV m' v u) ∨ (n = .skip ∧ v = .any))

theorem cells_rel {v : V} {cs : List C} {u : Value} (hc : v.cells = some cs) (hr : RV m v u) : u.cells.size = cs.length ∧ ∀ (j : Nat) (c : C), cs[j]? = some c → ∃ x, u.cells[j]? = some x ∧ R m c x := by
  cases v with
  | c x =>
    simp only [V.cells, Option.some.injEq] at hc
    subst hc
    have hx := hr.cell
    have hp := hx.plain
    have hcells : u.cells = #[u] := by cases u <;> simp [plain] at hp <;> rfl
    rw [hcells]
    refine ⟨rfl, fun j c hj => ?_⟩
    cases j with
    | zero => simp at hj; subst hj; exact ⟨u, rfl, hx⟩
    | succ j => simp at hj
  | agg cs' =>
    simp only [V.cells, Option.some.injEq] at hc
    subst hc
    obtain ⟨arr, rfl, h1, h2⟩ := hr.aggI
    exact ⟨h1, h2⟩
  | tup vs => simp [V.cells] at hc
  | any => simp [V.cells] at hc

theorem oneCell_of_plain {u : Value} (h : plain u = true) : u.oneCell' = true := by cases u <;> simp [plain] at h <;> rfl

theorem good_new (hS : Sim X.G m H) {arr : Array Value} {t : TypeId} {cs : List C} (hl : cs.length ≤ arr.size) (hr : ∀ (j : Nat) (c : C), cs[j]? = some c → ∃ u, arr[j]? = some u ∧ R m c u)
    (hx : (execOp ε o).run X.P m.w = .ok (.value (.pointer (some ⟨m.w.heap.size, 0, none⟩))) { m.w with heap := m.w.heap.push (.cells arr t) }) :
    GoodE X m ε o (.c (.pt H.length 0)) (H ++ [⟨cs, t, true⟩]) := by
  obtain ⟨h1, h2⟩ := hS.new (w' := { m.w with heap := m.w.heap.push (.cells arr t) }) (arr := arr) (t := t) (cs := cs) rfl rfl rfl rfl hl hr
  refine ⟨_, _, hx, h1, h2, .inl ⟨_, rfl, .c ?_⟩⟩
  have := R.pt (m := { m with w := { m.w with heap := m.w.heap.push (.cells arr t) }, N := m.N + 1, μ := μadd m.μ m.N ⟨m.w.heap.size, 0, arr.size, false⟩ }) (id := m.N) (off := 0) (Nat.lt_succ_self _) (by simp [μadd_new])
  rw [← hS.N]
  simpa [μadd_new] using this

theorem good_box (hS : Sim X.G m H) {t : TypeId} {x : Operand} (ho : o.op = .box t x) {cs : List C} (hc : (ρ x).cells = some cs) (hr : RV m (ρ x) (ε x)) : GoodE X m ε o (.c (.pt H.length 0)) (H ++ [⟨cs, t, true⟩]) := by
  obtain ⟨h1, h2⟩ := cells_rel hc hr
  refine good_new hS (arr := (ε x).cells) (by omega) h2 ?_
  simp [execOp, ho, Instr.box, newVar, newRow, newObj, Sem.run]

theorem good_alloc (hS : Sim X.G m H) {t : TypeId} (ho : o.op = .alloc t) {L : Lay} (hL : X.lay t = some L) (hp : (L.zero.all plain) = true) : GoodE X m ε o (.c (.pt H.length 0)) (H ++ [⟨L.zero.map cOf, t, true⟩]) := by
  obtain ⟨-, -, i, z, h1, h2, h3, h4, h5, h6⟩ := X.ok t L hL
  refine good_new hS (arr := z.cells) (cs := L.zero.map cOf) (by rw [← h5]; simp) (fun j c hj => ?_) ?_
  · obtain ⟨u, hu, hr⟩ := zero_rel (m := m) L.zero (fun u hu => List.all_eq_true.1 hp u hu) j c hj
    rw [← h5] at hu
    exact ⟨u, by simpa using hu, hr⟩
  · simp [execOp, ho, Instr.alloc, zeroValue, typeInfo, h1, h4, newVar, newRow, newObj, Sem.run]

/-- A variable's cells are written. -/
theorem good_store (hS : Sim X.G m H) {t : TypeId} {a x : Operand} (ho : o.op = .store t a x) {L : Lay} (hL : X.lay t = some L) {id off : Nat} (ha : RV m (.c (.pt id off)) (ε a)) {cs : List C} (hc : (ρ x).cells = some cs)
    (hr : RV m (ρ x) (ε x)) {ob : Ob} (hob : H[id]? = some ob) (hlive : ob.live = true) (hl : cs.length = L.size) (hoff : off + L.size ≤ ob.cs.length) :
    GoodE X m ε o .any (H.set id { ob with cs := setCells ob.cs off cs }) := by
  obtain ⟨i, hi, his⟩ := size_ok hL
  obtain ⟨hae, hid, hgh⟩ := ha.ptI
  obtain ⟨h1, h2⟩ := cells_rel hc hr
  obtain ⟨arr, o1, o2, o3, o4, o5, o6⟩ := hS.ob id ob hob hlive hgh
  have hp : ∀ v ∈ (ε x).cells.toList, v.oneCell' = true := fun v hv => by
    obtain ⟨j, hj⟩ := List.mem_iff_getElem?.1 hv
    have hjl : j < cs.length := by rw [← h1]; have := (List.getElem?_eq_some_iff.1 hj).1; simpa using this
    obtain ⟨u, hu, hr'⟩ := h2 j _ (List.getElem?_eq_getElem hjl)
    have : u = v := by
      have h3 : (ε x).cells.toList[j]? = some u := by simpa using hu
      rw [hj] at h3; exact (Option.some.inj h3).symm
    rw [← this]
    exact oneCell_of_plain hr'.plain
  have hst := run_storeCells_row X.P (m.μ id).block ((m.μ id).base + off) ob.t (ε x).cells.toList 0 arr m.w o1 (by simp only [Array.length_toList]; omega) hp
  simp only [Nat.add_zero, Array.length_toList, h1] at hst
  generalize harr : (arr.toList.take ((m.μ id).base + off) ++ (ε x).cells.toList ++ arr.toList.drop ((m.μ id).base + off + cs.length)).toArray = arr' at hst
  have hasz : arr'.size = arr.size := by rw [← harr]; simp [h1]; omega
  obtain ⟨s1, s2⟩ := hS.put (arr' := arr') (w' := m.w.setRow (m.μ id).block arr') (cs' := setCells ob.cs off cs) hob hlive hgh (o1.set hasz) (by omega)
    (fun b hb => setRow_other m.w _ b arr' hb) (setRow_size m.w _ arr') rfl rfl rfl (by simp [setCells]; omega) (fun j c hj => by
      unfold setCells at hj
      rw [← harr]
      by_cases hj1 : j < off
      · rw [List.append_assoc, List.getElem?_append_left (by simp; omega), List.getElem?_take_of_lt hj1] at hj
        obtain ⟨u, hu, hr'⟩ := o4 j c hj
        refine ⟨u, ?_, hr'⟩
        simp only [List.getElem?_toArray]
        rw [List.append_assoc, List.getElem?_append_left (by simp; omega), List.getElem?_take_of_lt (by omega)]
        simpa using hu
      · by_cases hj2 : j < off + cs.length
        · rw [List.getElem?_append_left (by simp; omega), List.getElem?_append_right (by simp; omega)] at hj
          have : j - (ob.cs.take off).length = j - off := by simp; omega
          rw [this] at hj
          obtain ⟨u, hu, hr'⟩ := h2 _ c hj
          refine ⟨u, ?_, hr'⟩
          simp only [List.getElem?_toArray]
          rw [List.getElem?_append_left (by simp [h1]; omega), List.getElem?_append_right (by simp; omega)]
          have : (m.μ id).base + j - (arr.toList.take ((m.μ id).base + off)).length = j - off := by simp; omega
          rw [this]
          simpa using hu
        · rw [List.getElem?_append_right (by simp; omega)] at hj
          have : j - (ob.cs.take off ++ cs).length = j - (off + cs.length) := by simp; omega
          rw [this, List.getElem?_drop] at hj
          have : off + cs.length + (j - (off + cs.length)) = j := by omega
          rw [this] at hj
          obtain ⟨u, hu, hr'⟩ := o4 j c hj
          refine ⟨u, ?_, hr'⟩
          simp only [List.getElem?_toArray]
          rw [List.getElem?_append_right (by simp [h1]; omega)]
          have : (m.μ id).base + j - (arr.toList.take ((m.μ id).base + off) ++ (ε x).cells.toList).length = j - (off + cs.length) := by simp [h1]; omega
          rw [this, List.getElem?_drop]
          have : (m.μ id).base + off + cs.length + (j - (off + cs.length)) = (m.μ id).base + j := by omega
          rw [this]
          simpa using hu)
  refine ⟨.skip, _, ?_, s1, s2, .inr ⟨rfl, rfl⟩⟩
  simp [execOp, ho, hae, Instr.storeAt, Instr.sureAddr, storeVar, sizeOf, typeInfo, hi, his, h1, hl]
  rw [hst]
  rfl

theorem zeros_get {L : Lay} {s : Nat} (hs : L.zero.length = s) (h0 : 0 < s) : ∀ {n j : Nat} {c : C}, (zeros L n)[j]? = some c → j < n * s ∧ (L.zero.map cOf)[j % s]? = some c
  | 0, j, c, h => by simp [zeros] at h
  | n + 1, j, c, h => by
    simp only [zeros] at h
    by_cases hj : j < s
    · rw [List.getElem?_append_left (by simpa [hs] using hj)] at h
      rw [Nat.mod_eq_of_lt hj]
      exact ⟨by rw [Nat.add_mul]; omega, h⟩
    · rw [List.getElem?_append_right (by simp [hs]; omega)] at h
      have hl : j - (L.zero.map cOf).length = j - s := by simp [hs]
      rw [hl] at h
      obtain ⟨h1, h2⟩ := zeros_get hs h0 h
      refine ⟨by rw [Nat.add_mul]; omega, ?_⟩
      have : j % s = (j - s) % s := by rw [Nat.mod_eq_sub_mod (by omega)]
      rw [this]; exact h2
theorem zeros_length {L : Lay} {s : Nat} (hs : L.zero.length = s) : ∀ n, (zeros L n).length = n * s
  | 0 => by simp [zeros]
  | n + 1 => by simp [zeros, zeros_length hs n, hs, Nat.add_mul]; omega

/-- A new row: a slice over it. -/
theorem good_newRow (hS : Sim X.G m H) {arr : Array Value} {t : TypeId} {cs : List C} {n k cap : Nat} {w' : World} (hh : w'.heap = m.w.heap.push (.cells arr t (0, 0))) (h2 : w'.os = m.w.os) (h3 : w'.tape = m.w.tape) (h4 : w'.output = m.w.output)
    (hl : cs.length ≤ arr.size) (hr : ∀ (j : Nat) (c : C), cs[j]? = some c → ∃ u, arr[j]? = some u ∧ R m c u) (hn : n ≤ cap) (hc : cap * k ≤ arr.size) (hm : cap ≤ maxLen)
    (hx : (execOp ε o).run X.P m.w = .ok (.value (.slice (some ⟨m.w.heap.size, 0, none⟩) n cap)) w') :
    GoodE X m ε o (.c (.mu H.length 0 n k)) (H ++ [⟨cs, t, true⟩]) := by
  obtain ⟨h1, h2⟩ := hS.new (w' := w') (arr := arr) (t := t) (cs := cs) hh h2 h3 h4 hl hr
  refine ⟨_, _, hx, h1, h2, .inl ⟨_, rfl, .c ?_⟩⟩
  have := R.mu (m := { m with w := w', N := m.N + 1, μ := μadd m.μ m.N ⟨m.w.heap.size, 0, arr.size, false⟩ }) (id := m.N) (off := 0) (n := n) (k := k) (cap := cap) (Nat.lt_succ_self _) (by simp [μadd_new]) hn (by simp [μadd_new]; exact hc) hm
  rw [← hS.N]
  simpa [μadd_new] using this

theorem made_get {z : Array Value} {L : Lay} (hz : z.toList = L.zero) (hp : (L.zero.all plain) = true) (h0 : 0 < z.size) {n j : Nat} {c : C} (h : (zeros L n)[j]? = some c) :
    ∃ u, ((Array.range (n * z.size)).map (z[· % z.size]!))[j]? = some u ∧ R m c u := by
  have hs : L.zero.length = z.size := by rw [← hz]; simp
  obtain ⟨h1, h2⟩ := zeros_get hs h0 h
  obtain ⟨u, hu, hr⟩ := zero_rel (m := m) L.zero (fun u hu => List.all_eq_true.1 hp u hu) _ c h2
  refine ⟨u, ?_, hr⟩
  rw [← hz] at hu
  have hlt : j % z.size < z.size := Nat.mod_lt _ h0
  have hu' : z[j % z.size]? = some u := by simpa using hu
  simp [h1, getElem!_def, hu']

theorem good_makeSlice (hS : Sim X.G m H) {t e : TypeId} {l c : Operand} (ho : o.op = .makeSlice t l c) (ht : X.P.underlying t = some (.slice e)) {L : Lay} (hL : X.lay e = some L) (hp : (L.zero.all plain) = true) {kl kc : IntKind} {n : Int}
    (hl : ε l = .int kl n) (hc : ε c = .int kc n) (h0 : 0 < L.size) (h1 : 0 ≤ n) (h2 : n ≤ maxLen) (h3 : L.bytes * n ≤ 140737488355328) :
    GoodE X m ε o (.c (.mu H.length 0 n.toNat L.size)) (H ++ [⟨zeros L n.toNat, e, true⟩]) := by
  obtain ⟨-, -, i, z, g1, g2, g3, g4, g5, g6⟩ := X.ok e L hL
  obtain ⟨k, rfl⟩ := Int.eq_ofNat_of_zero_le h1
  unfold maxLen at h2
  have hs : L.zero.length = L.size := by rw [← g5]; simpa using g6
  have hr := run_make (P := X.P) m.w t e i z ht g1 g4 kl kc (k : Int) (k : Int) (by omega) (by omega) (by rw [g3]; omega) (by omega)
  simp only [Int.toNat_natCast, g2] at hr
  refine good_newRow hS (arr := madeCells z.cells (k * L.size)) (cap := k) (w' := m.w.alloc (.cells (madeCells z.cells (k * L.size)) e)) rfl rfl rfl rfl ?_ ?_ (Nat.le_of_eq (by simp)) ?_ (by unfold maxLen; omega) ?_
  · simp [zeros_length hs, size_madeCells]
  · intro j c' hj
    show ∃ u, ((Array.range (k * L.size)).map (z.cells[· % z.cells.size]!))[j]? = some u ∧ _
    rw [← g6]
    exact made_get (m := m) g5 hp (by omega) (n := k) (j := j) (c := c') (by simpa using hj)
  · simp [size_madeCells]
  · simp [execOp, ho, hl, hc, hr]

theorem Sim.same_live {G : Glob} {H' : List Ob} (hS : Sim G m H) (hlen : H'.length = H.length) (h : ∀ (i : Nat) (o : Ob), H'[i]? = some o → o.live = true → H[i]? = some o) : Sim G m H' :=
  ⟨by rw [hlen]; exact hS.N, hS.lo, hS.bs, hS.blk, fun i o hi hl => hS.ob i o (h i o hi hl) hl, fun i o hi hl => hS.gho i o (h i o hi hl) hl, fun i j oi oj hi hj g1 g2 hne => hS.inj i j oi oj (h i oi hi g1) (h j oj hj g2) g1 g2 hne, hS.gl⟩

/-- The nil slice, as a further object. -/
theorem good_ghost (hS : Sim X.G m H) {t : TypeId} {k : Nat} (hx : (execOp ε o).run X.P m.w = .ok (.value (.slice none 0 0)) m.w) : GoodE X m ε o (.c (.mu H.length 0 0 k)) (H ++ [⟨[], t, true⟩]) := by
  obtain ⟨h1, h2⟩ := hS.ghost t
  refine ⟨_, { m with N := m.N + 1, μ := μadd m.μ m.N ⟨0, 0, 0, true⟩ }, hx, h1, h2, .inl ⟨_, rfl, .c ?_⟩⟩
  rw [← hS.N]
  exact .mn (Nat.lt_succ_self _) (by simp [μadd_new])

/-- append, the source's cells known. -/
theorem srcOf_rel (hS : Sim X.G m H) {v : V} {u : Value} {n k : Nat} {cs : List C} (h : srcOf H v = some (n, k, cs)) (hr : RV m v u) : cs.length = n * k ∧
    ∃ us : List Value, us.length = cs.length ∧ (∀ u ∈ us, u.oneCell' = true) ∧ (∀ (j : Nat) (c : C), cs[j]? = some c → ∃ x, us[j]? = some x ∧ R m c x) ∧
      ((u = .slice none 0 0 ∧ n = 0 ∧ us = []) ∨ ∃ a cap, u = .slice (some a) n cap ∧ ∀ (j : Nat) (x : Value), us[j]? = some x → m.w.cell? (a.add j) = some x) := by
  have fin : ∀ {b off : Nat}, (∀ (j : Nat) (c : C), cs[j]? = some c → ∃ u, m.w.cell? ⟨b, off + j, none⟩ = some u ∧ R m c u) →
      ∃ us : List Value, us.length = cs.length ∧ (∀ u ∈ us, u.oneCell' = true) ∧ (∀ (j : Nat) (x : Value), us[j]? = some x → m.w.cell? ((⟨b, off, none⟩ : Addr).add j) = some x) ∧ ∀ (j : Nat) (c : C), cs[j]? = some c → ∃ x, us[j]? = some x ∧ R m c x := by
    intro b off hc
    obtain ⟨us, h1, h2⟩ := choose_list hc
    have back : ∀ (j : Nat) (x : Value), us[j]? = some x → ∃ c, cs[j]? = some c ∧ m.w.cell? ⟨b, off + j, none⟩ = some x ∧ R m c x := fun j x hj => by
      have hlt : j < cs.length := by rw [← h1]; exact (List.getElem?_eq_some_iff.1 hj).1
      obtain ⟨u, g1, g2, g3⟩ := h2 j _ (List.getElem?_eq_getElem hlt)
      rw [hj] at g1
      injection g1 with g1
      subst g1
      exact ⟨_, List.getElem?_eq_getElem hlt, g2, g3⟩
    refine ⟨us, h1, fun u hu => ?_, fun j x hj => ?_, fun j c hj => ?_⟩
    · obtain ⟨j, hj⟩ := List.mem_iff_getElem?.1 hu
      obtain ⟨c, -, -, h3⟩ := back j u hj
      exact oneCell_of_plain h3.plain
    · obtain ⟨c, -, h3, -⟩ := back j x hj
      rw [addr_add]; exact h3
    · obtain ⟨u, g1, -, g3⟩ := h2 j c hj
      exact ⟨u, g1, g3⟩
  cases v with
  | c x =>
    cases x <;> simp only [srcOf] at h <;> try (cases h; done)
    · rename_i own n' k' cs'
      simp only [Option.some.injEq, Prod.mk.injEq] at h
      obtain ⟨rfl, rfl, rfl⟩ := h
      rcases hr.slI with ⟨hu, rfl, rfl⟩ | ⟨a, cap, hu, -, -, hl, hF, hc⟩
      · have : reowns own [] = [] := by cases own <;> rfl
        rw [this]
        exact ⟨by simp, [], rfl, by simp, by simp, .inl ⟨hu, rfl, rfl⟩⟩
      · refine ⟨by rw [reowns_length]; exact hl, ?_⟩
        by_cases hne : cs' = []
        · subst hne
          have : reowns own [] = [] := by cases own <;> rfl
          rw [this]
          exact ⟨[], rfl, by simp, by simp, .inr ⟨a, cap, hu, by simp⟩⟩
        · obtain ⟨hsp, -⟩ := hF hne
          obtain ⟨ab, ao, as⟩ := a
          simp only at hsp
          subst hsp
          obtain ⟨us, h1, h2, h3, h4⟩ := fin (b := ab) (off := ao) (fun j c hj => by
            obtain ⟨c', hj', rfl⟩ := reowns_get hj
            obtain ⟨u, g1, g2⟩ := hc j c' hj'
            exact ⟨u, g1, g2.r⟩)
          exact ⟨us, h1, h2, h4, .inr ⟨_, cap, hu, h3⟩⟩
    · split at h
      · rename_i ob ho
        split at h
        · rename_i hl
          simp only [Option.some.injEq, Prod.mk.injEq] at h
          obtain ⟨rfl, rfl, rfl⟩ := h
          refine ⟨sub_length hl.2, ?_⟩
          rcases hr.muI with ⟨hu, rfl, rfl, -, -⟩ | ⟨cap, hu, -⟩
          · exact ⟨[], by simp [sub], by simp, by simp [sub], .inl ⟨hu, rfl, rfl⟩⟩
          · obtain ⟨us, h1, h2, h3, h4⟩ := fin fun j c hj => by
              obtain ⟨-, hg⟩ := sub_get hj
              obtain ⟨u, g1, g2⟩ := hS.cell ho hl.1 hg
              exact ⟨u, by rw [Nat.add_assoc]; exact g1, g2⟩
            exact ⟨us, h1, h2, h4, .inr ⟨_, cap, hu, h3⟩⟩
        · cases h
      · cases h
  | _ => simp [srcOf] at h

theorem good_append_nil (hS : Sim X.G m H) {s x : Operand} {t : TypeId} (ho : o.op = .call { callee := .builtin .append, args := #[s, x], argTypes := #[t, t] }) {e : TypeId} (ht : X.P.underlying t = some (.slice e)) {L : Lay} (hL : X.lay e = some L)
    {n k : Nat} {cs : List C} {vx : V} {H0 : List Ob} (hS0 : Sim X.G m H0) (hx : srcOf H0 vx = some (n, k, cs)) (hr : RV m vx (ε x)) (hs : ε s = .slice none 0 0) (hk : L.size = k) (h63 : n ≤ maxLen) (hb : n * L.bytes ≤ 140737488355328) :
    GoodE X m ε o (.c (.mu H.length 0 n k)) (H ++ [⟨cs, e, true⟩]) := by
  obtain ⟨-, -, i, z, g1, g2, g3, g4, g5, g6⟩ := X.ok e L hL
  obtain ⟨hl, us, hul, hone, hrel, hsrc⟩ := srcOf_rel hS0 hx hr
  unfold maxLen at h63
  by_cases hn : n = 0
  · subst hn
    have hcs : cs = [] := List.eq_nil_of_length_eq_zero (by omega)
    have hus : us = [] := List.eq_nil_of_length_eq_zero (by rw [hul, hcs]; rfl)
    subst hcs hus
    refine good_ghost hS ?_
    rcases hsrc with ⟨hu, -, -⟩ | ⟨a, c, hu, -⟩
    · simp [execOp, ho, resolve, invoke, builtin, hs, hu, Builtin.append_, run_underlying ht, sizeOf, typeInfo, g1, Builtin.lenOf, Builtin.firstCells]
    · have hld : (loadCells a 0).run X.P m.w = .ok #[] m.w := run_loadCells_list (P := X.P) m.w a [] (by simp)
      simp [execOp, ho, resolve, invoke, builtin, hs, hu, Builtin.append_, run_underlying ht, sizeOf, typeInfo, g1, Builtin.lenOf, Builtin.firstCells, hld]
  obtain ⟨a, c, hu, hcell⟩ := hsrc.resolve_left (fun h => hn h.2.1)
  have hrun := run_append_nil (P := X.P) m.w t o.type e i z ht g1 g4 a n c us (by rw [hul, hl, g2, hk]) hcell (by omega) (by omega) (by rw [g3]; omega)
  have hge := grownCap_ge m.w n 0 e
  have hcm := grownCap_le_maxLen m.w n 0 e (by unfold maxLen; omega)
  refine good_newRow hS (arr := us.toArray ++ Builtin.zeroCells z.cells (grownCap m.w n 0 e - n)) (cap := grownCap m.w n 0 e) (n := n) (k := k)
    (w' := m.w.drew.alloc (.cells (us.toArray ++ Builtin.zeroCells z.cells (grownCap m.w n 0 e - n)) e)) rfl rfl rfl rfl ?_ (fun j c hj => ?_) hge ?_ hcm ?_
  · simp [hul]
  · obtain ⟨u, h1, h2⟩ := hrel j c hj
    refine ⟨u, ?_, h2⟩
    rw [Array.getElem?_append_left (by simp; exact (List.getElem?_eq_some_iff.1 h1).1)]
    simpa using h1
  · simp only [Array.size_append, List.size_toArray, size_zeroCells, hul, hl, g6, hk, ← Nat.add_mul]
    exact Nat.le_of_eq (by congr 1; omega)
  · simp [execOp, ho, resolve, invoke, builtin, hs, hu, hrun]

theorem good_append_mu (hS : Sim X.G m H) {s x : Operand} {t : TypeId} (ho : o.op = .call { callee := .builtin .append, args := #[s, x], argTypes := #[t, t] }) {e : TypeId} (ht : X.P.underlying t = some (.slice e)) {L : Lay} (hL : X.lay e = some L)
    {n k : Nat} {cs : List C} (hx : srcOf H (ρ x) = some (n, k, cs)) (hr : RV m (ρ x) (ε x)) {id off n0 : Nat} (hs : RV m (.c (.mu id off n0 k)) (ε s)) {ob : Ob} (hob : H[id]? = some ob) (hlive : ob.live = true) (hte : ob.t = e)
    (hoff : off + n0 * k ≤ ob.cs.length) (hk : L.size = k) (h63 : n0 + n ≤ maxLen) (hb : (n0 + n) * L.bytes ≤ 140737488355328) :
    GoodE X m ε o (.c (.mu H.length 0 (n0 + n) k)) (H.set id { ob with live := false } ++ [⟨sub ob.cs off (n0 * k) ++ cs, e, true⟩]) := by
  obtain ⟨-, -, i, z, g1, g2, g3, g4, g5, g6⟩ := X.ok e L hL
  rcases hs.muI with ⟨hse, rfl, rfl, hid, hgh⟩ | ⟨cap, hse, hid, hcap, hsz, hcm, hgh⟩
  · -- the nil slice
    have hob0 := hS.gho id ob hob hlive hgh
    have := good_append_nil (hS.kill hob) ho ht hL hS hx hr hse hk (by omega) (by rw [Nat.zero_add] at hb; exact hb)
    simpa [hob0, sub] using this
  obtain ⟨hl, us, hul, hone, hrel, hsrc⟩ := srcOf_rel hS hx hr
  obtain ⟨arr, o1, o2, o3, o4, o5, o6⟩ := hS.ob id ob hob hlive hgh
  subst hte
  have hsub : sub ob.cs off (n0 * k) = (ob.cs.drop off).take (n0 * k) := rfl
  by_cases hroom : n0 + n ≤ cap
  · -- in place
    have hfit : (n0 + n) * k ≤ cap * k := Nat.mul_le_mul_right k hroom
    rw [Nat.add_mul] at hfit
    have hst := run_storeCells_row X.P (m.μ id).block ((m.μ id).base + off + n0 * k) ob.t us 0 arr m.w o1 (by omega) hone
    simp only [Nat.add_zero] at hst
    generalize harr : (arr.toList.take ((m.μ id).base + off + n0 * k) ++ us ++ arr.toList.drop ((m.μ id).base + off + n0 * k + us.length)).toArray = arr' at hst
    have hasz : arr'.size = arr.size := by rw [← harr]; simp; omega
    have hrun : (Builtin.append_ #[t, t] o.type #[.slice (some ⟨(m.μ id).block, (m.μ id).base + off, none⟩) n0 cap, ε x]).run X.P m.w =
        .ok (.slice (some ⟨(m.μ id).block, (m.μ id).base + off, none⟩) (n0 + n) cap) (m.w.setRow (m.μ id).block arr') := by
      rcases hsrc with ⟨hu, rfl, rfl⟩ | ⟨a, c, hu, hcell⟩
      · simp [Builtin.append_, run_underlying ht, sizeOf, typeInfo, g1, Builtin.lenOf, hcap, hu, Builtin.firstCells, addr_add, g2, hk, hst]
      · have hfc := run_firstCells_some (P := X.P) m.w i.size n a n c us (by rw [hul, hl, g2, hk]) hcell
        rw [g2, hk] at hfc
        simp [Builtin.append_, run_underlying ht, sizeOf, typeInfo, g1, Builtin.lenOf, hroom, hu, hfc, addr_add, g2, hk, hst]
    obtain ⟨s1, s2⟩ := hS.put (arr' := arr') (w' := m.w.setRow (m.μ id).block arr') (cs' := ob.cs.take off ++ (sub ob.cs off (n0 * k) ++ cs)) hob hlive hgh (o1.set hasz) (by omega)
      (fun b hb => setRow_other m.w _ b arr' hb) (setRow_size m.w _ arr') rfl rfl rfl (by simp [hsub]; omega) (fun j c hj => by
        rw [← harr]
        have hpre : (ob.cs.take off ++ sub ob.cs off (n0 * k)) = ob.cs.take (off + n0 * k) := by rw [hsub, List.take_add]
        rw [← List.append_assoc, hpre] at hj
        by_cases hj1 : j < off + n0 * k
        · rw [List.getElem?_append_left (by simp; omega), List.getElem?_take_of_lt hj1] at hj
          obtain ⟨u, hu, hr'⟩ := o4 j c hj
          refine ⟨u, ?_, hr'⟩
          simp only [List.getElem?_toArray]
          rw [List.append_assoc, List.getElem?_append_left (by simp; omega), List.getElem?_take_of_lt (by omega)]
          simpa using hu
        · rw [List.getElem?_append_right (by simp; omega)] at hj
          have : j - (ob.cs.take (off + n0 * k)).length = j - (off + n0 * k) := by simp; omega
          rw [this] at hj
          obtain ⟨u, hu, hr'⟩ := hrel _ c hj
          have hlt := (List.getElem?_eq_some_iff.1 hu).1
          refine ⟨u, ?_, hr'⟩
          simp only [List.getElem?_toArray]
          rw [List.getElem?_append_left (by simp; omega), List.getElem?_append_right (by simp; omega)]
          have : (m.μ id).base + j - (arr.toList.take ((m.μ id).base + off + n0 * k)).length = j - (off + n0 * k) := by simp; omega
          rw [this]
          exact hu)
    have hidlt : id < H.length := (List.getElem?_eq_some_iff.1 hob).1
    obtain ⟨m1, m2⟩ := s1.move (id := id) (off := off) (ob := { ob with cs := ob.cs.take off ++ (sub ob.cs off (n0 * k) ++ cs) }) (by rw [List.getElem?_set_self hidlt]) hlive hgh (by simp; omega)
    have hdrop : (ob.cs.take off ++ (sub ob.cs off (n0 * k) ++ cs)).drop off = sub ob.cs off (n0 * k) ++ cs := by
      rw [List.drop_append_of_le_length (by simp; omega), List.drop_of_length_le (by simp; omega), List.nil_append]
    simp only [hdrop, List.set_set] at m1
    refine ⟨.value (.slice (some ⟨(m.μ id).block, (m.μ id).base + off, none⟩) (n0 + n) cap), _, ?_, ?_, s2.trans m2, .inl ⟨_, rfl, .c ?_⟩⟩
    · simp [execOp, ho, resolve, invoke, builtin, hse, hrun]
    · refine m1.same_live (by simp) fun i o' hi hl' => ?_
      by_cases hlt : i < H.length
      · rw [List.getElem?_append_left (by simpa using hlt)] at hi
        by_cases hii : i = id
        · subst hii
          rw [List.getElem?_set_self hidlt] at hi
          have := (Option.some.inj hi).symm
          subst this
          simp at hl'
        · rw [List.getElem?_set_ne (by omega)] at hi
          rw [List.getElem?_append_left (by simpa using hlt), List.getElem?_set_ne (by omega)]
          exact hi
      · rw [List.getElem?_append_right (by simp; omega)] at hi ⊢
        simpa using hi
    · have := R.mu (m := { m with w := m.w.setRow (m.μ id).block arr', N := m.N + 1, μ := μadd m.μ m.N ⟨(m.μ id).block, (m.μ id).base + off, (m.μ id).size, false⟩ }) (id := m.N) (off := 0) (n := n0 + n) (k := k) (cap := cap) (Nat.lt_succ_self _) (by simp [μadd_new]) hroom (by simp [μadd_new]; omega) hcm
      rw [← hS.N]
      simpa [μadd_new] using this
  · -- a new row
    have hcg : cap < n0 + n := by omega
    obtain ⟨a, c, hu, hcell⟩ := hsrc.resolve_left (fun h => by omega)
    have hsl : (sub ob.cs off (n0 * k)).length = n0 * k := sub_length hoff
    have holdc : ∀ (j : Nat) (c : C), (sub ob.cs off (n0 * k))[j]? = some c → ∃ u, m.w.cell? ⟨(m.μ id).block, (m.μ id).base + off + j, none⟩ = some u ∧ R m c u := fun j c hj => by
      obtain ⟨-, hg⟩ := sub_get hj
      obtain ⟨u, q1, q2⟩ := hS.cell hob hlive hg
      exact ⟨u, by rw [Nat.add_assoc]; exact q1, q2⟩
    obtain ⟨olds, q1, q2⟩ := choose_list holdc
    have holds : ∀ (j : Nat) (v : Value), olds[j]? = some v → m.w.cell? ((⟨(m.μ id).block, (m.μ id).base + off, none⟩ : Addr).add j) = some v := fun j v hj => by
      have hlt : j < (sub ob.cs off (n0 * k)).length := by rw [← q1]; exact (List.getElem?_eq_some_iff.1 hj).1
      obtain ⟨u, r1, r2, -⟩ := q2 j _ (List.getElem?_eq_getElem hlt)
      rw [hj] at r1
      injection r1 with r1
      rw [addr_add, r1]
      exact r2
    have h63' : n0 + n ≤ 9223372036854775807 := by unfold maxLen at h63; omega
    have hrun := run_append_grow (P := X.P) m.w t o.type ob.t i z ht g1 g4 ⟨(m.μ id).block, (m.μ id).base + off, none⟩ n0 cap olds (by rw [q1, hsl, g2, hk]) holds a n c us (by rw [hul, hl, g2, hk]) hcell hcg (by omega)
      (growslice_fits hcg (by rw [g3]; exact hb))
    have hge := grownCap_ge m.w (n0 + n) cap ob.t
    have hcm' := grownCap_le_maxLen m.w (n0 + n) cap ob.t h63
    have hgood : GoodE X m ε o (.c (.mu (H.set id { ob with live := false }).length 0 (n0 + n) k)) (H.set id { ob with live := false } ++ [⟨sub ob.cs off (n0 * k) ++ cs, ob.t, true⟩]) := by
      refine good_newRow (hS.kill hob) (arr := olds.toArray ++ us.toArray ++ Builtin.zeroCells z.cells (grownCap m.w (n0 + n) cap ob.t - (n0 + n))) (cap := grownCap m.w (n0 + n) cap ob.t) (n := n0 + n) (k := k)
        (w' := m.w.drew.alloc (.cells (olds.toArray ++ us.toArray ++ Builtin.zeroCells z.cells (grownCap m.w (n0 + n) cap ob.t - (n0 + n))) ob.t)) rfl rfl rfl rfl ?_ (fun j c hj => ?_) hge ?_ hcm' ?_
      · simp [hul, q1]
      · have hmem : ∃ u, (olds ++ us)[j]? = some u ∧ R m c u := by
          by_cases hjl : j < (sub ob.cs off (n0 * k)).length
          · rw [List.getElem?_append_left hjl] at hj
            obtain ⟨u, r1, -, r3⟩ := q2 j c hj
            exact ⟨u, by rw [List.getElem?_append_left (by omega)]; exact r1, r3⟩
          · rw [List.getElem?_append_right (by omega)] at hj
            obtain ⟨u, r1, r3⟩ := hrel _ c hj
            exact ⟨u, by rw [List.getElem?_append_right (by omega), q1]; exact r1, r3⟩
        obtain ⟨u, r1, r2⟩ := hmem
        refine ⟨u, ?_, r2⟩
        have hlt := (List.getElem?_eq_some_iff.1 r1).1
        rw [Array.getElem?_append_left (by simpa using hlt)]
        simpa using r1
      · simp only [Array.size_append, List.size_toArray, size_zeroCells, hul, hl, g6, hk, q1, hsl, ← Nat.add_mul]
        exact Nat.le_of_eq (by congr 1; omega)
      · simp [execOp, ho, resolve, invoke, builtin, hse, hu, hrun]
    simpa using hgood
/-- Cells of an object are written. -/
theorem Sim.putCells (hS : Sim X.G m H) {id off : Nat} {ob : Ob} (hob : H[id]? = some ob) (hlive : ob.live = true) (hgh : (m.μ id).gh = false) {cs : List C} {us : List Value} (hul : us.length = cs.length)
    (h2 : ∀ (j : Nat) (c : C), cs[j]? = some c → ∃ x, us[j]? = some x ∧ R m c x) (hp : ∀ v ∈ us, v.oneCell' = true) (hoff : off + cs.length ≤ ob.cs.length) :
    ∃ m' : Mem, (storeCells ⟨(m.μ id).block, (m.μ id).base + off, none⟩ us).run X.P m.w = .ok () m'.w ∧ Sim X.G m' (H.set id { ob with cs := setCells ob.cs off cs }) ∧ Ext m m' := by
  obtain ⟨arr, o1, o2, o3, o4, o5, o6⟩ := hS.ob id ob hob hlive hgh
  have hst := run_storeCells_row X.P (m.μ id).block ((m.μ id).base + off) ob.t us 0 arr m.w o1 (by omega) hp
  simp only [Nat.add_zero, hul] at hst
  generalize harr : (arr.toList.take ((m.μ id).base + off) ++ us ++ arr.toList.drop ((m.μ id).base + off + cs.length)).toArray = arr' at hst
  have hasz : arr'.size = arr.size := by rw [← harr]; simp [hul]; omega
  obtain ⟨s1, s2⟩ := hS.put (arr' := arr') (w' := m.w.setRow (m.μ id).block arr') (cs' := setCells ob.cs off cs) hob hlive hgh (o1.set hasz) (by omega)
    (fun b hb => setRow_other m.w _ b arr' hb) (setRow_size m.w _ arr') rfl rfl rfl (by simp [setCells]; omega) (fun j c hj => by
      unfold setCells at hj
      rw [← harr]
      by_cases hj1 : j < off
      · rw [List.append_assoc, List.getElem?_append_left (by simp; omega), List.getElem?_take_of_lt hj1] at hj
        obtain ⟨u, hu, hr'⟩ := o4 j c hj
        refine ⟨u, ?_, hr'⟩
        simp only [List.getElem?_toArray]
        rw [List.append_assoc, List.getElem?_append_left (by simp; omega), List.getElem?_take_of_lt (by omega)]
        simpa using hu
      · by_cases hj2 : j < off + cs.length
        · rw [List.getElem?_append_left (by simp; omega), List.getElem?_append_right (by simp; omega)] at hj
          have : j - (ob.cs.take off).length = j - off := by simp; omega
          rw [this] at hj
          obtain ⟨u, hu, hr'⟩ := h2 _ c hj
          refine ⟨u, ?_, hr'⟩
          simp only [List.getElem?_toArray]
          rw [List.getElem?_append_left (by simp [hul]; omega), List.getElem?_append_right (by simp; omega)]
          have : (m.μ id).base + j - (arr.toList.take ((m.μ id).base + off)).length = j - off := by simp; omega
          rw [this]
          exact hu
        · rw [List.getElem?_append_right (by simp; omega)] at hj
          have : j - (ob.cs.take off ++ cs).length = j - (off + cs.length) := by simp; omega
          rw [this, List.getElem?_drop] at hj
          have : off + cs.length + (j - (off + cs.length)) = j := by omega
          rw [this] at hj
          obtain ⟨u, hu, hr'⟩ := o4 j c hj
          refine ⟨u, ?_, hr'⟩
          simp only [List.getElem?_toArray]
          rw [List.getElem?_append_right (by simp [hul]; omega)]
          have : (m.μ id).base + j - (arr.toList.take ((m.μ id).base + off) ++ us).length = j - (off + cs.length) := by simp [hul]; omega
          rw [this, List.getElem?_drop]
          have : (m.μ id).base + off + cs.length + (j - (off + cs.length)) = (m.μ id).base + j := by omega
          rw [this]
          simpa using hu)
  exact ⟨_, hst, s1, s2⟩

theorem good_copy (hS : Sim X.G m H) {s x : Operand} {t t' : TypeId} (ho : o.op = .call { callee := .builtin .copy, args := #[s, x], argTypes := #[t, t'] }) {e : TypeId} (ht : X.P.underlying t = some (.slice e)) {L : Lay} (hL : X.lay e = some L)
    {n k : Nat} {cs : List C} (hx : srcOf H (ρ x) = some (n, k, cs)) (hr : RV m (ρ x) (ε x)) {id off n0 : Nat} (hs : RV m (.c (.mu id off n0 k)) (ε s)) {ob : Ob} (hob : H[id]? = some ob) (hlive : ob.live = true)
    (hoff : off + n0 * k ≤ ob.cs.length) (hk : L.size = k) :
    GoodE X m ε o (.c (.v (.int .i64 (Nat.min n n0 : Nat)))) (H.set id { ob with cs := setCells ob.cs off (cs.take (Nat.min n n0 * k)) }) := by
  obtain ⟨-, -, i, z, g1, g2, g3, g4, g5, g6⟩ := X.ok e L hL
  obtain ⟨hl, us, hul, hone, hrel, hsrc⟩ := srcOf_rel hS hx hr
  rcases hs.muI with ⟨hse, rfl, rfl, hid, hgh⟩ | ⟨cap, hse, hid, hcap, hsz, hcm, hgh⟩
  · have hob0 := hS.gho id ob hob hlive hgh
    have hz : Nat.min n 0 = 0 := Nat.min_zero n
    rw [hz]
    have hset : H.set id { ob with cs := setCells ob.cs 0 (cs.take (0 * k)) } = H := by
      have : { ob with cs := setCells ob.cs 0 (cs.take (0 * k)) } = ob := by
        obtain ⟨ocs, ot, ol⟩ := ob
        simp only at hob0
        subst hob0
        simp [setCells]
      rw [this]
      have hidlt : id < H.length := (List.getElem?_eq_some_iff.1 hob).1
      have : ob = H[id] := by rw [List.getElem?_eq_getElem hidlt] at hob; exact (Option.some.inj hob).symm
      rw [this, List.set_getElem_self]
    rw [hset]
    refine ⟨.value (.int .i64 0), m, ?_, hS, Ext.refl m, .inl ⟨_, rfl, .c (.v rfl)⟩⟩
    rcases hsrc with ⟨hu, hn0, hus⟩ | ⟨a, c, hu, hcell⟩
    · simp [execOp, ho, resolve, invoke, builtin, hse, hu, Builtin.copy_, run_underlying ht, sizeOf, typeInfo, g1, Builtin.lenOf, Builtin.firstCells, goInt]
    · have hld : (loadCells a 0).run X.P m.w = .ok #[] m.w := run_loadCells_list (P := X.P) m.w a [] (by simp)
      simp [execOp, ho, resolve, invoke, builtin, hse, hu, Builtin.copy_, run_underlying ht, sizeOf, typeInfo, g1, Builtin.lenOf, Builtin.firstCells, goInt, hld]
  have hmn : Nat.min n n0 * k ≤ n * k := Nat.mul_le_mul_right k (Nat.min_le_left n n0)
  have hm0 : Nat.min n n0 * k ≤ n0 * k := Nat.mul_le_mul_right k (Nat.min_le_right n n0)
  generalize hmd : Nat.min n n0 = q at hmn hm0 ⊢
  have htl : (cs.take (q * k)).length = q * k := by simp; omega
  have hul2 : (us.take (q * k)).length = q * k := by simp; omega
  obtain ⟨m', p1, p2, p3⟩ := hS.putCells (off := off) hob hlive hgh (cs := cs.take (q * k)) (us := us.take (q * k)) (by rw [htl, hul2]) (fun j c hj => by
    rw [List.getElem?_take] at hj ⊢
    split at hj
    · rename_i hlt
      rw [if_pos hlt]; exact hrel j c hj
    · cases hj) (fun v hv => hone v (List.mem_of_mem_take hv)) (by rw [htl]; omega)
  refine ⟨.value (.int .i64 q), m', ?_, p2, p3, .inl ⟨_, rfl, .c (.v rfl)⟩⟩
  rcases hsrc with ⟨hu, rfl, rfl⟩ | ⟨a, c, hu, hcell⟩
  · obtain rfl : q = 0 := by rw [← hmd]; exact Nat.zero_min n0
    simp at p1
    simp [execOp, ho, resolve, invoke, builtin, hse, hu, Builtin.copy_, run_underlying ht, sizeOf, typeInfo, g1, Builtin.lenOf, Builtin.firstCells, goInt, p1]
  · have hfc := run_firstCells_some (P := X.P) m.w i.size q a n c (us.take (q * k)) (by rw [hul2, g2, hk]) (fun j x hj => hcell j x (by
      rw [List.getElem?_take] at hj
      split at hj
      · exact hj
      · cases hj))
    simp [execOp, ho, resolve, invoke, builtin, hse, hu, Builtin.copy_, run_underlying ht, sizeOf, typeInfo, g1, Builtin.lenOf, goInt, hmd, hfc, p1]

theorem zeros_rel {L : Lay} (hp : (L.zero.all plain) = true) (hs : L.zero.length = L.size) (h0 : 0 < L.size) {z : Array Value} (hz : z.toList = L.zero) (n : Nat) :
    ((Array.range (n * L.size)).map (z[· % z.size]!)).size = (zeros L n).length ∧ ∀ (j : Nat) (c : C), (zeros L n)[j]? = some c → ∃ u, ((Array.range (n * L.size)).map (z[· % z.size]!))[j]? = some u ∧ R m c u := by
  refine ⟨by simp [zeros_length hs], fun j c hj => ?_⟩
  have hzs : z.size = L.size := by rw [← hs, ← hz]; simp
  rw [← hzs]
  exact made_get hz hp (by omega) hj

theorem good_buildSlice (hS : Sim X.G m H) (hρ : ∀ x, RV m (ρ x) (ε x)) {t e : TypeId} {n : Nat} {parts : Array (Nat × Operand)} (ho : o.op = .buildSlice t n parts) (ht : X.P.underlying t = some (.slice e)) {L : Lay} (hL : X.lay e = some L)
    {cs : List C} (hf : fillC (fun i => some (i * L.size, L.size)) (zeros L n) (parts.toList.map fun p => (p.1, ρ p.2)) = some cs) (h0 : 0 < L.size) (h24 : n * L.size ≤ 2 ^ 24) :
    GoodE X m ε o (.c (.mu H.length 0 n L.size)) (H ++ [⟨cs, e, true⟩]) := by
  obtain ⟨-, hp, i, z, g1, g2, g3, g4, g5, g6⟩ := X.ok e L hL
  have hs : L.zero.length = L.size := by rw [← g5]; simpa using g6
  obtain ⟨a1, a2⟩ := zeros_rel (m := m) hp hs h0 g5 n
  obtain ⟨arr', f1, f2, f3⟩ := fill_rel hρ parts.toList (zeros L n) cs _ a1 a2 hf
  have hlen : arr'.size = n * L.size := by
    have : ∀ (parts : List (Nat × V)) (cs cs' : List C) (place : Nat → Option (Nat × Nat)), fillC place cs parts = some cs' → cs'.length = cs.length := by
      intro parts
      induction parts with
      | nil => intro cs cs' place h; simp [fillC] at h; rw [h]
      | cons p parts ih =>
        intro cs cs' place h
        obtain ⟨i, v⟩ := p
        simp only [fillC] at h
        split at h
        · split at h
          · rename_i hh
            rw [ih _ _ _ h]
            simp; omega
          · cases h
        · cases h
    rw [f2, this _ _ _ _ hf, zeros_length hs]
  refine good_newRow hS (arr := arr') (cap := n) (w' := { m.w with heap := m.w.heap.push (.cells arr' e) }) rfl rfl rfl rfl (by omega) f3 (Nat.le_refl _) (by omega) (by unfold maxLen; have : n ≤ n * L.size := Nat.le_mul_of_pos_right n h0; omega) ?_
  simp only [execOp, ho, Instr.buildSlice, Sem.run_bind, run_underlying ht, Result.andThen_ok, sizeOf, typeInfo, program, Sem.run, g1, Sem.run_pure, g2]
  rw [if_neg (by omega)]
  by_cases hn : n * L.size = 0
  · have hn0 : n = 0 := by
      rcases Nat.mul_eq_zero.1 hn with h | h
      · exact h
      · omega
    subst hn0
    simp only [Nat.zero_mul, if_true, Array.toList_map]
    have : ((Array.range (0 * L.size)).map (z.cells[· % z.cells.size]!)) = (Array.range 0).map ((#[] : Array Value)[· % (#[] : Array Value).size]!) := by simp
    rw [this] at f1
    simp only [Sem.run_bind, Sem.run_pure, Result.andThen_ok, f1]
    simp [newRow, newObj, Sem.run]
  · simp only [hn, if_false, Sem.run_bind, zeroValue, typeInfo, program, Sem.run, g1, g4, Sem.run_pure, Result.andThen_ok, Array.toList_map, f1]
    simp [newRow, newObj, Sem.run]

theorem eve_sound (hS : Sim X.G m H) (hρ : ∀ x, RV m (ρ x) (ε x)) (h : eve X.lay H ρ o.op = some f) (hφ : f.φ) : GoodE X m ε o f.v f.H := by
  generalize hop : o.op = op at h
  cases op <;> simp only [eve] at h <;> try (cases h; done)
  case box t x =>
    split at h
    · rename_i cs _ hc
      simp only [Option.some.injEq] at h; subst h
      exact good_box hS hop hc (hρ x)
    · cases h
  case alloc t =>
    split at h
    · rename_i L hL
      simp only [Option.some.injEq] at h; subst h
      exact good_alloc hS hop hL (X.ok t L hL).plain
    · cases h
  case store t a x =>
    have ha := hρ a
    split at h
    · rename_i L id off cs hL ha' hc
      rw [ha'] at ha
      split at h
      · rename_i ob hob
        split at h
        · rename_i hh
          simp only [Option.some.injEq] at h; subst h
          exact good_store hS hop hL ha hc (hρ x) hob hh.1 hh.2.1 hh.2.2
        · cases h
      · cases h
    · cases h
  case buildSlice t n parts =>
    split at h
    · rename_i e _ _ _ hL
      have ht : X.P.underlying t = some (.slice e) := (X.ok t _ hL).kind
      split at h
      · rename_i L hLe
        split at h
        · rename_i cs hcs
          split at h
          · rename_i hh
            simp only [Option.some.injEq] at h; subst h
            exact good_buildSlice hS hρ hop ht hLe hcs hh.1 hh.2
          · cases h
        · cases h
      · cases h
    · cases h
  case makeSlice t l c =>
    have hl := hρ l
    have hc := hρ c
    split at h
    · rename_i e _ _ _ _ n _ n' hL hl' hc'
      rw [hl'] at hl
      rw [hc'] at hc
      have ht : X.P.underlying t = some (.slice e) := (X.ok t _ hL).kind
      split at h
      · rename_i L hLe
        split at h
        · rename_i hnn
          subst hnn
          simp only [Option.some.injEq] at h; subst h
          obtain ⟨p1, p2, p3, p4⟩ := hφ
          exact good_makeSlice hS hop ht hLe (X.ok e L hLe).plain hl.val hc.val p1 p2 p3 p4
        · cases h
      · cases h
    · cases h
  case call cc =>
    obtain ⟨callee, args, argTypes⟩ := cc
    cases callee <;> try (cases h; done)
    rename_i b
    cases b <;> try (cases h; done)
    case copy =>
      simp only at h
      split at h
      · rename_i s x t t' hargs htypes
        have hargs' : args = #[s, x] := by cases args; simpa using hargs
        have htypes' : argTypes = #[t, t'] := by cases argTypes; simpa using htypes
        subst hargs' htypes'
        have hs := hρ s
        split at h
        · rename_i e _ _ _ hL
          have ht : X.P.underlying t = some (.slice e) := (X.ok t _ hL).kind
          split at h
          · rename_i L n k cs hLe hx
            split at h
            · rename_i id off n0 k0 hs'
              rw [hs'] at hs
              split at h
              · rename_i ob hob
                simp only [Option.some.injEq] at h; subst h
                obtain ⟨p1, p2, p4, p6⟩ := hφ
                subst p2
                exact good_copy hS hop ht hLe hx (hρ x) hs hob p4 p6 p1
              · cases h
            · cases h
          · cases h
        · cases h
      · cases h
    simp only at h
    split at h
    · rename_i s x t t' hargs htypes
      split at h
      · rename_i htt
        subst htt
        have hargs' : args = #[s, x] := by cases args; simpa using hargs
        have htypes' : argTypes = #[t, t] := by cases argTypes; simpa using htypes
        subst hargs' htypes'
        have hs := hρ s
        split at h
        · rename_i e _ _ _ hL
          have ht : X.P.underlying t = some (.slice e) := (X.ok t _ hL).kind
          split at h
          · rename_i L n k cs hLe hx
            split at h
            · rename_i hs'
              rw [hs'] at hs
              simp only [Option.some.injEq] at h; subst h
              obtain ⟨p1, p2, p4, p5⟩ := hφ
              exact good_append_nil hS hop ht hLe hS hx (hρ x) hs.val p1 p4 p5
            · rename_i id off n0 k0 hs'
              rw [hs'] at hs
              split at h
              · rename_i ob hob
                simp only [Option.some.injEq] at h; subst h
                obtain ⟨p1, p2, p3, p4, p5, p6, p7, p8⟩ := hφ
                subst p2
                exact good_append_mu hS hop ht hLe hx (hρ x) hs hob p4 p5 p6 p1 p7 p8
              · cases h
            · cases h
          · cases h
        · cases h
      · cases h
    · cases h
end
end Go.VL
