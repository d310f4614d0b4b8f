/- The model comes to what 'evq' says. Over any program. -/
import Derived.Test.YtbejolinihbokaaV2
namespace Go.VL
open Go.RowKit

theorem choose_list {α β : Type} {p : Nat → α → β → Prop} : ∀ {cs : List α}, (∀ (j : Nat) (c : α), cs[j]? = some c → ∃ u, p j c u) →
    ∃ us : List β, us.length = cs.length ∧ ∀ (j : Nat) (c : α), cs[j]? = some c → ∃ u, us[j]? = some u ∧ p j c u := by
  intro cs
  induction cs generalizing p with
  | nil => intro _; exact ⟨[], rfl, fun j c h => by simp at h⟩
  | cons x xs ih =>
    intro h
    obtain ⟨u, hu⟩ := h 0 x rfl
    obtain ⟨us, hl, hus⟩ := ih (p := fun j c u => p (j + 1) c u) (fun j c hj => h (j + 1) c (by simpa using hj))
    refine ⟨u :: us, by simp [hl], fun j c hj => ?_⟩
    cases j with
    | zero => simp at hj; subst hj; exact ⟨u, rfl, hu⟩
    | succ j => simpa using hus j c (by simpa using hj)

section inv
variable {m : Mem} {u : Value}
theorem R.val {x : Value} (h : R m (.v x) u) : u = x := by cases h with | fz h => cases h; rfl
theorem RV.cell {x : C} (h : RV m (.c x) u) : R m x u := by cases h; assumption
theorem RV.val {x : Value} (h : RV m (.c (.v x)) u) : u = x := h.cell.val
theorem RV.aggI {cs : List C} (h : RV m (.agg cs) u) : ∃ arr : Array Value, u = .agg arr ∧ arr.size = cs.length ∧ ∀ (j : Nat) (c : C), cs[j]? = some c → ∃ u, arr[j]? = some u ∧ R m c u := by
  cases h with | agg hl hr => exact ⟨_, rfl, hl, hr⟩
end inv

def Good (X : Cx) (m : Mem) (H : List Ob) (ε : Operand → Value) (o : Oper) (v : V) : Prop :=
  ∃ u m', (execOp ε o).run X.P m.w = .ok (.value u) m'.w ∧ Sim X.G m' H ∧ Ext m m' ∧ RV m' v u

section
variable {X : Cx} {m : Mem} {H : List Ob} {ε : Operand → Value} {o : Oper} {v : V}

/-- An operation that turns nothing at all. -/
theorem Good.here (hS : Sim X.G m H) {u : Value} (h : (execOp ε o).run X.P m.w = .ok (.value u) m.w) (hv : RV m v u) : Good X m H ε o v := ⟨u, m, h, hS, Ext.refl m, hv⟩

theorem sub_get {cs : List C} {off n j : Nat} {c : C} (h : (sub cs off n)[j]? = some c) : j < n ∧ cs[off + j]? = some c := by
  unfold sub at h
  have hj : j < n := by
    have := (List.getElem?_eq_some_iff.1 h).1
    simp at this; omega
  rw [List.getElem?_take_of_lt hj, List.getElem?_drop] at h
  exact ⟨hj, h⟩
theorem sub_length {cs : List C} {off n : Nat} (h : off + n ≤ cs.length) : (sub cs off n).length = n := by unfold sub; simp; omega

theorem addr_add (b o j : Nat) : (⟨b, o, none⟩ : Addr).add j = ⟨b, o + j, none⟩ := by unfold Addr.add; split <;> simp_all

/-- A variable read: its cells. -/
theorem run_loadVar {t : TypeId} {L : Lay} (hL : X.lay t = some L) {b off : Nat} {cs : List C} (hc : ∀ (j : Nat) (c : C), cs[j]? = some c → ∃ u, m.w.cell? ⟨b, off + j, none⟩ = some u ∧ R m c u)
    (hl : cs.length = L.size) (hv : mkV L.kind.agg cs = some v) : ∃ u, (loadVar t ⟨b, off, none⟩).run X.P m.w = .ok u m.w ∧ RV m v u := by
  obtain ⟨us, hul, hus⟩ := choose_list hc
  obtain ⟨hk, -, i, z, hi, his, -⟩ := X.ok t L hL
  have hload : (loadCells ⟨b, off, none⟩ us.length).run X.P m.w = .ok us.toArray m.w := run_loadCells_list (P := X.P) m.w ⟨b, off, none⟩ us (fun j u hu => by
    have hj : j < cs.length := by rw [← hul]; exact (List.getElem?_eq_some_iff.1 hu).1
    obtain ⟨u', h1, h2, -⟩ := hus j cs[j] (List.getElem?_eq_getElem hj)
    rw [addr_add]
    rw [h1] at hu
    injection hu with hu
    rw [← hu]
    exact h2)
  cases hagg : L.kind.agg with
  | true =>
    rw [hagg] at hv
    simp only [mkV, if_true, Option.some.injEq] at hv
    subst hv
    refine ⟨.agg us.toArray, ?_, .agg (by simpa using hul) fun j c hj => ?_⟩
    · have hd : ∃ d, X.P.underlying t = some d ∧ (match d with | .struct _ | .array _ _ => true | _ => false) = true := by
        cases hkk : L.kind <;> rw [hkk] at hagg hk <;> simp [LK.agg] at hagg
        · exact ⟨_, hk, rfl⟩
        · obtain ⟨fields, h, -⟩ := hk
          exact ⟨_, h, rfl⟩
      obtain ⟨d, hd1, hd2⟩ := hd
      simp only [loadVar, isAgg, Sem.run_bind, run_underlying hd1, Result.andThen_ok]
      cases d <;> simp at hd2 <;> simp [sizeOf, typeInfo, hi, his, ← hl, ← hul, hload]
    · obtain ⟨u, h1, -, h3⟩ := hus j c hj
      exact ⟨u, by simpa using h1, h3⟩
  | false =>
    rw [hagg] at hv
    simp only [mkV, Bool.false_eq_true, if_false] at hv
    match cs, hv with
    | [x], hv =>
      simp only [Option.some.injEq] at hv
      subst hv
      obtain ⟨u, hu, hr⟩ := hc 0 x rfl
      refine ⟨u, ?_, .c hr⟩
      have hd : ∃ d, X.P.underlying t = some d ∧ (match d with | .struct _ | .array _ _ => true | _ => false) = false := by
        cases hkk : L.kind <;> rw [hkk] at hagg hk <;> simp [LK.agg] at hagg
        · exact hk
        all_goals exact ⟨_, hk, rfl⟩
      obtain ⟨d, hd1, hd2⟩ := hd
      simp only [loadVar, isAgg, Sem.run_bind, run_underlying hd1, Result.andThen_ok]
      cases d <;> simp at hd2 <;> simp [show m.w.cell? ⟨b, off, none⟩ = some u from by simpa using hu]

theorem good_move (hS : Sim X.G m H) {x : Operand} (ho : o.op = .move x ∨ o.op = .assign x) (hv : RV m v (ε x)) : Good X m H ε o v := by
  refine Good.here hS (u := ε x) ?_ hv
  rcases ho with ho | ho <;> simp [execOp, ho]

theorem good_pick (hS : Sim X.G m H) {c a b : Operand} (ho : o.op = .pick c a b) {t : Bool} (hc : ε c = .bool t) {va vb : V} (ha : RV m va (ε a)) (hb : RV m vb (ε b)) :
    Good X m H ε o (if t then va else vb) := by
  refine Good.here hS (u := if t then ε a else ε b) ?_ (by cases t <;> simpa)
  cases t <;> simp [execOp, ho, hc, asBool]

theorem good_load (hS : Sim X.G m H) {t : TypeId} {x : Operand} (ho : o.op = .load t x) {L : Lay} (hL : X.lay t = some L) {b off : Nat} (hx : ε x = .pointer (some ⟨b, off, none⟩)) {cs : List C}
    (hc : ∀ (j : Nat) (c : C), cs[j]? = some c → ∃ u, m.w.cell? ⟨b, off + j, none⟩ = some u ∧ R m c u) (hl : cs.length = L.size) (hv : mkV L.kind.agg cs = some v) : Good X m H ε o v := by
  obtain ⟨u, h1, h2⟩ := run_loadVar hL hc hl hv
  refine Good.here hS (u := u) ?_ h2
  simp [execOp, ho, hx, Instr.loadAt, Instr.sureAddr, h1]

theorem Sim.cell {G : Glob} {m : Mem} {H : List Ob} (hS : Sim G m H) {id : Nat} {ob : Ob} (ho : H[id]? = some ob) (hl : ob.live = true) {j : Nat} {c : C} (hj : ob.cs[j]? = some c) :
    ∃ u, m.w.cell? ⟨(m.μ id).block, (m.μ id).base + j, none⟩ = some u ∧ R m c u := by
  have hg : (m.μ id).gh = false := by
    cases hg : (m.μ id).gh with
    | false => rfl
    | true => rw [hS.gho id ob ho hl hg] at hj; simp at hj
  obtain ⟨arr, h1, -, -, h4, -⟩ := hS.ob id ob ho hl hg
  obtain ⟨u, hu, hr⟩ := h4 j c hj
  exact ⟨u, h1.cell hu, hr⟩

theorem struct_ok {t : TypeId} {fs : List (TypeId × Nat)} {s b : Nat} {z : List Value} (hL : X.lay t = some ⟨.struct fs, s, b, z⟩) :
    ∃ fields : Array Field, X.P.underlying t = some (.struct fields) ∧ ∀ (f : Nat) (p : TypeId × Nat), fs[f]? = some p → ∃ fd : Field, fields[f]? = some fd ∧ fd.type = p.1 ∧ fd.offset = p.2 ∧ ∃ i, X.P.info? fd.type = some i ∧ i.size ≠ 0 := by
  obtain ⟨fields, h1, h2, h5⟩ := (X.ok t _ hL).kind
  refine ⟨fields, h1, fun f p hf => ?_⟩
  rw [← h2, List.getElem?_map, Option.map_eq_some_iff] at hf
  obtain ⟨fd, h3, h4⟩ := hf
  have h6 := List.all_eq_true.1 h5 fd (List.mem_of_getElem? h3)
  refine ⟨fd, by simpa using h3, by rw [← h4], by rw [← h4], ?_⟩
  cases hi : X.P.info? fd.type with
  | none => simp [Program.cellsOf, hi] at h6
  | some i => exact ⟨i, rfl, by simpa [Program.cellsOf, hi] using h6⟩

theorem size_ok {t : TypeId} {L : Lay} (hL : X.lay t = some L) : ∃ i, X.P.info? t = some i ∧ i.size = L.size := by
  obtain ⟨-, -, i, z, h1, h2, -⟩ := X.ok t L hL
  exact ⟨i, h1, h2⟩

theorem good_fieldAddr (hS : Sim X.G m H) {s : TypeId} {x : Operand} {f : Nat} (ho : o.op = .fieldAddr s x f) {fs : List (TypeId × Nat)} {sz by_ : Nat} {z : List Value} (hL : X.lay s = some ⟨.struct fs, sz, by_, z⟩)
    {p : TypeId × Nat} (hp : fs[f]? = some p) {b off : Nat} (hx : ε x = .pointer (some ⟨b, off, none⟩)) (hv : RV m v (.pointer (some ⟨b, off + p.2, none⟩))) : Good X m H ε o v := by
  obtain ⟨fields, h1, h2⟩ := struct_ok hL
  obtain ⟨fd, h3, h4, h5, i, h6, h7⟩ := h2 f p hp
  refine Good.here hS (u := .pointer (some ⟨b, off + p.2, none⟩)) ?_ hv
  simp [execOp, ho, hx, Instr.fieldAt, Instr.sureAddr, run_underlying h1, h3, fieldPlace, h5, addr_add, sizeOf, typeInfo, h6, h7]

theorem good_indexAddr (hS : Sim X.G m H) {t : TypeId} {x i : Operand} (ho : o.op = .indexAddr t x i) {e : TypeId} {L : Lay} (hL : X.lay e = some L) {b off : Nat} {n : Nat} {k : IntKind} {j : Int}
    (hi : ε i = .int k j) (h0 : 0 ≤ j) (hj : j < n)
    (ht : (X.P.underlying t = some (.array n e) ∧ ε x = .pointer (some ⟨b, off, none⟩)) ∨ (∃ c, X.P.underlying t = some (.slice e) ∧ ε x = .slice (some ⟨b, off, none⟩) n c))
    (hv : RV m v (.pointer (some ⟨b, off + j.toNat * L.size, none⟩))) : Good X m H ε o v := by
  obtain ⟨inf, h1, h2⟩ := size_ok hL
  refine Good.here hS (u := .pointer (some ⟨b, off + j.toNat * L.size, none⟩)) ?_ hv
  rcases ht with ⟨ht, hx⟩ | ⟨c, ht, hx⟩
  · simp [execOp, ho, hx, hi, Instr.indexAt, Instr.sureAddr, run_underlying ht, asIntOf, h0, hj, sizeOf, typeInfo, h1, h2, addr_add]
  · simp [execOp, ho, hx, hi, Instr.indexAt, Instr.sureAddr, run_underlying ht, asIntOf, h0, hj, sizeOf, typeInfo, h1, h2, addr_add]

/-- A part of a value's cells. -/
theorem run_part {t : TypeId} {L : Lay} (hL : X.lay t = some L) {arr : Array Value} {cs : List C} (hs : arr.size = cs.length) (hc : ∀ (j : Nat) (c : C), cs[j]? = some c → ∃ u, arr[j]? = some u ∧ R m c u) {off : Nat}
    (hl : off + L.size ≤ cs.length) (hv : mkV L.kind.agg (sub cs off L.size) = some v) (w : World) : ∃ u, (part t arr off).run X.P w = .ok u w ∧ RV m v u := by
  obtain ⟨hk, -, i, z, hi, his, -⟩ := X.ok t L hL
  cases hagg : L.kind.agg with
  | true =>
    rw [hagg] at hv
    simp only [mkV, if_true, Option.some.injEq] at hv
    subst hv
    have hd : ∃ d, X.P.underlying t = some d ∧ (match d with | .struct _ | .array _ _ => true | _ => false) = true := by
      cases hkk : L.kind <;> rw [hkk] at hagg hk <;> simp [LK.agg] at hagg
      · exact ⟨_, hk, rfl⟩
      · obtain ⟨fields, h, -⟩ := hk
        exact ⟨_, h, rfl⟩
    obtain ⟨d, hd1, hd2⟩ := hd
    refine ⟨.agg (arr.extract off (off + L.size)), ?_, .agg (by rw [sub_length hl, Array.size_extract]; omega) fun j c hj => ?_⟩
    · simp only [part, isAgg, Sem.run_bind, run_underlying hd1, Result.andThen_ok]
      cases d <;> simp at hd2 <;> simp [sizeOf, typeInfo, hi, his]
    · obtain ⟨hjl, hg⟩ := sub_get hj
      obtain ⟨u, h1, h2⟩ := hc _ _ hg
      refine ⟨u, ?_, h2⟩
      rw [Array.getElem?_extract, if_pos (by omega)]
      exact h1
  | false =>
    rw [hagg] at hv
    simp only [mkV, Bool.false_eq_true, if_false] at hv
    have hd : ∃ d, X.P.underlying t = some d ∧ (match d with | .struct _ | .array _ _ => true | _ => false) = false := by
      cases hkk : L.kind <;> rw [hkk] at hagg hk <;> simp [LK.agg] at hagg
      · exact hk
      all_goals exact ⟨_, hk, rfl⟩
    obtain ⟨d, hd1, hd2⟩ := hd
    generalize hsub : sub cs off L.size = s at hv
    match s, hv with
    | [x], hv =>
      simp only [Option.some.injEq] at hv
      subst hv
      have h0 : (sub cs off L.size)[0]? = some x := by rw [hsub]; rfl
      obtain ⟨-, hg⟩ := sub_get h0
      obtain ⟨u, h1, h2⟩ := hc _ _ hg
      refine ⟨u, ?_, .c h2⟩
      simp only [part, isAgg, Sem.run_bind, run_underlying hd1, Result.andThen_ok]
      simp only [Nat.add_zero] at h1
      cases d <;> simp at hd2 <;> simp [h1]

theorem good_field (hS : Sim X.G m H) {s : TypeId} {x : Operand} {f : Nat} (ho : o.op = .field s x f) {fs : List (TypeId × Nat)} {sz by_ : Nat} {z : List Value} (hL : X.lay s = some ⟨.struct fs, sz, by_, z⟩)
    {p : TypeId × Nat} (hp : fs[f]? = some p) {L : Lay} (hL1 : X.lay p.1 = some L) {cs : List C} (hx : RV m (.agg cs) (ε x)) (hl : p.2 + L.size ≤ cs.length) (hv : mkV L.kind.agg (sub cs p.2 L.size) = some v) : Good X m H ε o v := by
  obtain ⟨fields, h1, h2⟩ := struct_ok hL
  obtain ⟨fd, h3, h4, h5, -⟩ := h2 f p hp
  obtain ⟨arr, hxe, has, hr⟩ := hx.aggI
  obtain ⟨u, hu, hrv⟩ := run_part hL1 has hr hl hv m.w
  refine Good.here hS (u := u) ?_ hrv
  simp [execOp, ho, hxe, Instr.field, run_underlying h1, h3, asAgg, h4, h5, hu]

theorem good_index_array (hS : Sim X.G m H) {t e : TypeId} {x i : Operand} {n : Nat} (ho : o.op = .index t x i) (ht : X.P.underlying t = some (.array n e)) {L : Lay} (hL : X.lay e = some L) {cs : List C}
    (hx : RV m (.agg cs) (ε x)) {k : IntKind} {j : Int} (hi : ε i = .int k j) (h0 : 0 ≤ j) (hj : j < n) (hl : j.toNat * L.size + L.size ≤ cs.length) (hv : mkV L.kind.agg (sub cs (j.toNat * L.size) L.size) = some v) : Good X m H ε o v := by
  obtain ⟨inf, h1, h2⟩ := size_ok hL
  obtain ⟨arr, hxe, has, hr⟩ := hx.aggI
  obtain ⟨u, hu, hrv⟩ := run_part hL has hr hl hv m.w
  refine Good.here hS (u := u) ?_ hrv
  simp [execOp, ho, hxe, hi, Instr.index, run_underlying ht, asIntOf, h0, hj, sizeOf, typeInfo, h1, h2, hu]

theorem good_index_string (hS : Sim X.G m H) {t : TypeId} {x i : Operand} (ho : o.op = .index t x i) (ht : X.P.underlying t = some .string) {s : ByteArray} (hx : ε x = .string s) {k : IntKind} {j : Int}
    (hi : ε i = .int k j) (h0 : 0 ≤ j) (hj : j.toNat < s.size) : Good X m H ε o (.c (.v (.int .u8 ((s[j.toNat]'hj).toNat : Int)))) := by
  refine Good.here hS (u := .int .u8 ((s[j.toNat]'hj).toNat : Int)) ?_ (.c (.v rfl))
  simp [execOp, ho, hx, hi, Instr.index, run_underlying ht, asIntOf, h0, hj]

theorem good_extract (hS : Sim X.G m H) {x : Operand} {i : Nat} (ho : o.op = .extract x i) {vs : List V} (hx : RV m (.tup vs) (ε x)) (hv : vs[i]? = some v) : Good X m H ε o v := by
  generalize hu : ε x = u at hx
  cases hx with
  | tup us hl hw hr =>
    refine Good.here hS (u := us i) ?_ (hr i v hv)
    simp [execOp, ho, hu, Instr.extract, hw i v hv]

theorem good_nilCheck (hS : Sim X.G m H) {x : Operand} (ho : o.op = .nilCheck x) (hx : (∃ a, ε x = .pointer (some a)) ∨ (∃ g cs, ε x = .func (.func g) #[] cs)) (hv : RV m v (ε x)) : Good X m H ε o v := by
  refine Good.here hS (u := ε x) ?_ hv
  rcases hx with ⟨a, hx⟩ | ⟨g, cs, hx⟩ <;> simp [execOp, ho, hx]

theorem good_makeFunc (hS : Sim X.G m H) {g : FuncId} {first caps : Array Operand} (ho : o.op = .makeFunc (.func g) first caps) (hf : first.size = 0) {cs : List C}
    (hcs : cs.length = caps.size) (hr : ∀ (j : Nat) (c : C), cs[j]? = some c → ∃ x, caps[j]? = some x ∧ R m c (ε x)) : Good X m H ε o (.c (.fn g cs)) := by
  have hfe : first = #[] := Array.eq_empty_of_size_eq_zero hf
  subst hfe
  refine Good.here hS (u := .func (.func g) #[] (caps.map ε)) ?_ (.c ?_)
  · simp [execOp, ho, Instr.makeFunc]
  · obtain ⟨us, hul, hus⟩ := choose_list (p := fun j c (u : Value) => (caps.map ε)[j]? = some u ∧ R m c u) (cs := cs) (fun j c hj => by
      obtain ⟨x, hx, hr'⟩ := hr j c hj
      exact ⟨ε x, by simp [hx], hr'⟩)
    refine .func (fun j => us.getD j default) (by simp [hcs]) (fun j c hj => ?_) (fun j c hj => ?_)
    · obtain ⟨u, h1, h2, h3⟩ := hus j c hj
      simp [List.getD, h1, h2]
    · obtain ⟨u, h1, h2, h3⟩ := hus j c hj
      simp [List.getD, h1, h3]

theorem good_len (hS : Sim X.G m H) {x : Operand} {t : TypeId} (ho : o.op = .call { callee := .builtin .len, args := #[x], argTypes := #[t] }) {n : Int}
    (h : (∃ e a c, ∃ k : Nat, X.P.underlying t = some (.slice e) ∧ ε x = .slice a k c ∧ n = k) ∨ (∃ s, X.P.underlying t = some .string ∧ ε x = .string s ∧ n = s.size) ∨ (∃ e, ∃ k : Nat, X.P.underlying t = some (.array k e) ∧ n = k)) :
    Good X m H ε o (.c (.v (.int .i64 n))) := by
  refine Good.here hS (u := .int .i64 n) ?_ (.c (.v rfl))
  rcases h with ⟨e, a, c, k, ht, hx, rfl⟩ | ⟨s, ht, hx, rfl⟩ | ⟨e, k, ht, rfl⟩
  · simp [execOp, ho, resolve, invoke, builtin, Builtin.len_, run_underlying ht, hx, goInt]
  · simp [execOp, ho, resolve, invoke, builtin, Builtin.len_, run_underlying ht, hx, goInt]
  · simp [execOp, ho, resolve, invoke, builtin, Builtin.len_, run_underlying ht, goInt]

end
end Go.VL
