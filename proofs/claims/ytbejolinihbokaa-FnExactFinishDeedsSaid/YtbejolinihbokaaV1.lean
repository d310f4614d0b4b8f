/- Values of a program's calls as plain data: cells with frozen slices as lists, live objects by number; how they stand to the model's memory. Over any program. -/
import Derived.Orders
import Derived.Below
import Derived.Deep.Draws
import Derived.Calls
import Derived.CallAlone
namespace Go.VL
open Go.RowKit

/-- A cell, as data. 'sl': a slice whose memory nobody writes any more: n elements of k cells (or the nil slice, if there are none); 'own': all memory that it leads to is new since the call began (of a slice within a slice the outer word counts). 'vw': a pointer into such memory. 'pt', 'mu': a pointer, a slice into the live object 'id'. 'f': a float; none: some NaN. -/
inductive C where
  | v (x : Value)
  | f (k : FloatKind) (x : Option Nat)
  | sl (own : Bool) (n k : Nat) (cs : List C)
  | vw (own : Bool) (cs : List C) (off : Nat)
  | pt (id off : Nat)
  | mu (id off n k : Nat)
  | fn (f : FuncId) (caps : List C)
  | any

def C.own : C → Bool
  | .sl b _ _ _ => b
  | .vw b _ _ => b
  | _ => false

/-- A cell of memory that is not new is not new. -/
def reown : Bool → C → C
  | true, c => c
  | false, .sl _ n k cs => .sl false n k cs
  | false, .vw _ cs off => .vw false cs off
  | false, c => c

def reowns : Bool → List C → List C
  | true, cs => cs
  | false, cs => cs.map (reown false)
theorem reowns_get {o : Bool} {cs : List C} {j : Nat} {c : C} (h : (reowns o cs)[j]? = some c) : ∃ c', cs[j]? = some c' ∧ c = reown o c' := by
  cases o with
  | true => exact ⟨c, h, rfl⟩
  | false =>
    simp only [reowns, List.getElem?_map, Option.map_eq_some_iff] at h
    obtain ⟨c', h1, h2⟩ := h
    exact ⟨c', h1, h2.symm⟩
theorem reowns_length (o : Bool) (cs : List C) : (reowns o cs).length = cs.length := by
  cases o with
  | true => rfl
  | false => simp [reowns]

/-- What a slot holds. -/
inductive V where
  | c (x : C)
  | agg (cs : List C)
  | tup (vs : List V)
  | any

instance : Inhabited C := ⟨.any⟩
instance : Inhabited V := ⟨.any⟩

def plain : Value → Bool
  | .agg _ => false
  | .tuple _ => false
  | _ => true

def isNaN (k : FloatKind) (b : Nat) : Bool := (k.decode b).isNaN

/-- Where a live object lies: its block, its first cell there, the block's cells; 'gh': it lies nowhere, it is the nil slice. -/
structure Pl where
  block : Nat
  base : Nat
  size : Nat
  gh : Bool

structure Ob where
  cs : List C
  t : TypeId
  live : Bool

/-- How the memory is looked at: the world, what is frozen, where the call's own memory begins, how many objects there are, and where they lie. -/
structure Mem where
  w : World
  F : Nat → Prop
  B : Nat
  N : Nat
  μ : Nat → Pl

/-- Frozen data; 'o': all of its memory is new. -/
inductive RF (m : Mem) (o : Bool) : C → Value → Prop
  | v {x : Value} (h : plain x = true) : RF m o (.v x) x
  | fs {k : FloatKind} {b : Nat} (h : isNaN k b = false) : RF m o (.f k (some b)) (.float k b)
  | fn {k : FloatKind} {b : Nat} (h : isNaN k b = true) : RF m o (.f k none) (.float k b)
  | sl {b : Bool} {n k : Nat} {cs : List C} {a : Addr} {cap : Nat} (us : Nat → Value) (hn : n ≤ cap) (hc : cap ≤ maxLen) (hl : cs.length = n * k)
      (hF : cs ≠ [] → a.spot = none ∧ m.F a.block ∧ (o = true → m.B ≤ a.block))
      (hw : ∀ (j : Nat) (c : C), cs[j]? = some c → m.w.cell? ⟨a.block, a.off + j, none⟩ = some (us j)) (hr : ∀ (j : Nat) (c : C), cs[j]? = some c → RF m o c (us j)) :
      RF m o (.sl b n k cs) (.slice (some a) n cap)
  | nil {b : Bool} {k : Nat} : RF m o (.sl b 0 k []) (.slice none 0 0)
  | vw {b' : Bool} {cs : List C} {b base off : Nat} (us : Nat → Value) (hF : m.F b ∧ (o = true → m.B ≤ b))
      (hw : ∀ (j : Nat) (c : C), cs[j]? = some c → m.w.cell? ⟨b, base + j, none⟩ = some (us j)) (hr : ∀ (j : Nat) (c : C), cs[j]? = some c → RF m o c (us j)) :
      RF m o (.vw b' cs off) (.pointer (some ⟨b, base + off, none⟩))
  | any {u : Value} (h : plain u = true) : RF m o .any u

inductive R (m : Mem) : C → Value → Prop
  | fz {c : C} {u : Value} (h : RF m c.own c u) : R m c u
  | pt {id off : Nat} (h : id < m.N) (hg : (m.μ id).gh = false) : R m (.pt id off) (.pointer (some ⟨(m.μ id).block, (m.μ id).base + off, none⟩))
  | mu {id off n k cap : Nat} (h : id < m.N) (hg : (m.μ id).gh = false) (hn : n ≤ cap) (hs : (m.μ id).base + off + cap * k ≤ (m.μ id).size) (hm : cap ≤ maxLen) :
      R m (.mu id off n k) (.slice (some ⟨(m.μ id).block, (m.μ id).base + off, none⟩) n cap)
  | mn {id k : Nat} (h : id < m.N) (hg : (m.μ id).gh = true) : R m (.mu id 0 0 k) (.slice none 0 0)
  | func {g : FuncId} {caps : List C} {arr : Array Value} (us : Nat → Value) (hl : arr.size = caps.length) (hw : ∀ (j : Nat) (c : C), caps[j]? = some c → arr[j]? = some (us j))
      (hr : ∀ (j : Nat) (c : C), caps[j]? = some c → R m c (us j)) : R m (.fn g caps) (.func (.func g) #[] arr)

theorem R.v {m : Mem} {x : Value} (h : VL.plain x = true) : R m (.v x) x := .fz (.v h)
theorem R.fs {m : Mem} {k : FloatKind} {b : Nat} (h : isNaN k b = false) : R m (.f k (some b)) (.float k b) := .fz (.fs h)
theorem R.fn {m : Mem} {k : FloatKind} {b : Nat} (h : isNaN k b = true) : R m (.f k none) (.float k b) := .fz (.fn h)
theorem R.any {m : Mem} {u : Value} (h : VL.plain u = true) : R m .any u := .fz (.any h)

theorem RF.plain {m : Mem} {o : Bool} {c : C} {u : Value} (h : RF m o c u) : plain u = true := by
  cases h <;> first | rfl | assumption
theorem R.plain {m : Mem} {c : C} {u : Value} (h : R m c u) : plain u = true := by
  cases h <;> first | rfl | (rename_i h; exact h.plain)

/-- What is new may be held for what is not. -/
theorem RF.down {m : Mem} {o o' : Bool} (ho : o' = true → o = true) {c : C} {u : Value} (h : RF m o c u) : RF m o' c u := by
  induction h with
  | v h => exact .v h
  | fs h => exact .fs h
  | fn h => exact .fn h
  | sl us hn hc hl hF hw hr ih => exact .sl us hn hc hl (fun h => ⟨(hF h).1, (hF h).2.1, fun h2 => (hF h).2.2 (ho h2)⟩) hw ih
  | nil => exact .nil
  | vw us hF hw hr ih => exact .vw us ⟨hF.1, fun h2 => hF.2 (ho h2)⟩ hw ih
  | any h => exact .any h
/-- Of frozen data the outer word alone says whether it is new. -/
theorem RF.flag {m : Mem} {o : Bool} {b b' : Bool} {n k : Nat} {cs : List C} {u : Value} (h : RF m o (.sl b n k cs) u) : RF m o (.sl b' n k cs) u := by
  cases h with
  | sl us hn hc hl hF hw hr => exact .sl us hn hc hl hF hw hr
  | nil => exact .nil
theorem RF.flagv {m : Mem} {o : Bool} {b b' : Bool} {off : Nat} {cs : List C} {u : Value} (h : RF m o (.vw b cs off) u) : RF m o (.vw b' cs off) u := by
  cases h with
  | vw us hF hw hr => exact .vw us hF hw hr
/-- A frozen cell, read. -/
theorem RF.r {m : Mem} {o : Bool} {c : C} {u : Value} (h : RF m o c u) : R m (reown o c) u := by
  cases o with
  | true => exact .fz (h.down (fun _ => rfl))
  | false =>
    cases c <;> simp only [reown] <;> first
      | exact .fz h
      | exact .fz (h.flag (b' := false))
      | exact .fz (h.flagv (b' := false))

inductive RV (m : Mem) : V → Value → Prop
  | c {x : C} {u : Value} (h : R m x u) : RV m (.c x) u
  | agg {cs : List C} {arr : Array Value} (hl : arr.size = cs.length) (hr : ∀ (j : Nat) (c : C), cs[j]? = some c → ∃ u, arr[j]? = some u ∧ R m c u) : RV m (.agg cs) (.agg arr)
  | tup {vs : List V} {arr : Array Value} (us : Nat → Value) (hl : arr.size = vs.length) (hw : ∀ (j : Nat) (v : V), vs[j]? = some v → arr[j]? = some (us j))
      (hr : ∀ (j : Nat) (v : V), vs[j]? = some v → RV m v (us j)) : RV m (.tup vs) (.tuple arr)
  | any {u : Value} : RV m .any u

/-- One look at the memory goes on in another: frozen memory, and what was there before the call, stands; more may be frozen; there may be more objects. -/
structure Ext (m m' : Mem) : Prop where
  os : m'.w.os = m.w.os
  tape : m'.w.tape = m.w.tape
  output : m'.w.output = m.w.output
  size : m.w.heap.size ≤ m'.w.heap.size
  keep : ∀ b, m.F b ∨ b < m.B → m'.w.heap[b]? = m.w.heap[b]?
  F : ∀ b, m.F b → m'.F b
  B : m'.B = m.B
  N : m.N ≤ m'.N
  μ : ∀ id, id < m.N → m'.μ id = m.μ id
  Fn : ∀ b, m'.F b → m.F b ∨ m.B ≤ b

theorem Ext.refl (m : Mem) : Ext m m := ⟨rfl, rfl, rfl, Nat.le_refl _, fun _ _ => rfl, fun _ h => h, rfl, Nat.le_refl _, fun _ _ => rfl, fun _ h => .inl h⟩
theorem Ext.trans {a b c : Mem} (h : Ext a b) (k : Ext b c) : Ext a c :=
  ⟨k.os.trans h.os, k.tape.trans h.tape, k.output.trans h.output, Nat.le_trans h.size k.size,
    fun x hx => (k.keep x (hx.imp (h.F x) (fun hb => by rw [h.B]; exact hb))).trans (h.keep x hx), fun x hx => k.F x (h.F x hx), k.B.trans h.B, Nat.le_trans h.N k.N,
    fun id hid => (k.μ id (Nat.lt_of_lt_of_le hid h.N)).trans (h.μ id hid), fun x hx => (k.Fn x hx).elim (h.Fn x) (fun hb => .inr (by rw [← h.B]; exact hb))⟩

theorem Ext.cell {m m' : Mem} (h : Ext m m') {a : Addr} (hF : m.F a.block) : m'.w.cell? a = m.w.cell? a := World.cell?_of_block (w := m.w) (h.keep a.block (.inl hF))

theorem Ext.cellb {m m' : Mem} (h : Ext m m') {b o : Nat} (hF : m.F b) : m'.w.cell? ⟨b, o, none⟩ = m.w.cell? ⟨b, o, none⟩ := h.cell (a := ⟨b, o, none⟩) hF

/-- Frozen data stands wherever its memory does. -/
theorem RF.go {m m' : Mem} {o : Bool} (hk : ∀ b, m.F b → ∀ j, m'.w.cell? ⟨b, j, none⟩ = m.w.cell? ⟨b, j, none⟩) (hF : ∀ b, m.F b → (o = true → m.B ≤ b) → m'.F b) (hB : o = true → m'.B ≤ m.B) {c : C} {u : Value} (hr : RF m o c u) : RF m' o c u := by
  induction hr with
  | v h => exact .v h
  | fs h => exact .fs h
  | fn h => exact .fn h
  | sl us hn hc hl hF1 hw hr ih =>
    refine .sl us hn hc hl (fun hne => ?_) (fun j c hj => ?_) ih
    · obtain ⟨h1, h2, h3⟩ := hF1 hne
      exact ⟨h1, hF _ h2 h3, fun h => Nat.le_trans (hB h) (h3 h)⟩
    · rw [hk _ (hF1 (by rintro rfl; simp at hj)).2.1]
      exact hw j c hj
  | nil => exact .nil
  | vw us hF1 hw hr ih =>
    refine .vw us ⟨hF _ hF1.1 hF1.2, fun h => Nat.le_trans (hB h) (hF1.2 h)⟩ (fun j c hj => ?_) ih
    rw [hk _ hF1.1]
    exact hw j c hj
  | any h => exact .any h

theorem RF.ext {m m' : Mem} {o : Bool} (h : Ext m m') {c : C} {u : Value} (hr : RF m o c u) : RF m' o c u :=
  hr.go (fun b hb j => h.cellb hb) (fun b hb _ => h.F b hb) (fun _ => by rw [h.B]; exact Nat.le_refl _)

theorem R.ext {m m' : Mem} (h : Ext m m') {c : C} {u : Value} (hr : R m c u) : R m' c u := by
  induction hr with
  | fz h1 => exact .fz (h1.ext h)
  | pt hid hg =>
    rw [← h.μ _ hid] at hg ⊢
    exact .pt (Nat.lt_of_lt_of_le hid h.N) hg
  | mu hid hg hn hs hm =>
    rw [← h.μ _ hid] at hg hs ⊢
    exact .mu (Nat.lt_of_lt_of_le hid h.N) hg hn hs hm
  | mn hid hg =>
    rw [← h.μ _ hid] at hg
    exact .mn (Nat.lt_of_lt_of_le hid h.N) hg
  | func us hl hw hr ih => exact .func us hl hw ih

theorem RV.ext {m m' : Mem} (h : Ext m m') {c : V} {u : Value} (hr : RV m c u) : RV m' c u := by
  induction hr with
  | c h1 => exact .c (h1.ext h)
  | agg hl hr => exact .agg hl fun j c hj => let ⟨u, h1, h2⟩ := hr j c hj; ⟨u, h1, h2.ext h⟩
  | tup us hl hw _ ih => exact .tup us hl hw ih
  | any => exact .any

/-- The variables of the program that are looked at: the block's number and what it holds. -/
abbrev Glob := List (Nat × List Value)

/-- A variable of the program as it was laid: its row holds just these cells. -/
def GlAt (w : World) (g : Nat × List Value) : Prop := ∃ t s, w.heap[g.1]? = some (.cells g.2.toArray t s)
theorem GlAt.keep {w w' : World} {g : Nat × List Value} (h : GlAt w g) (e : w'.heap[g.1]? = w.heap[g.1]?) : GlAt w' g := by
  obtain ⟨t, s, h⟩ := h
  exact ⟨t, s, by rw [e]; exact h⟩
/-- The type of bytes: their rows may bear marks. -/
def markT : TypeId := 5
/-- A row of cells; a mark that it bears lies behind its cells. -/
def Row (w : World) (b : Nat) (arr : Array Value) (t : TypeId) : Prop := ∃ fz : Nat × Nat, w.heap[b]? = some (.cells arr t fz) ∧ (fz = (0, 0) ∨ (arr.size ≤ fz.1 ∧ t = markT))
theorem Row.of {w : World} {b : Nat} {arr : Array Value} {t : TypeId} (h : w.heap[b]? = some (.cells arr t (0, 0))) : Row w b arr t := ⟨_, h, .inl rfl⟩
theorem Row.eq {w w' : World} {b : Nat} {arr : Array Value} {t : TypeId} (h : Row w b arr t) (he : w'.heap[b]? = w.heap[b]?) : Row w' b arr t := let ⟨fz, h1, h2⟩ := h; ⟨fz, he.trans h1, h2⟩
theorem Row.cell {w : World} {b : Nat} {arr : Array Value} {t : TypeId} (h : Row w b arr t) {i : Nat} {u : Value} (hu : arr[i]? = some u) : w.cell? ⟨b, i, none⟩ = some u := by
  obtain ⟨fz, h1, -⟩ := h
  simp [World.cell?, h1, hu]

/-- The objects stand in memory. -/
structure Sim (G : Glob) (m : Mem) (H : List Ob) : Prop where
  N : m.N = H.length
  lo : ∀ b, m.F b → b < m.w.heap.size
  bs : m.B ≤ m.w.heap.size
  blk : ∀ id, id < m.N → (m.μ id).gh = false → (m.μ id).block < m.w.heap.size
  ob : ∀ (id : Nat) (o : Ob), H[id]? = some o → o.live = true → (m.μ id).gh = false → ∃ arr, Row m.w (m.μ id).block arr o.t ∧ arr.size = (m.μ id).size ∧
    (m.μ id).base + o.cs.length ≤ arr.size ∧ (∀ (j : Nat) (c : C), o.cs[j]? = some c → ∃ u, arr[(m.μ id).base + j]? = some u ∧ R m c u) ∧ ¬ m.F (m.μ id).block ∧ m.B ≤ (m.μ id).block
  gho : ∀ (id : Nat) (o : Ob), H[id]? = some o → o.live = true → (m.μ id).gh = true → o.cs = []
  inj : ∀ (i j : Nat) (oi oj : Ob), H[i]? = some oi → H[j]? = some oj → oi.live = true → oj.live = true → (m.μ i).gh = false → (m.μ j).gh = false → i ≠ j → (m.μ i).block ≠ (m.μ j).block
  gl : ∀ g ∈ G, m.F g.1 ∧ (∀ (j : Nat) (x : Value), g.2[j]? = some x → m.w.cell? ⟨g.1, j, none⟩ = some x ∧ plain x = true) ∧ GlAt m.w g

theorem Mem.N_lt {G : Glob} {m : Mem} {H : List Ob} (h : Sim G m H) {id : Nat} {o : Ob} (ho : H[id]? = some o) : id < m.N := by
  rw [h.N]; exact (List.getElem?_eq_some_iff.1 ho).1

/-- A world in which nothing has turned but the count of draws, or in which there are new blocks: the objects stand; the new blocks may be counted among what is frozen. -/
theorem Sim.grow {G : Glob} {m : Mem} {H : List Ob} (h : Sim G m H) {w' : World} (hb : Below m.w.heap.size m.w w') :
    Sim G { m with w := w', F := fun b => m.F b ∨ (m.w.heap.size ≤ b ∧ b < w'.heap.size) } H ∧ Ext m { m with w := w', F := fun b => m.F b ∨ (m.w.heap.size ≤ b ∧ b < w'.heap.size) } := by
  have he : Ext m { m with w := w', F := fun b => m.F b ∨ (m.w.heap.size ≤ b ∧ b < w'.heap.size) } :=
    ⟨hb.os, hb.tape, hb.output, hb.size, fun b hbb => hb.block b (hbb.elim (h.lo b) (fun hlt => Nat.lt_of_lt_of_le hlt h.bs)), fun b hF => .inl hF, rfl, Nat.le_refl _, fun _ _ => rfl, fun b hF => hF.imp id (fun h2 => Nat.le_trans h.bs h2.1)⟩
  refine ⟨⟨h.N, fun b hF => ?_, Nat.le_trans h.bs hb.size, fun id hid hg => Nat.lt_of_lt_of_le (h.blk id hid hg) hb.size, fun id o ho hl hg => ?_, h.gho, h.inj, fun g hg => ?_⟩, he⟩
  · rcases hF with hF | hF
    · exact Nat.lt_of_lt_of_le (h.lo b hF) hb.size
    · exact hF.2
  · obtain ⟨arr, h1, h2, h3, h4, h5, h6⟩ := h.ob id o ho hl hg
    have hlt := h.blk id (Mem.N_lt h ho) hg
    refine ⟨arr, h1.eq (hb.block _ hlt), h2, h3, fun j c hj => ?_, ?_, h6⟩
    · obtain ⟨u, hu, hr⟩ := h4 j c hj
      exact ⟨u, hu, hr.ext he⟩
    · rintro (hF | hF)
      · exact h5 hF
      · exact absurd hF.1 (by simpa using hlt)
  · obtain ⟨h1, h2⟩ := h.gl g hg
    exact ⟨.inl h1, fun j x hj => ⟨(he.cell (a := ⟨g.1, j, none⟩) h1).trans (h2.1 j x hj).1, (h2.1 j x hj).2⟩, h2.2.keep (he.keep g.1 (.inl h1))⟩

/-- A draw turns nothing. -/
theorem Sim.same {G : Glob} {m : Mem} {H : List Ob} (h : Sim G m H) {w' : World} (h1 : w'.heap = m.w.heap) (h2 : w'.os = m.w.os) (h3 : w'.tape = m.w.tape) (h4 : w'.output = m.w.output) :
    Sim G { m with w := w' } H ∧ Ext m { m with w := w' } := by
  have he : Ext m { m with w := w' } := ⟨h2, h3, h4, by simp [h1], fun b _ => by simp [h1], fun _ h => h, rfl, Nat.le_refl _, fun _ _ => rfl, fun _ h => .inl h⟩
  refine ⟨⟨h.N, by simpa [h1] using h.lo, by simpa [h1] using h.bs, by simpa [h1] using h.blk, fun id o ho hl hg => ?_, h.gho, h.inj, fun g hg => ?_⟩, he⟩
  · obtain ⟨arr, g1, g2, g3, g4, g5, g6⟩ := h.ob id o ho hl hg
    exact ⟨arr, g1.eq (by simp [h1]), g2, g3, fun j c hj => let ⟨u, hu, hr⟩ := g4 j c hj; ⟨u, hu, hr.ext he⟩, g5, g6⟩
  · obtain ⟨g1, g2⟩ := h.gl g hg
    exact ⟨g1, fun j x hj => ⟨(he.cell (a := ⟨g.1, j, none⟩) g1).trans (g2.1 j x hj).1, (g2.1 j x hj).2⟩, g2.2.keep (he.keep g.1 (.inl g1))⟩
end Go.VL
