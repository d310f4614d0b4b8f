/- Texts of one proof, put together: V1, V2, V3, V4, V4b, V5, V6, V7, V8, V9, V10, V11, V12, V13, V14. -/
import Derived.Orders
import Derived.Below
import Derived.Deep.Draws
import Derived.Calls
import Derived.CallAlone
import Derived.Laws.Cells
import Derived.Laws.Sem
import Derived.Laws.Entries
import Derived.Laws.Slices
import Derived.Laws.BytesString
import Derived.Laws.CopyRow
import Derived.Laws.AppendOwn
import Derived.Laws.MakeOwn
import Derived.ArgAppend
namespace Go.VL
open Go.RowKit

/-- A cell, as data. 'sl': a slice whose memory nobody writes any more: n elements of k cells (or the nil slice, if there are none); 'own': all memory that it leads to is new since the call began (of a slice within a slice the outer word counts). 'vw': a pointer into such memory. 'pt', 'mu': a pointer, a slice into the live object 'id'. 'f': a float; none: some NaN. -/
inductive C where
  | v (x : Value)
  | f (k : FloatKind) (x : Option Nat)
  | sl (own : Bool) (n k : Nat) (cs : List C)
  | vw (own : Bool) (cs : List C) (off : Nat)
  | pt (id off : Nat)
  | mu (id off n k : Nat)
  | fn (f : FuncId) (caps : List C)
  | any

def C.own : C → Bool
  | .sl b _ _ _ => b
  | .vw b _ _ => b
  | _ => false

/-- A cell of memory that is not new is not new. -/
def reown : Bool → C → C
  | true, c => c
  | false, .sl _ n k cs => .sl false n k cs
  | false, .vw _ cs off => .vw false cs off
  | false, c => c

def reowns : Bool → List C → List C
  | true, cs => cs
  | false, cs => cs.map (reown false)
theorem reowns_get {o : Bool} {cs : List C} {j : Nat} {c : C} (h : (reowns o cs)[j]? = some c) : ∃ c', cs[j]? = some c' ∧ c = reown o c' := by
  cases o with
  | true => exact ⟨c, h, rfl⟩
  | false =>
    simp only [reowns, List.getElem?_map, Option.map_eq_some_iff] at h
    obtain ⟨c', h1, h2⟩ := h
    exact ⟨c', h1, h2.symm⟩
theorem reowns_length (o : Bool) (cs : List C) : (reowns o cs).length = cs.length := by
  cases o with
  | true => rfl
  | false => simp [reowns]

/-- What a slot holds. -/
inductive V where
  | c (x : C)
  | agg (cs : List C)
  | tup (vs : List V)
  | any

instance : Inhabited C := ⟨.any⟩
instance : Inhabited V := ⟨.any⟩

def plain : Value → Bool
  | .agg _ => false
  | .tuple _ => false
  | _ => true

def isNaN (k : FloatKind) (b : Nat) : Bool := (k.decode b).isNaN

/-- Where a live object lies: its block, its first cell there, the block's cells; 'gh': it lies nowhere, it is the nil slice. -/
structure Pl where
  block : Nat
  base : Nat
  size : Nat
  gh : Bool

structure Ob where
  cs : List C
  t : TypeId
  live : Bool

/-- How the memory is looked at: the world, what is frozen, where the call's own memory begins, how many objects there are, and where they lie. -/
structure Mem where
  w : World
  F : Nat → Prop
  B : Nat
  N : Nat
  μ : Nat → Pl

/-- Frozen data; 'o': all of its memory is new. -/
inductive RF (m : Mem) (o : Bool) : C → Value → Prop
  | v {x : Value} (h : plain x = true) : RF m o (.v x) x
  | fs {k : FloatKind} {b : Nat} (h : isNaN k b = false) : RF m o (.f k (some b)) (.float k b)
  | fn {k : FloatKind} {b : Nat} (h : isNaN k b = true) : RF m o (.f k none) (.float k b)
  | sl {b : Bool} {n k : Nat} {cs : List C} {a : Addr} {cap : Nat} (us : Nat → Value) (hn : n ≤ cap) (hc : cap ≤ maxLen) (hl : cs.length = n * k)
      (hF : cs ≠ [] → a.spot = none ∧ m.F a.block ∧ (o = true → m.B ≤ a.block))
      (hw : ∀ (j : Nat) (c : C), cs[j]? = some c → m.w.cell? ⟨a.block, a.off + j, none⟩ = some (us j)) (hr : ∀ (j : Nat) (c : C), cs[j]? = some c → RF m o c (us j)) :
      RF m o (.sl b n k cs) (.slice (some a) n cap)
  | nil {b : Bool} {k : Nat} : RF m o (.sl b 0 k []) (.slice none 0 0)
  | vw {b' : Bool} {cs : List C} {b base off : Nat} (us : Nat → Value) (hF : m.F b ∧ (o = true → m.B ≤ b))
      (hw : ∀ (j : Nat) (c : C), cs[j]? = some c → m.w.cell? ⟨b, base + j, none⟩ = some (us j)) (hr : ∀ (j : Nat) (c : C), cs[j]? = some c → RF m o c (us j)) :
      RF m o (.vw b' cs off) (.pointer (some ⟨b, base + off, none⟩))
  | any {u : Value} (h : plain u = true) : RF m o .any u

inductive R (m : Mem) : C → Value → Prop
  | fz {c : C} {u : Value} (h : RF m c.own c u) : R m c u
  | pt {id off : Nat} (h : id < m.N) (hg : (m.μ id).gh = false) : R m (.pt id off) (.pointer (some ⟨(m.μ id).block, (m.μ id).base + off, none⟩))
  | mu {id off n k cap : Nat} (h : id < m.N) (hg : (m.μ id).gh = false) (hn : n ≤ cap) (hs : (m.μ id).base + off + cap * k ≤ (m.μ id).size) (hm : cap ≤ maxLen) :
      R m (.mu id off n k) (.slice (some ⟨(m.μ id).block, (m.μ id).base + off, none⟩) n cap)
  | mn {id k : Nat} (h : id < m.N) (hg : (m.μ id).gh = true) : R m (.mu id 0 0 k) (.slice none 0 0)
  | func {g : FuncId} {caps : List C} {arr : Array Value} (us : Nat → Value) (hl : arr.size = caps.length) (hw : ∀ (j : Nat) (c : C), caps[j]? = some c → arr[j]? = some (us j))
      (hr : ∀ (j : Nat) (c : C), caps[j]? = some c → R m c (us j)) : R m (.fn g caps) (.func (.func g) #[] arr)

theorem R.v {m : Mem} {x : Value} (h : VL.plain x = true) : R m (.v x) x := .fz (.v h)
theorem R.fs {m : Mem} {k : FloatKind} {b : Nat} (h : isNaN k b = false) : R m (.f k (some b)) (.float k b) := .fz (.fs h)
theorem R.fn {m : Mem} {k : FloatKind} {b : Nat} (h : isNaN k b = true) : R m (.f k none) (.float k b) := .fz (.fn h)
theorem R.any {m : Mem} {u : Value} (h : VL.plain u = true) : R m .any u := .fz (.any h)

theorem RF.plain {m : Mem} {o : Bool} {c : C} {u : Value} (h : RF m o c u) : plain u = true := by
  cases h <;> first | rfl | assumption
theorem R.plain {m : Mem} {c : C} {u : Value} (h : R m c u) : plain u = true := by
  cases h <;> first | rfl | (rename_i h; exact h.plain)

/-- What is new may be held for what is not. -/
theorem RF.down {m : Mem} {o o' : Bool} (ho : o' = true → o = true) {c : C} {u : Value} (h : RF m o c u) : RF m o' c u := by
  induction h with
  | v h => exact .v h
  | fs h => exact .fs h
  | fn h => exact .fn h
  | sl us hn hc hl hF hw hr ih => exact .sl us hn hc hl (fun h => ⟨(hF h).1, (hF h).2.1, fun h2 => (hF h).2.2 (ho h2)⟩) hw ih
  | nil => exact .nil
  | vw us hF hw hr ih => exact .vw us ⟨hF.1, fun h2 => hF.2 (ho h2)⟩ hw ih
  | any h => exact .any h
/-- Of frozen data the outer word alone says whether it is new. -/
theorem RF.flag {m : Mem} {o : Bool} {b b' : Bool} {n k : Nat} {cs : List C} {u : Value} (h : RF m o (.sl b n k cs) u) : RF m o (.sl b' n k cs) u := by
  cases h with
  | sl us hn hc hl hF hw hr => exact .sl us hn hc hl hF hw hr
  | nil => exact .nil
theorem RF.flagv {m : Mem} {o : Bool} {b b' : Bool} {off : Nat} {cs : List C} {u : Value} (h : RF m o (.vw b cs off) u) : RF m o (.vw b' cs off) u := by
  cases h with
  | vw us hF hw hr => exact .vw us hF hw hr
/-- A frozen cell, read. -/
theorem RF.r {m : Mem} {o : Bool} {c : C} {u : Value} (h : RF m o c u) : R m (reown o c) u := by
  cases o with
  | true => exact .fz (h.down (fun _ => rfl))
  | false =>
    cases c <;> simp only [reown] <;> first
      | exact .fz h
      | exact .fz (h.flag (b' := false))
      | exact .fz (h.flagv (b' := false))

inductive RV (m : Mem) : V → Value → Prop
  | c {x : C} {u : Value} (h : R m x u) : RV m (.c x) u
  | agg {cs : List C} {arr : Array Value} (hl : arr.size = cs.length) (hr : ∀ (j : Nat) (c : C), cs[j]? = some c → ∃ u, arr[j]? = some u ∧ R m c u) : RV m (.agg cs) (.agg arr)
  | tup {vs : List V} {arr : Array Value} (us : Nat → Value) (hl : arr.size = vs.length) (hw : ∀ (j : Nat) (v : V), vs[j]? = some v → arr[j]? = some (us j))
      (hr : ∀ (j : Nat) (v : V), vs[j]? = some v → RV m v (us j)) : RV m (.tup vs) (.tuple arr)
  | any {u : Value} : RV m .any u

/-- One look at the memory goes on in another: frozen memory, and what was there before the call, stands; more may be frozen; there may be more objects. -/
structure Ext (m m' : Mem) : Prop where
  os : m'.w.os = m.w.os
  tape : m'.w.tape = m.w.tape
  output : m'.w.output = m.w.output
  size : m.w.heap.size ≤ m'.w.heap.size
  keep : ∀ b, m.F b ∨ b < m.B → m'.w.heap[b]? = m.w.heap[b]?
  F : ∀ b, m.F b → m'.F b
  B : m'.B = m.B
  N : m.N ≤ m'.N
  μ : ∀ id, id < m.N → m'.μ id = m.μ id
  Fn : ∀ b, m'.F b → m.F b ∨ m.B ≤ b

theorem Ext.refl (m : Mem) : Ext m m := ⟨rfl, rfl, rfl, Nat.le_refl _, fun _ _ => rfl, fun _ h => h, rfl, Nat.le_refl _, fun _ _ => rfl, fun _ h => .inl h⟩
theorem Ext.trans {a b c : Mem} (h : Ext a b) (k : Ext b c) : Ext a c :=
  ⟨k.os.trans h.os, k.tape.trans h.tape, k.output.trans h.output, Nat.le_trans h.size k.size,
    fun x hx => (k.keep x (hx.imp (h.F x) (fun hb => by rw [h.B]; exact hb))).trans (h.keep x hx), fun x hx => k.F x (h.F x hx), k.B.trans h.B, Nat.le_trans h.N k.N,
    fun id hid => (k.μ id (Nat.lt_of_lt_of_le hid h.N)).trans (h.μ id hid), fun x hx => (k.Fn x hx).elim (h.Fn x) (fun hb => .inr (by rw [← h.B]; exact hb))⟩

theorem Ext.cell {m m' : Mem} (h : Ext m m') {a : Addr} (hF : m.F a.block) : m'.w.cell? a = m.w.cell? a := World.cell?_of_block (w := m.w) (h.keep a.block (.inl hF))

theorem Ext.cellb {m m' : Mem} (h : Ext m m') {b o : Nat} (hF : m.F b) : m'.w.cell? ⟨b, o, none⟩ = m.w.cell? ⟨b, o, none⟩ := h.cell (a := ⟨b, o, none⟩) hF

/-- Frozen data stands wherever its memory does. -/
theorem RF.go {m m' : Mem} {o : Bool} (hk : ∀ b, m.F b → ∀ j, m'.w.cell? ⟨b, j, none⟩ = m.w.cell? ⟨b, j, none⟩) (hF : ∀ b, m.F b → (o = true → m.B ≤ b) → m'.F b) (hB : o = true → m'.B ≤ m.B) {c : C} {u : Value} (hr : RF m o c u) : RF m' o c u := by
  induction hr with
  | v h => exact .v h
  | fs h => exact .fs h
  | fn h => exact .fn h
  | sl us hn hc hl hF1 hw hr ih =>
    refine .sl us hn hc hl (fun hne => ?_) (fun j c hj => ?_) ih
    · obtain ⟨h1, h2, h3⟩ := hF1 hne
      exact ⟨h1, hF _ h2 h3, fun h => Nat.le_trans (hB h) (h3 h)⟩
    · rw [hk _ (hF1 (by rintro rfl; simp at hj)).2.1]
      exact hw j c hj
  | nil => exact .nil
  | vw us hF1 hw hr ih =>
    refine .vw us ⟨hF _ hF1.1 hF1.2, fun h => Nat.le_trans (hB h) (hF1.2 h)⟩ (fun j c hj => ?_) ih
    rw [hk _ hF1.1]
    exact hw j c hj
  | any h => exact .any h

theorem RF.ext {m m' : Mem} {o : Bool} (h : Ext m m') {c : C} {u : Value} (hr : RF m o c u) : RF m' o c u :=
  hr.go (fun b hb j => h.cellb hb) (fun b hb _ => h.F b hb) (fun _ => by rw [h.B]; exact Nat.le_refl _)

theorem R.ext {m m' : Mem} (h : Ext m m') {c : C} {u : Value} (hr : R m c u) : R m' c u := by
  induction hr with
  | fz h1 => exact .fz (h1.ext h)
  | pt hid hg =>
    rw [← h.μ _ hid] at hg ⊢
    exact .pt (Nat.lt_of_lt_of_le hid h.N) hg
  | mu hid hg hn hs hm =>
    rw [← h.μ _ hid] at hg hs ⊢
    exact .mu (Nat.lt_of_lt_of_le hid h.N) hg hn hs hm
  | mn hid hg =>
    rw [← h.μ _ hid] at hg
    exact .mn (Nat.lt_of_lt_of_le hid h.N) hg
  | func us hl hw hr ih => exact .func us hl hw ih

theorem RV.ext {m m' : Mem} (h : Ext m m') {c : V} {u : Value} (hr : RV m c u) : RV m' c u := by
  induction hr with
  | c h1 => exact .c (h1.ext h)
  | agg hl hr => exact .agg hl fun j c hj => let ⟨u, h1, h2⟩ := hr j c hj; ⟨u, h1, h2.ext h⟩
  | tup us hl hw _ ih => exact .tup us hl hw ih
  | any => exact .any

/-- The variables of the program that are looked at: the block's number and what it holds. -/
abbrev Glob := List (Nat × List Value)

/-- A variable of the program as it was laid: its row holds just these cells. -/
def GlAt (w : World) (g : Nat × List Value) : Prop := ∃ t s, w.heap[g.1]? = some (.cells g.2.toArray t s)
theorem GlAt.keep {w w' : World} {g : Nat × List Value} (h : GlAt w g) (e : w'.heap[g.1]? = w.heap[g.1]?) : GlAt w' g := by
  obtain ⟨t, s, h⟩ := h
  exact ⟨t, s, by rw [e]; exact h⟩
/-- The type of bytes: their rows may bear marks. -/
def markT : TypeId := 5
/-- A row of cells; a mark that it bears lies behind its cells. -/
def Row (w : World) (b : Nat) (arr : Array Value) (t : TypeId) : Prop := ∃ fz : Nat × Nat, w.heap[b]? = some (.cells arr t fz) ∧ (fz = (0, 0) ∨ (arr.size ≤ fz.1 ∧ t = markT))
theorem Row.of {w : World} {b : Nat} {arr : Array Value} {t : TypeId} (h : w.heap[b]? = some (.cells arr t (0, 0))) : Row w b arr t := ⟨_, h, .inl rfl⟩
theorem Row.eq {w w' : World} {b : Nat} {arr : Array Value} {t : TypeId} (h : Row w b arr t) (he : w'.heap[b]? = w.heap[b]?) : Row w' b arr t := let ⟨fz, h1, h2⟩ := h; ⟨fz, he.trans h1, h2⟩
theorem Row.cell {w : World} {b : Nat} {arr : Array Value} {t : TypeId} (h : Row w b arr t) {i : Nat} {u : Value} (hu : arr[i]? = some u) : w.cell? ⟨b, i, none⟩ = some u := by
  obtain ⟨fz, h1, -⟩ := h
  simp [World.cell?, h1, hu]

/-- The objects stand in memory. -/
structure Sim (G : Glob) (m : Mem) (H : List Ob) : Prop where
  N : m.N = H.length
  lo : ∀ b, m.F b → b < m.w.heap.size
  bs : m.B ≤ m.w.heap.size
  blk : ∀ id, id < m.N → (m.μ id).gh = false → (m.μ id).block < m.w.heap.size
  ob : ∀ (id : Nat) (o : Ob), H[id]? = some o → o.live = true → (m.μ id).gh = false → ∃ arr, Row m.w (m.μ id).block arr o.t ∧ arr.size = (m.μ id).size ∧
    (m.μ id).base + o.cs.length ≤ arr.size ∧ (∀ (j : Nat) (c : C), o.cs[j]? = some c → ∃ u, arr[(m.μ id).base + j]? = some u ∧ R m c u) ∧ ¬ m.F (m.μ id).block ∧ m.B ≤ (m.μ id).block
  gho : ∀ (id : Nat) (o : Ob), H[id]? = some o → o.live = true → (m.μ id).gh = true → o.cs = []
  inj : ∀ (i j : Nat) (oi oj : Ob), H[i]? = some oi → H[j]? = some oj → oi.live = true → oj.live = true → (m.μ i).gh = false → (m.μ j).gh = false → i ≠ j → (m.μ i).block ≠ (m.μ j).block
  gl : ∀ g ∈ G, m.F g.1 ∧ (∀ (j : Nat) (x : Value), g.2[j]? = some x → m.w.cell? ⟨g.1, j, none⟩ = some x ∧ plain x = true) ∧ GlAt m.w g

theorem Mem.N_lt {G : Glob} {m : Mem} {H : List Ob} (h : Sim G m H) {id : Nat} {o : Ob} (ho : H[id]? = some o) : id < m.N := by
  rw [h.N]; exact (List.getElem?_eq_some_iff.1 ho).1

/-- A world in which nothing has turned but the count of draws, or in which there are new blocks: the objects stand; the new blocks may be counted among what is frozen. -/
theorem Sim.grow {G : Glob} {m : Mem} {H : List Ob} (h : Sim G m H) {w' : World} (hb : Below m.w.heap.size m.w w') :
    Sim G { m with w := w', F := fun b => m.F b ∨ (m.w.heap.size ≤ b ∧ b < w'.heap.size) } H ∧ Ext m { m with w := w', F := fun b => m.F b ∨ (m.w.heap.size ≤ b ∧ b < w'.heap.size) } := by
  have he : Ext m { m with w := w', F := fun b => m.F b ∨ (m.w.heap.size ≤ b ∧ b < w'.heap.size) } :=
    ⟨hb.os, hb.tape, hb.output, hb.size, fun b hbb => hb.block b (hbb.elim (h.lo b) (fun hlt => Nat.lt_of_lt_of_le hlt h.bs)), fun b hF => .inl hF, rfl, Nat.le_refl _, fun _ _ => rfl, fun b hF => hF.imp id (fun h2 => Nat.le_trans h.bs h2.1)⟩
  refine ⟨⟨h.N, fun b hF => ?_, Nat.le_trans h.bs hb.size, fun id hid hg => Nat.lt_of_lt_of_le (h.blk id hid hg) hb.size, fun id o ho hl hg => ?_, h.gho, h.inj, fun g hg => ?_⟩, he⟩
  · rcases hF with hF | hF
    · exact Nat.lt_of_lt_of_le (h.lo b hF) hb.size
    · exact hF.2
  · obtain ⟨arr, h1, h2, h3, h4, h5, h6⟩ := h.ob id o ho hl hg
    have hlt := h.blk id (Mem.N_lt h ho) hg
    refine ⟨arr, h1.eq (hb.block _ hlt), h2, h3, fun j c hj => ?_, ?_, h6⟩
    · obtain ⟨u, hu, hr⟩ := h4 j c hj
      exact ⟨u, hu, hr.ext he⟩
    · rintro (hF | hF)
      · exact h5 hF
      · exact absurd hF.1 (by simpa using hlt)
  · obtain ⟨h1, h2⟩ := h.gl g hg
    exact ⟨.inl h1, fun j x hj => ⟨(he.cell (a := ⟨g.1, j, none⟩) h1).trans (h2.1 j x hj).1, (h2.1 j x hj).2⟩, h2.2.keep (he.keep g.1 (.inl h1))⟩

/-- A draw turns nothing. -/
theorem Sim.same {G : Glob} {m : Mem} {H : List Ob} (h : Sim G m H) {w' : World} (h1 : w'.heap = m.w.heap) (h2 : w'.os = m.w.os) (h3 : w'.tape = m.w.tape) (h4 : w'.output = m.w.output) :
    Sim G { m with w := w' } H ∧ Ext m { m with w := w' } := by
  have he : Ext m { m with w := w' } := ⟨h2, h3, h4, by simp [h1], fun b _ => by simp [h1], fun _ h => h, rfl, Nat.le_refl _, fun _ _ => rfl, fun _ h => .inl h⟩
  refine ⟨⟨h.N, by simpa [h1] using h.lo, by simpa [h1] using h.bs, by simpa [h1] using h.blk, fun id o ho hl hg => ?_, h.gho, h.inj, fun g hg => ?_⟩, he⟩
  · obtain ⟨arr, g1, g2, g3, g4, g5, g6⟩ := h.ob id o ho hl hg
    exact ⟨arr, g1.eq (by simp [h1]), g2, g3, fun j c hj => let ⟨u, hu, hr⟩ := g4 j c hj; ⟨u, hu, hr.ext he⟩, g5, g6⟩
  · obtain ⟨g1, g2⟩ := h.gl g hg
    exact ⟨g1, fun j x hj => ⟨(he.cell (a := ⟨g.1, j, none⟩) g1).trans (g2.1 j x hj).1, (g2.1 j x hj).2⟩, g2.2.keep (he.keep g.1 (.inl g1))⟩
end Go.VL
namespace Go.VL
open Go.RowKit

/-- The shape of a type, as far as operations ask for it. -/
inductive LK where
  | other
  | bool
  | string
  | int (k : IntKind)
  | float (k : FloatKind)
  | slice (e : TypeId)
  | array (n : Nat) (e : TypeId)
  | struct (fs : List (TypeId × Nat))

structure Lay where
  kind : LK
  size : Nat
  bytes : Nat
  zero : List Value

def LK.agg : LK → Bool
  | .array _ _ => true
  | .struct _ => true
  | _ => false

def LK.ok (P : Program) (t : TypeId) : LK → Prop
  | .other => ∃ d, P.underlying t = some d ∧ (match d with | .struct _ | .array _ _ => true | _ => false) = false
  | .bool => P.underlying t = some .bool
  | .string => P.underlying t = some .string
  | .int k => P.underlying t = some (.int k)
  | .float k => P.underlying t = some (.float k)
  | .slice e => P.underlying t = some (.slice e)
  | .array n e => P.underlying t = some (.array n e)
  | .struct fs => ∃ fields : Array Field, P.underlying t = some (.struct fields) ∧ fields.toList.map (fun f => (f.type, f.offset)) = fs ∧ (fields.toList.all fun f => P.cellsOf f.type != 0) = true

structure LayOk (P : Program) (t : TypeId) (L : Lay) : Prop where
  kind : L.kind.ok P t
  plain : (L.zero.all plain) = true
  info : ∃ i z, P.info? t = some i ∧ i.size = L.size ∧ i.bytes = L.bytes ∧ i.zero = some z ∧ z.cells.toList = L.zero ∧ z.cells.size = L.size

/-- What is known of a program. -/
structure Cx where
  P : Program
  lay : TypeId → Option Lay
  ok : ∀ t L, lay t = some L → LayOk P t L
  G : Glob
  mixed : P.follows .mixedOrders = true

def cOf : Value → C
  | .float k b => .f k (if isNaN k b then none else some b)
  | x => .v x
def vOf : Value → V
  | .agg cs => if cs.toList.all plain then .agg (cs.toList.map cOf) else .any
  | .tuple _ => .any
  | x => .c (cOf x)

/-- What the slots hold. -/
abbrev Sl := Nat → V

def rho (G : Glob) (sl : Sl) : Operand → V
  | .tmp t => sl t
  | .const v => vOf v
  | .global g => match G.lookup g with
    | some cs => .c (.vw false (cs.map .v) 0)
    | none => .any
  | .func f => .c (.fn f [])

def V.cells : V → Option (List C)
  | .c x => some [x]
  | .agg cs => some cs
  | _ => none

/-- A value of some cells, of a type that is a struct or an array, or is not. -/
def mkV (agg : Bool) (cs : List C) : Option V :=
  if agg then some (.agg cs) else match cs with
    | [x] => some (.c x)
    | _ => none

def sub (cs : List C) (off n : Nat) : List C := (cs.drop off).take n

def fop (op : BinOp) (k : FloatKind) (x y : Option Nat) : Option Nat :=
  x.bind fun a => y.bind fun b => match op with
    | .add => k.format.add a b
    | .sub => k.format.sub a b
    | .mul => k.format.mul a b
    | .quo => k.format.div a b
    | _ => none
def ford (k : FloatKind) (x y : Option Nat) : Option Ordering := x.bind fun a => y.bind fun b => k.format.order a b

def bits (op : BinOp) (k : IntKind) (x y : Int) : Int :=
  let a := BitVec.ofInt k.bits x
  let b := BitVec.ofInt k.bits y
  match op with
  | .and => k.wrap (a &&& b).toNat
  | .or => k.wrap (a ||| b).toNat
  | .xor => k.wrap (a ^^^ b).toNat
  | _ => k.wrap (a &&& ~~~b).toNat

def binI (op : BinOp) (k : IntKind) (a b : Int) : Option C :=
  match op with
  | .add => some (.v (.int k (k.wrap (a + b))))
  | .sub => some (.v (.int k (k.wrap (a - b))))
  | .mul => some (.v (.int k (k.wrap (a * b))))
  | .quo => if b = 0 then none else some (.v (.int k (k.wrap (a.tdiv b))))
  | .rem => if b = 0 then none else some (.v (.int k (a.tmod b)))
  | .and | .or | .xor | .andNot => some (.v (.int k (bits op k a b)))
  | .eql => some (.v (.bool (a == b)))
  | .neq => some (.v (.bool (a != b)))
  | .lss => some (.v (.bool (decide (a < b))))
  | .leq => some (.v (.bool (decide (a ≤ b))))
  | .gtr => some (.v (.bool (decide (b < a))))
  | .geq => some (.v (.bool (decide (b ≤ a))))
  | _ => none

def binF (op : BinOp) (k : FloatKind) (a b : Option Nat) : Option C :=
  match op with
  | .add | .sub | .mul | .quo => some (.f k (fop op k a b))
  | .eql => some (.v (.bool (ford k a b == some .eq)))
  | .neq => some (.v (.bool (ford k a b != some .eq)))
  | .lss => some (.v (.bool (ford k a b == some .lt)))
  | .leq => some (.v (.bool (ford k a b == some .lt || ford k a b == some .eq)))
  | .gtr => some (.v (.bool (ford k a b == some .gt)))
  | .geq => some (.v (.bool (ford k a b == some .gt || ford k a b == some .eq)))
  | _ => none

def binS (op : BinOp) (a b : ByteArray) : Option C :=
  match op with
  | .add => if a.size + b.size ≤ maxLen then some (.v (.string (a ++ b))) else none
  | .eql => some (.v (.bool (a.toList == b.toList)))
  | .neq => some (.v (.bool (!(a.toList == b.toList))))
  | .lss => some (.v (.bool (Op.bytesLess a.toList b.toList)))
  | .leq => some (.v (.bool (Op.bytesLess a.toList b.toList || a.toList == b.toList)))
  | .gtr => some (.v (.bool (!(Op.bytesLess a.toList b.toList || a.toList == b.toList))))
  | .geq => some (.v (.bool (!Op.bytesLess a.toList b.toList)))
  | _ => none

def bin (op : BinOp) (kd : LK) (x y : C) : Option C :=
  match op, x, y with
  | .shl, .v (.int k a), .v (.int _ b) => if b < 0 then none else some (.v (.int k (k.wrap (a * 2 ^ min b.toNat k.bits))))
  | .shr, .v (.int k a), .v (.int _ b) => if b < 0 then none else some (.v (.int k (a.fdiv (2 ^ min b.toNat k.bits))))
  | op, .v (.int k a), .v (.int k' b) => if k = k' then binI op k a b else none
  | op, .f k a, .f k' b => if k = k' then binF op k a b else none
  | op, .v (.string a), .v (.string b) => binS op a b
  | .eql, .v (.bool a), .v (.bool b) => match kd with
    | .bool => some (.v (.bool (a == b)))
    | _ => none
  | .neq, .v (.bool a), .v (.bool b) => match kd with
    | .bool => some (.v (.bool (!(a == b))))
    | _ => none
  | _, _, _ => none

def un (op : UnOp) (x : C) : Option C :=
  match op, x with
  | .neg, .v (.int k n) => some (.v (.int k (k.wrap (0 - n))))
  | .not, .v (.bool b) => some (.v (.bool !b))
  | _, _ => none

/-- The cells of a value's parts, laid into cells. -/
def fillC (place : Nat → Option (Nat × Nat)) (cells : List C) : List (Nat × V) → Option (List C)
  | [] => some cells
  | (i, v) :: rest => match place i, v.cells with
    | some (off, size), some cs => if cs.length = size ∧ off + size ≤ cells.length then fillC place (cells.take off ++ cs ++ cells.drop (off + size)) rest else none
    | _, _ => none

def lenV : V → Option Int
  | .c (.sl _ n _ _) => some n
  | .c (.mu _ _ n _) => some n
  | .c (.v (.slice none 0 0)) => some 0
  | _ => none

def capsOf (ρ : Operand → V) : List Operand → Option (List C)
  | [] => some []
  | x :: r => match ρ x, capsOf ρ r with
    | .c a, some cs => some (a :: cs)
    | _, _ => none

/-- A float of another width; none: it does not fit. -/
def convF (k' k : FloatKind) (x : Option Nat) : Option (Option Nat) :=
  if k' = k then some x else match x with
    | none => some none
    | some b => match k'.decode b with
      | .number s m e => if (k.decode (k.encode (.number s m e))).isInfinity then none else some (some (k.encode (.number s m e)))
      | .infinity s => some (some (k.encode (.infinity s)))
      | .nan _ _ => none

/-- Cells that are bytes. -/
def bytesOf : List C → Option (List Int)
  | [] => some []
  | .v (.int .u8 n) :: r => (bytesOf r).map (n :: ·)
  | _ => none
/-- A word of bytes. -/
def strOf (ns : List Int) : ByteArray := ns.foldl (fun r n => r.push (UInt8.ofNat n.toNat)) ByteArray.empty

/-- A bound of a slice expression. -/
def bnd (ρ : Operand → V) (x : Option Operand) (d : Int) : Option Int :=
  match x with
  | none => some d
  | some y => match ρ y with
    | .c (.v (.int _ n)) => some n
    | _ => none

/-- What an operation that writes nothing comes to. -/
def evq (lay : TypeId → Option Lay) (H : List Ob) (ρ : Operand → V) : Op → Option V
  | .move x | .assign x => some (ρ x)
  | .pick c a b => match ρ c with
    | .c (.v (.bool t)) => some (if t then ρ a else ρ b)
    | _ => none
  | .load t a => match lay t, ρ a with
    | some L, .c (.vw o cs off) => if off + L.size ≤ cs.length then mkV L.kind.agg (reowns o (sub cs off L.size)) else none
    | some L, .c (.pt id off) => match H[id]? with
      | some o => if o.live = true ∧ off + L.size ≤ o.cs.length then mkV L.kind.agg (sub o.cs off L.size) else none
      | none => none
    | _, _ => none
  | .nilCheck x => match ρ x with
    | .c (.vw o cs off) => some (.c (.vw o cs off))
    | .c (.pt id off) => some (.c (.pt id off))
    | .c (.fn g cs) => some (.c (.fn g cs))
    | _ => none
  | .binOp op t x y _ => match lay t, ρ x, ρ y with
    | some L, .c a, .c b => (bin op L.kind a b).map .c
    | _, _, _ => none
  | .unOp op _ x => match ρ x with
    | .c a => (un op a).map .c
    | _ => none
  | .fieldAddr s x f => match lay s, ρ x with
    | some ⟨.struct fs, _, _, _⟩, .c (.vw o cs off) => fs[f]?.map fun p => .c (.vw o cs (off + p.2))
    | some ⟨.struct fs, _, _, _⟩, .c (.pt id off) => fs[f]?.map fun p => .c (.pt id (off + p.2))
    | _, _ => none
  | .field s x f => match lay s, ρ x with
    | some ⟨.struct fs, _, _, _⟩, .agg cs => fs[f]?.bind fun p => (lay p.1).bind fun L => if p.2 + L.size ≤ cs.length then mkV L.kind.agg (sub cs p.2 L.size) else none
    | _, _ => none
  | .indexAddr t x i => match lay t, ρ x, ρ i with
    | some ⟨.slice e, _, _, _⟩, .c (.sl o n k cs), .c (.v (.int _ j)) => match lay e with
      | some L => if L.size = k ∧ 0 < k ∧ 0 ≤ j ∧ j < n then some (.c (.vw o (sub cs (j.toNat * k) k) 0)) else none
      | none => none
    | some ⟨.slice e, _, _, _⟩, .c (.mu id off n k), .c (.v (.int _ j)) => match lay e with
      | some L => if L.size = k ∧ 0 ≤ j ∧ j < n then some (.c (.pt id (off + j.toNat * k))) else none
      | none => none
    | some ⟨.array n e, _, _, _⟩, .c (.vw o cs off), .c (.v (.int _ j)) => match lay e with
      | some L => if 0 ≤ j ∧ j < n then some (.c (.vw o cs (off + j.toNat * L.size))) else none
      | none => none
    | some ⟨.array n e, _, _, _⟩, .c (.pt id off), .c (.v (.int _ j)) => match lay e with
      | some L => if 0 ≤ j ∧ j < n then some (.c (.pt id (off + j.toNat * L.size))) else none
      | none => none
    | _, _, _ => none
  | .index t x i => match lay t, ρ x, ρ i with
    | some ⟨.array n e, _, _, _⟩, .agg cs, .c (.v (.int _ j)) => match lay e with
      | some L => if 0 ≤ j ∧ j < n ∧ j.toNat * L.size + L.size ≤ cs.length then mkV L.kind.agg (sub cs (j.toNat * L.size) L.size) else none
      | none => none
    | some ⟨.string, _, _, _⟩, .c (.v (.string s)), .c (.v (.int _ j)) =>
      if h : 0 ≤ j ∧ j.toNat < s.size then some (.c (.v (.int .u8 ((s[j.toNat]'h.2).toNat : Int)))) else none
    | _, _, _ => none
  | .extract x i => match ρ x with
    | .tup vs => vs[i]?
    | _ => none
  | .makeFunc (.func g) first caps => if first.size = 0 then (capsOf ρ caps.toList).map fun cs => .c (.fn g cs) else none
  | .call { callee := .builtin .len, args, argTypes } => match args.toList, argTypes.toList with
    | [x], [t] => match lay t, ρ x with
      | some ⟨.slice _, _, _, _⟩, v => (lenV v).map fun n => .c (.v (.int .i64 n))
      | some ⟨.string, _, _, _⟩, .c (.v (.string s)) => some (.c (.v (.int .i64 s.size)))
      | some ⟨.array n _, _, _, _⟩, _ => some (.c (.v (.int .i64 n)))
      | _, _ => none
    | _, _ => none
  | .call { callee := .builtin .max, args, argTypes := _ } => match args.toList with
    | [x, y] => match ρ x, ρ y with
      | .c (.v (.int k a)), .c (.v (.int _ b)) => some (.c (.v (.int k (if b > a then b else a))))
      | _, _ => none
    | _ => none
  | .call { callee := .builtin .min, args, argTypes := _ } => match args.toList with
    | [x, y] => match ρ x, ρ y with
      | .c (.v (.int k a)), .c (.v (.int _ b)) => some (.c (.v (.int k (if b < a then b else a))))
      | _, _ => none
    | _ => none
  | .build t parts => match lay t with
    | some ⟨.struct fs, _, _, z⟩ => match fs.mapM (fun p => (lay p.1).map fun L => (p.2, L.size)) with
      | some places => (fillC (places[·]?) (z.map cOf) (parts.toList.map fun p => (p.1, ρ p.2))).map .agg
      | none => none
    | some ⟨.array _ e, _, _, z⟩ => match lay e with
      | some L => (fillC (fun i => some (i * L.size, L.size)) (z.map cOf) (parts.toList.map fun p => (p.1, ρ p.2))).map .agg
      | none => none
    | _ => none
  | .convert s t x => match lay s, lay t, ρ x with
    | some ⟨.int _, _, _, _⟩, some ⟨.int k, _, _, _⟩, .c (.v (.int _ n)) => some (.c (.v (.int k (k.wrap n))))
    | some ⟨.int _, _, _, _⟩, some ⟨.float k, _, _, _⟩, .c (.v (.int _ n)) => some (.c (.f k (some (k.nearest n))))
    | some ⟨.float _, _, _, _⟩, some ⟨.float k, _, _, _⟩, .c (.f k' x) => match convF k' k x with
      | some y => some (.c (.f k y))
      | none => none
    | some ⟨.float _, _, _, _⟩, some ⟨.int k, _, _, _⟩, .c (.f k' (some b)) => match (k'.decode b).toInt .zero with
      | some n => if k.min ≤ n ∧ n ≤ k.max then some (.c (.v (.int k n))) else none
      | none => none
    | some ⟨.string, _, _, _⟩, some ⟨.string, _, _, _⟩, .c (.v (.string s)) => some (.c (.v (.string s)))
    | some ⟨.slice e, _, _, _⟩, some ⟨.string, _, _, _⟩, .c (.sl _ _n k cs) => match lay e, bytesOf cs with
      | some ⟨.int .u8, _, _, _⟩, some ns => if k = 1 then some (.c (.v (.string (strOf ns)))) else none
      | _, _ => none
    | _, _, _ => none
  | .slice t x lo hi none => match lay t, ρ x with
    | some ⟨.slice e, _, _, _⟩, .c (.sl o n k cs) => match lay e, bnd ρ lo 0, bnd ρ hi n with
      | some L, some l, some h => if L.size = k ∧ 0 < k ∧ 0 ≤ l ∧ l ≤ h ∧ h ≤ n then some (.c (.sl o (h.toNat - l.toNat) k (sub cs (l.toNat * k) ((h.toNat - l.toNat) * k)))) else none
      | _, _, _ => none
    | some ⟨.slice e, _, _, _⟩, .c (.mu id off n k) => match lay e, bnd ρ lo 0, bnd ρ hi n with
      | some L, some l, some h => if L.size = k ∧ 0 ≤ l ∧ l ≤ h ∧ h ≤ n ∧ (l = 0 ∨ l < n) then some (.c (.mu id (off + l.toNat * k) (h.toNat - l.toNat) k)) else if 0 < l ∧ l = h ∧ h = n then some (.c (.sl false 0 k [])) else none
      | _, _, _ => none
    | some ⟨.string, _, _, _⟩, .c (.v (.string s)) => match bnd ρ lo 0, bnd ρ hi s.size with
      | some l, some h => if 0 ≤ l ∧ l ≤ h ∧ h ≤ s.size then some (.c (.v (.string (s.extract l.toNat h.toNat)))) else none
      | _, _ => none
    | some ⟨.array n e, _, _, _⟩, .c (.vw o cs off) => match lay e, bnd ρ lo 0, bnd ρ hi n with
      | some L, some l, some h => if 0 < L.size ∧ 0 ≤ l ∧ l ≤ h ∧ h ≤ n ∧ n ≤ maxLen ∧ off + n * L.size ≤ cs.length then some (.c (.sl o (h.toNat - l.toNat) L.size (sub cs (off + l.toNat * L.size) ((h.toNat - l.toNat) * L.size)))) else none
      | _, _, _ => none
    | some ⟨.array n e, _, _, _⟩, .c (.pt id off) => match lay e, bnd ρ lo 0, bnd ρ hi n, H[id]? with
      | some L, some l, some h, some ob => if 0 ≤ l ∧ l ≤ h ∧ h ≤ n ∧ n ≤ maxLen ∧ ob.live = true ∧ off + n * L.size ≤ ob.cs.length ∧ (l = 0 ∨ l < n) then some (.c (.mu id (off + l.toNat * L.size) (h.toNat - l.toNat) L.size)) else none
      | _, _, _, _ => none
    | _, _ => none
  | _ => none
end Go.VL
namespace Go.VL
open Go.RowKit

theorem choose_list {α β : Type} {p : Nat → α → β → Prop} : ∀ {cs : List α}, (∀ (j : Nat) (c : α), cs[j]? = some c → ∃ u, p j c u) →
    ∃ us : List β, us.length = cs.length ∧ ∀ (j : Nat) (c : α), cs[j]? = some c → ∃ u, us[j]? = some u ∧ p j c u := by
  intro cs
  induction cs generalizing p with
  | nil => intro _; exact ⟨[], rfl, fun j c h => by simp at h⟩
  | cons x xs ih =>
    intro h
    obtain ⟨u, hu⟩ := h 0 x rfl
    obtain ⟨us, hl, hus⟩ := ih (p := fun j c u => p (j + 1) c u) (fun j c hj => h (j + 1) c (by simpa using hj))
    refine ⟨u :: us, by simp [hl], fun j c hj => ?_⟩
    cases j with
    | zero => simp at hj; subst hj; exact ⟨u, rfl, hu⟩
    | succ j => simpa using hus j c (by simpa using hj)

section inv
variable {m : Mem} {u : Value}
theorem R.val {x : Value} (h : R m (.v x) u) : u = x := by cases h with | fz h => cases h; rfl
theorem RV.cell {x : C} (h : RV m (.c x) u) : R m x u := by cases h; assumption
theorem RV.val {x : Value} (h : RV m (.c (.v x)) u) : u = x := h.cell.val
theorem RV.aggI {cs : List C} (h : RV m (.agg cs) u) : ∃ arr : Array Value, u = .agg arr ∧ arr.size = cs.length ∧ ∀ (j : Nat) (c : C), cs[j]? = some c → ∃ u, arr[j]? = some u ∧ R m c u := by
  cases h with | agg hl hr => exact ⟨_, rfl, hl, hr⟩
end inv

def Good (X : Cx) (m : Mem) (H : List Ob) (ε : Operand → Value) (o : Oper) (v : V) : Prop :=
  ∃ u m', (execOp ε o).run X.P m.w = .ok (.value u) m'.w ∧ Sim X.G m' H ∧ Ext m m' ∧ RV m' v u

section
variable {X : Cx} {m : Mem} {H : List Ob} {ε : Operand → Value} {o : Oper} {v : V}

/-- An operation that turns nothing at all. -/
theorem Good.here (hS : Sim X.G m H) {u : Value} (h : (execOp ε o).run X.P m.w = .ok (.value u) m.w) (hv : RV m v u) : Good X m H ε o v := ⟨u, m, h, hS, Ext.refl m, hv⟩

theorem sub_get {cs : List C} {off n j : Nat} {c : C} (h : (sub cs off n)[j]? = some c) : j < n ∧ cs[off + j]? = some c := by
  unfold sub at h
  have hj : j < n := by
    have := (List.getElem?_eq_some_iff.1 h).1
    simp at this; omega
  rw [List.getElem?_take_of_lt hj, List.getElem?_drop] at h
  exact ⟨hj, h⟩
theorem sub_length {cs : List C} {off n : Nat} (h : off + n ≤ cs.length) : (sub cs off n).length = n := by unfold sub; simp; omega

theorem addr_add (b o j : Nat) : (⟨b, o, none⟩ : Addr).add j = ⟨b, o + j, none⟩ := by unfold Addr.add; split <;> simp_all

/-- A variable read: its cells. -/
theorem run_loadVar {t : TypeId} {L : Lay} (hL : X.lay t = some L) {b off : Nat} {cs : List C} (hc : ∀ (j : Nat) (c : C), cs[j]? = some c → ∃ u, m.w.cell? ⟨b, off + j, none⟩ = some u ∧ R m c u)
    (hl : cs.length = L.size) (hv : mkV L.kind.agg cs = some v) : ∃ u, (loadVar t ⟨b, off, none⟩).run X.P m.w = .ok u m.w ∧ RV m v u := by
  obtain ⟨us, hul, hus⟩ := choose_list hc
  obtain ⟨hk, -, i, z, hi, his, -⟩ := X.ok t L hL
  have hload : (loadCells ⟨b, off, none⟩ us.length).run X.P m.w = .ok us.toArray m.w := run_loadCells_list (P := X.P) m.w ⟨b, off, none⟩ us (fun j u hu => by
    have hj : j < cs.length := by rw [← hul]; exact (List.getElem?_eq_some_iff.1 hu).1
    obtain ⟨u', h1, h2, -⟩ := hus j cs[j] (List.getElem?_eq_getElem hj)
    rw [addr_add]
    rw [h1] at hu
    injection hu with hu
    rw [← hu]
    exact h2)
  cases hagg : L.kind.agg with
  | true =>
    rw [hagg] at hv
    simp only [mkV, if_true, Option.some.injEq] at hv
    subst hv
    refine ⟨.agg us.toArray, ?_, .agg (by simpa using hul) fun j c hj => ?_⟩
    · have hd : ∃ d, X.P.underlying t = some d ∧ (match d with | .struct _ | .array _ _ => true | _ => false) = true := by
        cases hkk : L.kind <;> rw [hkk] at hagg hk <;> simp [LK.agg] at hagg
        · exact ⟨_, hk, rfl⟩
        · obtain ⟨fields, h, -⟩ := hk
          exact ⟨_, h, rfl⟩
      obtain ⟨d, hd1, hd2⟩ := hd
      simp only [loadVar, isAgg, Sem.run_bind, run_underlying hd1, Result.andThen_ok]
      cases d <;> simp at hd2 <;> simp [sizeOf, typeInfo, hi, his, ← hl, ← hul, hload]
    · obtain ⟨u, h1, -, h3⟩ := hus j c hj
      exact ⟨u, by simpa using h1, h3⟩
  | false =>
    rw [hagg] at hv
    simp only [mkV, Bool.false_eq_true, if_false] at hv
    match cs, hv with
    | [x], hv =>
      simp only [Option.some.injEq] at hv
      subst hv
      obtain ⟨u, hu, hr⟩ := hc 0 x rfl
      refine ⟨u, ?_, .c hr⟩
      have hd : ∃ d, X.P.underlying t = some d ∧ (match d with | .struct _ | .array _ _ => true | _ => false) = false := by
        cases hkk : L.kind <;> rw [hkk] at hagg hk <;> simp [LK.agg] at hagg
        · exact hk
        all_goals exact ⟨_, hk, rfl⟩
      obtain ⟨d, hd1, hd2⟩ := hd
      simp only [loadVar, isAgg, Sem.run_bind, run_underlying hd1, Result.andThen_ok]
      cases d <;> simp at hd2 <;> simp [show m.w.cell? ⟨b, off, none⟩ = some u from by simpa using hu]

theorem good_move (hS : Sim X.G m H) {x : Operand} (ho : o.op = .move x ∨ o.op = .assign x) (hv : RV m v (ε x)) : Good X m H ε o v := by
  refine Good.here hS (u := ε x) ?_ hv
  rcases ho with ho | ho <;> simp [execOp, ho]

theorem good_pick (hS : Sim X.G m H) {c a b : Operand} (ho : o.op = .pick c a b) {t : Bool} (hc : ε c = .bool t) {va vb : V} (ha : RV m va (ε a)) (hb : RV m vb (ε b)) :
    Good X m H ε o (if t then va else vb) := by
  refine Good.here hS (u := if t then ε a else ε b) ?_ (by cases t <;> simpa)
  cases t <;> simp [execOp, ho, hc, asBool]

theorem good_load (hS : Sim X.G m H) {t : TypeId} {x : Operand} (ho : o.op = .load t x) {L : Lay} (hL : X.lay t = some L) {b off : Nat} (hx : ε x = .pointer (some ⟨b, off, none⟩)) {cs : List C}
    (hc : ∀ (j : Nat) (c : C), cs[j]? = some c → ∃ u, m.w.cell? ⟨b, off + j, none⟩ = some u ∧ R m c u) (hl : cs.length = L.size) (hv : mkV L.kind.agg cs = some v) : Good X m H ε o v := by
  obtain ⟨u, h1, h2⟩ := run_loadVar hL hc hl hv
  refine Good.here hS (u := u) ?_ h2
  simp [execOp, ho, hx, Instr.loadAt, Instr.sureAddr, h1]

theorem Sim.cell {G : Glob} {m : Mem} {H : List Ob} (hS : Sim G m H) {id : Nat} {ob : Ob} (ho : H[id]? = some ob) (hl : ob.live = true) {j : Nat} {c : C} (hj : ob.cs[j]? = some c) :
    ∃ u, m.w.cell? ⟨(m.μ id).block, (m.μ id).base + j, none⟩ = some u ∧ R m c u := by
  have hg : (m.μ id).gh = false := by
    cases hg : (m.μ id).gh with
    | false => rfl
    | true => rw [hS.gho id ob ho hl hg] at hj; simp at hj
  obtain ⟨arr, h1, -, -, h4, -⟩ := hS.ob id ob ho hl hg
  obtain ⟨u, hu, hr⟩ := h4 j c hj
  exact ⟨u, h1.cell hu, hr⟩

theorem struct_ok {t : TypeId} {fs : List (TypeId × Nat)} {s b : Nat} {z : List Value} (hL : X.lay t = some ⟨.struct fs, s, b, z⟩) :
    ∃ fields : Array Field, X.P.underlying t = some (.struct fields) ∧ ∀ (f : Nat) (p : TypeId × Nat), fs[f]? = some p → ∃ fd : Field, fields[f]? = some fd ∧ fd.type = p.1 ∧ fd.offset = p.2 ∧ ∃ i, X.P.info? fd.type = some i ∧ i.size ≠ 0 := by
  obtain ⟨fields, h1, h2, h5⟩ := (X.ok t _ hL).kind
  refine ⟨fields, h1, fun f p hf => ?_⟩
  rw [← h2, List.getElem?_map, Option.map_eq_some_iff] at hf
  obtain ⟨fd, h3, h4⟩ := hf
  have h6 := List.all_eq_true.1 h5 fd (List.mem_of_getElem? h3)
  refine ⟨fd, by simpa using h3, by rw [← h4], by rw [← h4], ?_⟩
  cases hi : X.P.info? fd.type with
  | none => simp [Program.cellsOf, hi] at h6
  | some i => exact ⟨i, rfl, by simpa [Program.cellsOf, hi] using h6⟩

theorem size_ok {t : TypeId} {L : Lay} (hL : X.lay t = some L) : ∃ i, X.P.info? t = some i ∧ i.size = L.size := by
  obtain ⟨-, -, i, z, h1, h2, -⟩ := X.ok t L hL
  exact ⟨i, h1, h2⟩

theorem good_fieldAddr (hS : Sim X.G m H) {s : TypeId} {x : Operand} {f : Nat} (ho : o.op = .fieldAddr s x f) {fs : List (TypeId × Nat)} {sz by_ : Nat} {z : List Value} (hL : X.lay s = some ⟨.struct fs, sz, by_, z⟩)
    {p : TypeId × Nat} (hp : fs[f]? = some p) {b off : Nat} (hx : ε x = .pointer (some ⟨b, off, none⟩)) (hv : RV m v (.pointer (some ⟨b, off + p.2, none⟩))) : Good X m H ε o v := by
  obtain ⟨fields, h1, h2⟩ := struct_ok hL
  obtain ⟨fd, h3, h4, h5, i, h6, h7⟩ := h2 f p hp
  refine Good.here hS (u := .pointer (some ⟨b, off + p.2, none⟩)) ?_ hv
  simp [execOp, ho, hx, Instr.fieldAt, Instr.sureAddr, run_underlying h1, h3, fieldPlace, h5, addr_add, sizeOf, typeInfo, h6, h7]

theorem good_indexAddr (hS : Sim X.G m H) {t : TypeId} {x i : Operand} (ho : o.op = .indexAddr t x i) {e : TypeId} {L : Lay} (hL : X.lay e = some L) {b off : Nat} {n : Nat} {k : IntKind} {j : Int}
    (hi : ε i = .int k j) (h0 : 0 ≤ j) (hj : j < n)
    (ht : (X.P.underlying t = some (.array n e) ∧ ε x = .pointer (some ⟨b, off, none⟩)) ∨ (∃ c, X.P.underlying t = some (.slice e) ∧ ε x = .slice (some ⟨b, off, none⟩) n c))
    (hv : RV m v (.pointer (some ⟨b, off + j.toNat * L.size, none⟩))) : Good X m H ε o v := by
  obtain ⟨inf, h1, h2⟩ := size_ok hL
  refine Good.here hS (u := .pointer (some ⟨b, off + j.toNat * L.size, none⟩)) ?_ hv
  rcases ht with ⟨ht, hx⟩ | ⟨c, ht, hx⟩
  · simp [execOp, ho, hx, hi, Instr.indexAt, Instr.sureAddr, run_underlying ht, asIntOf, h0, hj, sizeOf, typeInfo, h1, h2, addr_add]
  · simp [execOp, ho, hx, hi, Instr.indexAt, Instr.sureAddr, run_underlying ht, asIntOf, h0, hj, sizeOf, typeInfo, h1, h2, addr_add]

/-- A part of a value's cells. -/
theorem run_part {t : TypeId} {L : Lay} (hL : X.lay t = some L) {arr : Array Value} {cs : List C} (hs : arr.size = cs.length) (hc : ∀ (j : Nat) (c : C), cs[j]? = some c → ∃ u, arr[j]? = some u ∧ R m c u) {off : Nat}
    (hl : off + L.size ≤ cs.length) (hv : mkV L.kind.agg (sub cs off L.size) = some v) (w : World) : ∃ u, (part t arr off).run X.P w = .ok u w ∧ RV m v u := by
  obtain ⟨hk, -, i, z, hi, his, -⟩ := X.ok t L hL
  cases hagg : L.kind.agg with
  | true =>
    rw [hagg] at hv
    simp only [mkV, if_true, Option.some.injEq] at hv
    subst hv
    have hd : ∃ d, X.P.underlying t = some d ∧ (match d with | .struct _ | .array _ _ => true | _ => false) = true := by
      cases hkk : L.kind <;> rw [hkk] at hagg hk <;> simp [LK.agg] at hagg
      · exact ⟨_, hk, rfl⟩
      · obtain ⟨fields, h, -⟩ := hk
        exact ⟨_, h, rfl⟩
    obtain ⟨d, hd1, hd2⟩ := hd
    refine ⟨.agg (arr.extract off (off + L.size)), ?_, .agg (by rw [sub_length hl, Array.size_extract]; omega) fun j c hj => ?_⟩
    · simp only [part, isAgg, Sem.run_bind, run_underlying hd1, Result.andThen_ok]
      cases d <;> simp at hd2 <;> simp [sizeOf, typeInfo, hi, his]
    · obtain ⟨hjl, hg⟩ := sub_get hj
      obtain ⟨u, h1, h2⟩ := hc _ _ hg
      refine ⟨u, ?_, h2⟩
      rw [Array.getElem?_extract, if_pos (by omega)]
      exact h1
  | false =>
    rw [hagg] at hv
    simp only [mkV, Bool.false_eq_true, if_false] at hv
    have hd : ∃ d, X.P.underlying t = some d ∧ (match d with | .struct _ | .array _ _ => true | _ => false) = false := by
      cases hkk : L.kind <;> rw [hkk] at hagg hk <;> simp [LK.agg] at hagg
      · exact hk
      all_goals exact ⟨_, hk, rfl⟩
    obtain ⟨d, hd1, hd2⟩ := hd
    generalize hsub : sub cs off L.size = s at hv
    match s, hv with
    | [x], hv =>
      simp only [Option.some.injEq] at hv
      subst hv
      have h0 : (sub cs off L.size)[0]? = some x := by rw [hsub]; rfl
      obtain ⟨-, hg⟩ := sub_get h0
      obtain ⟨u, h1, h2⟩ := hc _ _ hg
      refine ⟨u, ?_, .c h2⟩
      simp only [part, isAgg, Sem.run_bind, run_underlying hd1, Result.andThen_ok]
      simp only [Nat.add_zero] at h1
      cases d <;> simp at hd2 <;> simp [h1]

theorem good_field (hS : Sim X.G m H) {s : TypeId} {x : Operand} {f : Nat} (ho : o.op = .field s x f) {fs : List (TypeId × Nat)} {sz by_ : Nat} {z : List Value} (hL : X.lay s = some ⟨.struct fs, sz, by_, z⟩)
    {p : TypeId × Nat} (hp : fs[f]? = some p) {L : Lay} (hL1 : X.lay p.1 = some L) {cs : List C} (hx : RV m (.agg cs) (ε x)) (hl : p.2 + L.size ≤ cs.length) (hv : mkV L.kind.agg (sub cs p.2 L.size) = some v) : Good X m H ε o v := by
  obtain ⟨fields, h1, h2⟩ := struct_ok hL
  obtain ⟨fd, h3, h4, h5, -⟩ := h2 f p hp
  obtain ⟨arr, hxe, has, hr⟩ := hx.aggI
  obtain ⟨u, hu, hrv⟩ := run_part hL1 has hr hl hv m.w
  refine Good.here hS (u := u) ?_ hrv
  simp [execOp, ho, hxe, Instr.field, run_underlying h1, h3, asAgg, h4, h5, hu]

theorem good_index_array (hS : Sim X.G m H) {t e : TypeId} {x i : Operand} {n : Nat} (ho : o.op = .index t x i) (ht : X.P.underlying t = some (.array n e)) {L : Lay} (hL : X.lay e = some L) {cs : List C}
    (hx : RV m (.agg cs) (ε x)) {k : IntKind} {j : Int} (hi : ε i = .int k j) (h0 : 0 ≤ j) (hj : j < n) (hl : j.toNat * L.size + L.size ≤ cs.length) (hv : mkV L.kind.agg (sub cs (j.toNat * L.size) L.size) = some v) : Good X m H ε o v := by
  obtain ⟨inf, h1, h2⟩ := size_ok hL
  obtain ⟨arr, hxe, has, hr⟩ := hx.aggI
  obtain ⟨u, hu, hrv⟩ := run_part hL has hr hl hv m.w
  refine Good.here hS (u := u) ?_ hrv
  simp [execOp, ho, hxe, hi, Instr.index, run_underlying ht, asIntOf, h0, hj, sizeOf, typeInfo, h1, h2, hu]

theorem good_index_string (hS : Sim X.G m H) {t : TypeId} {x i : Operand} (ho : o.op = .index t x i) (ht : X.P.underlying t = some .string) {s : ByteArray} (hx : ε x = .string s) {k : IntKind} {j : Int}
    (hi : ε i = .int k j) (h0 : 0 ≤ j) (hj : j.toNat < s.size) : Good X m H ε o (.c (.v (.int .u8 ((s[j.toNat]'hj).toNat : Int)))) := by
  refine Good.here hS (u := .int .u8 ((s[j.toNat]'hj).toNat : Int)) ?_ (.c (.v rfl))
  simp [execOp, ho, hx, hi, Instr.index, run_underlying ht, asIntOf, h0, hj]

theorem good_extract (hS : Sim X.G m H) {x : Operand} {i : Nat} (ho : o.op = .extract x i) {vs : List V} (hx : RV m (.tup vs) (ε x)) (hv : vs[i]? = some v) : Good X m H ε o v := by
  generalize hu : ε x = u at hx
  cases hx with
  | tup us hl hw hr =>
    refine Good.here hS (u := us i) ?_ (hr i v hv)
    simp [execOp, ho, hu, Instr.extract, hw i v hv]

theorem good_nilCheck (hS : Sim X.G m H) {x : Operand} (ho : o.op = .nilCheck x) (hx : (∃ a, ε x = .pointer (some a)) ∨ (∃ g cs, ε x = .func (.func g) #[] cs)) (hv : RV m v (ε x)) : Good X m H ε o v := by
  refine Good.here hS (u := ε x) ?_ hv
  rcases hx with ⟨a, hx⟩ | ⟨g, cs, hx⟩ <;> simp [execOp, ho, hx]

theorem good_makeFunc (hS : Sim X.G m H) {g : FuncId} {first caps : Array Operand} (ho : o.op = .makeFunc (.func g) first caps) (hf : first.size = 0) {cs : List C}
    (hcs : cs.length = caps.size) (hr : ∀ (j : Nat) (c : C), cs[j]? = some c → ∃ x, caps[j]? = some x ∧ R m c (ε x)) : Good X m H ε o (.c (.fn g cs)) := by
  have hfe : first = #[] := Array.eq_empty_of_size_eq_zero hf
  subst hfe
  refine Good.here hS (u := .func (.func g) #[] (caps.map ε)) ?_ (.c ?_)
  · simp [execOp, ho, Instr.makeFunc]
  · obtain ⟨us, hul, hus⟩ := choose_list (p := fun j c (u : Value) => (caps.map ε)[j]? = some u ∧ R m c u) (cs := cs) (fun j c hj => by
      obtain ⟨x, hx, hr'⟩ := hr j c hj
      exact ⟨ε x, by simp [hx], hr'⟩)
    refine .func (fun j => us.getD j default) (by simp [hcs]) (fun j c hj => ?_) (fun j c hj => ?_)
    · obtain ⟨u, h1, h2, h3⟩ := hus j c hj
      simp [List.getD, h1, h2]
    · obtain ⟨u, h1, h2, h3⟩ := hus j c hj
      simp [List.getD, h1, h3]

theorem good_len (hS : Sim X.G m H) {x : Operand} {t : TypeId} (ho : o.op = .call { callee := .builtin .len, args := #[x], argTypes := #[t] }) {n : Int}
    (h : (∃ e a c, ∃ k : Nat, X.P.underlying t = some (.slice e) ∧ ε x = .slice a k c ∧ n = k) ∨ (∃ s, X.P.underlying t = some .string ∧ ε x = .string s ∧ n = s.size) ∨ (∃ e, ∃ k : Nat, X.P.underlying t = some (.array k e) ∧ n = k)) :
    Good X m H ε o (.c (.v (.int .i64 n))) := by
  refine Good.here hS (u := .int .i64 n) ?_ (.c (.v rfl))
  rcases h with ⟨e, a, c, k, ht, hx, rfl⟩ | ⟨s, ht, hx, rfl⟩ | ⟨e, k, ht, rfl⟩
  · simp [execOp, ho, resolve, invoke, builtin, Builtin.len_, run_underlying ht, hx, goInt]
  · simp [execOp, ho, resolve, invoke, builtin, Builtin.len_, run_underlying ht, hx, goInt]
  · simp [execOp, ho, resolve, invoke, builtin, Builtin.len_, run_underlying ht, goInt]

end
end Go.VL
namespace Go.VL
open Go.RowKit

theorem word_mod (k : FloatKind) (neg : Bool) (r : Nat) (h : r ≤ k.format.infRung) : k.format.word neg r % k.format.signWeight = r := by
  have h1 : k.format.infRung < k.format.signWeight := by cases k <;> decide
  have h2 : r < k.format.signWeight := Nat.lt_of_le_of_lt h h1
  unfold Ieee.Format.word
  split
  · rw [Nat.add_mod_left, Nat.mod_eq_of_lt h2]
  · exact Nat.mod_eq_of_lt h2

theorem word_num (k : FloatKind) (neg : Bool) (r : Nat) (h : r ≤ k.format.infRung) : isNaN k (k.format.word neg r) = false := by
  unfold isNaN FloatKind.decode Ieee.Format.read
  simp only [word_mod k neg r h]
  split
  · rfl
  · split
    · rfl
    · rw [if_pos (by omega)]; rfl

theorem write_num (k : FloatKind) (d : Ieee.Datum) (h : d.isNaN = false) : isNaN k (k.format.write d) = false := by
  cases d with
  | number s m e =>
    show isNaN k (k.format.nearest s m e) = false
    unfold Ieee.Format.nearest
    split
    · exact word_num k s 0 (Nat.zero_le _)
    · exact word_num k s _ (Nat.min_le_right _ _)
  | infinity s => exact word_num k s _ (Nat.le_refl _)
  | nan s t => simp [Ieee.Datum.isNaN] at h

theorem sum_num {x y d : Ieee.Datum} (h : x.sum y = some d) : d.isNaN = false := by
  cases x <;> cases y <;> simp only [Ieee.Datum.sum] at h <;> first
    | (cases h; done)
    | (simp at h; subst h; rfl)
    | (split at h <;> simp at h; subst h; rfl)
theorem product_num {x y d : Ieee.Datum} (h : x.product y = some d) : d.isNaN = false := by
  cases x <;> cases y <;> simp only [Ieee.Datum.product] at h <;> first
    | (cases h; done)
    | (simp at h; subst h; rfl)
    | (split at h <;> simp at h; subst h; rfl)
theorem quotient_num {n : Nat} {x y d : Ieee.Datum} (h : Ieee.Datum.quotient n x y = some d) : d.isNaN = false := by
  cases x <;> cases y <;> simp only [Ieee.Datum.quotient] at h <;> first
    | (cases h; done)
    | (simp at h; subst h; rfl)
    | (split at h
       · split at h <;> simp at h
         subst h; rfl
       · simp at h; subst h; rfl)

def fbin (op : BinOp) (k : FloatKind) (a b : Nat) : Option Nat :=
  match op with
  | .add => k.format.add a b
  | .sub => k.format.sub a b
  | .mul => k.format.mul a b
  | .quo => k.format.div a b
  | _ => none

theorem fbin_num {op : BinOp} {k : FloatKind} {a b r : Nat} (h : fbin op k a b = some r) : isNaN k r = false := by
  cases op <;> simp only [fbin] at h <;> first | (cases h; done) | skip
  · obtain ⟨d, h1, rfl⟩ := Option.map_eq_some_iff.1 h; exact write_num k d (sum_num h1)
  · obtain ⟨d, h1, rfl⟩ := Option.map_eq_some_iff.1 h; exact write_num k d (sum_num h1)
  · obtain ⟨d, h1, rfl⟩ := Option.map_eq_some_iff.1 h; exact write_num k d (product_num h1)
  · obtain ⟨d, h1, rfl⟩ := Option.map_eq_some_iff.1 h; exact write_num k d (quotient_num h1)

theorem read_nan {k : FloatKind} {a : Nat} (h : isNaN k a = true) : ∃ s t, k.format.read a = .nan s t := by
  unfold isNaN FloatKind.decode at h
  cases hr : k.format.read a <;> rw [hr] at h <;> simp [Ieee.Datum.isNaN] at h
  exact ⟨_, _, rfl⟩

theorem fbin_nan {op : BinOp} {k : FloatKind} {a b : Nat} (h : isNaN k a = true ∨ isNaN k b = true) : fbin op k a b = none := by
  rcases h with h | h <;> obtain ⟨s, t, hr⟩ := read_nan h
  · cases op <;> simp [fbin, Ieee.Format.add, Ieee.Format.sub, Ieee.Format.mul, Ieee.Format.div, hr, Ieee.Datum.sum, Ieee.Datum.product, Ieee.Datum.quotient]
  · cases op <;> simp only [fbin, Ieee.Format.add, Ieee.Format.sub, Ieee.Format.mul, Ieee.Format.div, hr] <;> cases k.format.read a <;>
      simp [Ieee.Datum.sum, Ieee.Datum.product, Ieee.Datum.quotient, Ieee.Datum.opposite]

theorem ford_nan {k : FloatKind} {a b : Nat} (h : isNaN k a = true ∨ isNaN k b = true) : k.format.order a b = none := by
  rcases h with h | h <;> obtain ⟨s, t, hr⟩ := read_nan h
  · simp [Ieee.Format.order, hr, Ieee.Datum.order]
  · simp only [Ieee.Format.order, hr]; cases k.format.read a <;> simp [Ieee.Datum.order]

theorem cut_nan (k : FloatKind) (x y t : Nat) : isNaN k (Question.cut (.nanBits k x y) t) = true := by
  cases k
  · have h1 : Question.cut (.nanBits .f32 x y) t = (t % 2) * 2 ^ 31 + 0x7f800000 + 1 + (t / 2) % (2 ^ 23 - 1) := rfl
    rw [h1]
    unfold isNaN FloatKind.decode Ieee.Format.read
    have hs : (FloatKind.f32.format).signWeight = 2147483648 := by decide
    have hb : (FloatKind.f32.format).binade = 8388608 := by decide
    have hi : (FloatKind.f32.format).infRung = 2139095040 := by decide
    simp only [hs, hb, hi]
    generalize ht : (t / 2) % (2 ^ 23 - 1) = q
    have hq : q < 8388607 := by rw [← ht]; exact Nat.mod_lt _ (by decide)
    have hm : ((t % 2) * 2 ^ 31 + 0x7f800000 + 1 + q) % 2147483648 = 2139095040 + 1 + q := by omega
    rw [hm, if_neg (by omega), if_neg (by omega), if_neg (by omega)]
    rfl
  · have h1 : Question.cut (.nanBits .f64 x y) t = (t % 2) * 2 ^ 63 + 0x7ff0000000000000 + 1 + (t / 2) % (2 ^ 52 - 1) := rfl
    rw [h1]
    unfold isNaN FloatKind.decode Ieee.Format.read
    have hs : (FloatKind.f64.format).signWeight = 9223372036854775808 := by decide
    have hb : (FloatKind.f64.format).binade = 4503599627370496 := by decide
    have hi : (FloatKind.f64.format).infRung = 9218868437227405312 := by decide
    simp only [hs, hb, hi]
    generalize ht : (t / 2) % (2 ^ 52 - 1) = q
    have hq : q < 4503599627370495 := by rw [← ht]; exact Nat.mod_lt _ (by decide)
    have hm : ((t % 2) * 2 ^ 63 + 0x7ff0000000000000 + 1 + q) % 9223372036854775808 = 9218868437227405312 + 1 + q := by omega
    rw [hm, if_neg (by omega), if_neg (by omega), if_neg (by omega)]
    rfl

/-- A float's bits, as data: none for a NaN. -/
def fOf (k : FloatKind) (b : Nat) : Option Nat := if isNaN k b then none else some b

theorem R.float {m : Mem} {k : FloatKind} {b : Nat} : R m (.f k (fOf k b)) (.float k b) := by
  unfold fOf
  by_cases h : isNaN k b = true
  · rw [if_pos h]; exact .fn h
  · rw [if_neg h]; exact .fs (by simpa using h)
theorem R.floatI {m : Mem} {k : FloatKind} {x : Option Nat} {u : Value} (h : R m (.f k x) u) : ∃ b, u = .float k b ∧ x = fOf k b := by
  cases h with
  | fz h => cases h with
    | fs h => exact ⟨_, rfl, by simp [fOf, h]⟩
    | fn h => exact ⟨_, rfl, by simp [fOf, h]⟩

theorem fop_bits (op : BinOp) (k : FloatKind) (a b : Nat) : fop op k (fOf k a) (fOf k b) = fbin op k a b := by
  unfold fOf
  cases ha : isNaN k a <;> cases hb : isNaN k b <;> simp only [Bool.false_eq_true, if_false, if_true, fop, Option.bind_none, Option.bind_some]
  · cases op <;> rfl
  · rw [fbin_nan (.inr hb)]
  · rw [fbin_nan (.inl ha)]
  · rw [fbin_nan (.inl ha)]
theorem ford_bits (k : FloatKind) (a b : Nat) : ford k (fOf k a) (fOf k b) = k.format.order a b := by
  unfold fOf
  cases ha : isNaN k a <;> cases hb : isNaN k b <;> simp only [Bool.false_eq_true, if_false, if_true, ford, Option.bind_none, Option.bind_some]
  · rw [ford_nan (.inr hb)]
  · rw [ford_nan (.inl ha)]
  · rw [ford_nan (.inl ha)]

section
variable {X : Cx} {m : Mem} {H : List Ob} {ε : Operand → Value} {o : Oper} {v : V}

theorem binOp_int {op : BinOp} {t : TypeId} {k : IntKind} {a b : Int} {c : C} (h : binI op k a b = some c) (w : World) :
    ∃ x, c = .v x ∧ plain x = true ∧ (binOp op t (.int k a) (.int k b)).run X.P w = .ok x w := by
  cases op <;> simp only [binI] at h <;> first
    | (cases h; done)
    | (split at h <;> simp at h; subst h; refine ⟨_, rfl, rfl, ?_⟩; simp [binOp, Op.intDiv, *]; done)
    | (simp at h; subst h; refine ⟨_, rfl, rfl, ?_⟩; simp [binOp, Op.intArith, Op.intCmp, Op.intBits, bits]; done)

theorem binOp_string {op : BinOp} {t : TypeId} {a b : ByteArray} {c : C} (h : binS op a b = some c) (w : World) :
    ∃ x, c = .v x ∧ plain x = true ∧ (binOp op t (.string a) (.string b)).run X.P w = .ok x w := by
  cases op <;> simp only [binS] at h <;> first
    | (cases h; done)
    | (split at h <;> simp at h; subst h; refine ⟨_, rfl, rfl, ?_⟩; rename_i hl; unfold maxLen at hl; simp only [binOp, Op.stringOp]
       rw [if_neg (by simp only [IntKind.max, IntKind.bits, IntKind.signed]; omega)]; rfl)
    | (simp at h; subst h; exact ⟨_, rfl, rfl, by simp [binOp, Op.stringOp]⟩)

theorem guard_ok {op : BinOp} {t : TypeId} {x y : Operand} {a b : Value} {P : Program} {w : World} (h : (op == .eql || op == .neq) = false ∨ (match a with | .nilIface => false | .agg _ => false | _ => true) = true) :
    (eqGuard op t x y a b).run P w = .ok () w := by
  unfold eqGuard
  rcases h with h | h
  · cases op <;> simp at h <;> simp
  · cases op <;> cases a <;> simp at h <;> simp
theorem run_equal_bool {P : Program} {t : TypeId} (ht : P.underlying t = some .bool) (a b : Bool) (w : World) : (Op.equal t (.bool a) (.bool b)).run P w = .ok (a == b) w := by
  have h : ∀ d : Nat, (Op.equalIn (d + 1) t (.bool a) (.bool b)).run P w = .ok (a == b) w := fun d => by simp [Op.equalIn, run_underlying ht]
  exact h 9999

theorem good_binF (hS : Sim X.G m H) {op : BinOp} {t ty : TypeId} {x y : Operand} (ho : o.op = .binOp op t x y ty) {k : FloatKind} {p q : Option Nat} (hx : R m (.f k p) (ε x)) (hy : R m (.f k q) (ε y)) {c : C} (h : binF op k p q = some c) :
    Good X m H ε o (.c c) := by
  obtain ⟨a, hxe, rfl⟩ := hx.floatI
  obtain ⟨b, hye, rfl⟩ := hy.floatI
  have hg : (eqGuard op t x y (.float k a) (.float k b)).run X.P m.w = .ok () m.w := guard_ok (.inr rfl)
  have cmp : ∀ z : Value, plain z = true → (binOp op t (.float k a) (.float k b)).run X.P m.w = .ok z m.w → Good X m H ε o (.c (.v z)) := fun z hz hr =>
    Good.here hS (u := z) (by simp [execOp, ho, hxe, hye, hg, hr]) (.c (.v hz))
  have art : ∀ (_ : op = .add ∨ op = .sub ∨ op = .mul ∨ op = .quo), Good X m H ε o (.c (.f k (fop op k (fOf k a) (fOf k b)))) := fun hop => by
    rw [fop_bits]
    have hb : binOp op t (.float k a) (.float k b) = Op.floatArith op k a b := by rcases hop with rfl | rfl | rfl | rfl <;> simp [binOp]
    have hfa : Op.floatArith op k a b = (match fbin op k a b with | some r => pure (.float k r) | none => do pure (.float k (← choose (.nanBits k a b)))) := by
      rcases hop with rfl | rfl | rfl | rfl <;> rfl
    cases hf : fbin op k a b with
    | some r =>
      refine Good.here hS (u := .float k r) ?_ (.c (.fs (fbin_num hf)))
      simp [execOp, ho, hxe, hye, hg, hb, hfa, hf]
    | none =>
      obtain ⟨h1, h2⟩ := hS.same (w' := m.w.drew) rfl rfl rfl rfl
      refine ⟨.float k (Question.cut (.nanBits k a b) (m.w.tape m.w.drawn (.nanBits k a b))), _, ?_, h1, h2, .c (.fn (cut_nan k a b _))⟩
      simp [execOp, ho, hxe, hye, hg, hb, hfa, hf, show (Question.nanBits k a b).forced = false from rfl]
  cases op <;> simp only [binF] at h <;> first
    | (cases h; done)
    | (simp at h; subst h; exact art (by simp))
    | (simp only [ford_bits, Option.some.injEq] at h; subst h; refine cmp _ rfl ?_; simp [binOp, Op.floatCmp]; done)

theorem good_binI (hS : Sim X.G m H) {op : BinOp} {t ty : TypeId} {x y : Operand} (ho : o.op = .binOp op t x y ty) {a b z : Value} (hx : ε x = a) (hy : ε y = b) (hz : plain z = true)
    (hg : (eqGuard op t x y a b).run X.P m.w = .ok () m.w) (h : (binOp op t a b).run X.P m.w = .ok z m.w) : Good X m H ε o (.c (.v z)) :=
  Good.here hS (u := z) (by simp [execOp, ho, hx, hy, hg, h]) (.c (.v hz))

theorem good_bin (hS : Sim X.G m H) {op : BinOp} {t ty : TypeId} {x y : Operand} (ho : o.op = .binOp op t x y ty) {L : Lay} (hL : X.lay t = some L) {p q : C} (hx : R m p (ε x)) (hy : R m q (ε y)) {c : C} (h : bin op L.kind p q = some c) :
    Good X m H ε o (.c c) := by
  have hk := (X.ok t L hL).kind
  unfold bin at h
  split at h
  · rename_i b
    by_cases hb : b < (0 : Int)
    · rw [if_pos hb] at h; cases h
    rw [if_neg hb] at h
    simp only [Option.some.injEq] at h
    subst h
    refine good_binI hS ho hx.val hy.val rfl (guard_ok (.inr rfl)) ?_
    simp [binOp, Op.shift, hb]
  · rename_i b
    by_cases hb : b < (0 : Int)
    · rw [if_pos hb] at h; cases h
    rw [if_neg hb] at h
    simp only [Option.some.injEq] at h
    subst h
    refine good_binI hS ho hx.val hy.val rfl (guard_ok (.inr rfl)) ?_
    simp [binOp, Op.shift, hb]
  · rename_i k a k' b _ _
    have hkk : k = k' := Decidable.byContradiction fun hn => by rw [if_neg hn] at h; cases h
    rw [if_pos hkk] at h
    subst hkk
    obtain ⟨z, rfl, hz, hr⟩ := binOp_int (X := X) (t := t) h m.w
    exact good_binI hS ho hx.val hy.val hz (guard_ok (.inr rfl)) hr
  · rename_i k a k' b
    have hkk : k = k' := Decidable.byContradiction fun hn => by rw [if_neg hn] at h; cases h
    rw [if_pos hkk] at h
    subst hkk
    exact good_binF hS ho hx hy h
  · obtain ⟨z, rfl, hz, hr⟩ := binOp_string (X := X) (t := t) h m.w
    exact good_binI hS ho hx.val hy.val hz (guard_ok (.inr rfl)) hr
  · split at h <;> simp at h
    rename_i hkk
    rw [hkk] at hk
    subst h
    have hk' : X.P.underlying t = some .bool := hk
    refine good_binI hS ho hx.val hy.val rfl (guard_ok (.inr rfl)) ?_
    simp [binOp, run_equal_bool hk']
  · split at h <;> simp at h
    rename_i hkk
    rw [hkk] at hk
    subst h
    have hk' : X.P.underlying t = some .bool := hk
    refine good_binI hS ho hx.val hy.val rfl (guard_ok (.inr rfl)) ?_
    simp [binOp, run_equal_bool hk']
  · cases h

theorem good_un (hS : Sim X.G m H) {op : UnOp} {t : TypeId} {x : Operand} (ho : o.op = .unOp op t x) {p : C} (hx : R m p (ε x)) {c : C} (h : un op p = some c) : Good X m H ε o (.c c) := by
  unfold un at h
  split at h <;> simp at h
  · subst h
    refine Good.here hS (u := _) ?_ (.c (.v rfl))
    simp [execOp, ho, hx.val, Op.unary, Op.intArith]
  · subst h
    refine Good.here hS (u := _) ?_ (.c (.v rfl))
    simp [execOp, ho, hx.val, Op.unary]
end
end Go.VL
namespace Go.VL
open Go.RowKit

section
variable {X : Cx} {m : Mem} {H : List Ob} {ε : Operand → Value} {ρ : Operand → V} {o : Oper} {v : V}

theorem foldl_set : ∀ (vs : List Value) (i off : Nat) (arr : Array Value), ((vs.zipIdx i).foldl (fun cs (c, j) => cs.setIfInBounds (off + j) c) arr).size = arr.size ∧
    ∀ j : Nat, ((vs.zipIdx i).foldl (fun cs (c, j) => cs.setIfInBounds (off + j) c) arr)[j]? = if off + i ≤ j ∧ j < off + i + vs.length ∧ j < arr.size then vs[j - (off + i)]? else arr[j]?
  | [], i, off, arr => by
    refine ⟨rfl, fun j => ?_⟩
    rw [if_neg (by simp; omega)]; rfl
  | v :: vs, i, off, arr => by
    obtain ⟨h1, h2⟩ := foldl_set vs (i + 1) off (arr.setIfInBounds (off + i) v)
    simp only [List.zipIdx_cons, List.foldl_cons]
    refine ⟨by rw [h1]; simp, fun j => ?_⟩
    rw [h2 j]
    simp only [Array.size_setIfInBounds, List.length_cons]
    by_cases hc : off + (i + 1) ≤ j ∧ j < off + (i + 1) + vs.length ∧ j < arr.size
    · rw [if_pos hc, if_pos (by omega)]
      have : j - (off + i) = (j - (off + (i + 1))) + 1 := by omega
      rw [this, List.getElem?_cons_succ]
    · rw [if_neg hc]
      by_cases hj : j = off + i
      · subst hj
        by_cases hlt : off + i < arr.size
        · rw [if_pos (by omega), Array.getElem?_setIfInBounds_self_of_lt hlt]
          simp
        · rw [if_neg (by omega)]
          rw [Array.setIfInBounds_eq_of_size_le (by omega)]
      · rw [Array.getElem?_setIfInBounds_ne (by omega)]
        by_cases hc2 : off + i ≤ j ∧ j < off + i + (vs.length + 1) ∧ j < arr.size
        · omega
        · rw [if_neg hc2]

theorem fill_rel {place : Nat → Option (Nat × Nat)} (hρ : ∀ x, RV m (ρ x) (ε x)) : ∀ (parts : List (Nat × Operand)) (cs cs' : List C) (arr : Array Value), arr.size = cs.length →
    (∀ (j : Nat) (c : C), cs[j]? = some c → ∃ u, arr[j]? = some u ∧ R m c u) → fillC place cs (parts.map fun p => (p.1, ρ p.2)) = some cs' →
    ∃ arr', Instr.fill place arr (parts.map fun p => (p.1, ε p.2)) = some arr' ∧ arr'.size = cs'.length ∧ ∀ (j : Nat) (c : C), cs'[j]? = some c → ∃ u, arr'[j]? = some u ∧ R m c u
  | [], cs, cs', arr, hs, hr, h => by
    simp only [List.map_nil, fillC, Option.some.injEq] at h
    subst h
    exact ⟨arr, rfl, hs, hr⟩
  | (i, x) :: parts, cs, cs', arr, hs, hr, h => by
    simp only [List.map_cons, fillC] at h
    split at h
    · rename_i off size vcs hp hv
      split at h
      · rename_i hh
        obtain ⟨hl, hfit⟩ := hh
        have hx := hρ x
        have hcell : (ε x).cells.size = vcs.length ∧ ∀ (j : Nat) (c : C), vcs[j]? = some c → ∃ u, (ε x).cells[j]? = some u ∧ R m c u := by
          generalize ρ x = vx at hv hx
          cases vx with
          | c y =>
            simp only [V.cells, Option.some.injEq] at hv
            subst hv
            have hy := hx.cell
            have hp := hy.plain
            have hcells : (ε x).cells = #[ε x] := by
              generalize ε x = u at hp
              cases u <;> simp [VL.plain] at hp <;> rfl
            rw [hcells]
            refine ⟨rfl, fun j c hj => ?_⟩
            cases j with
            | zero => simp at hj; subst hj; exact ⟨ε x, rfl, hy⟩
            | succ j => simp at hj
          | agg cs' =>
            simp only [V.cells, Option.some.injEq] at hv
            subst hv
            obtain ⟨a', h0, h1, h2⟩ := hx.aggI
            rw [h0]
            exact ⟨h1, h2⟩
          | tup vs => simp [V.cells] at hv
          | any => simp [V.cells] at hv
        obtain ⟨c1, c2⟩ := hcell
        obtain ⟨f1, f2⟩ := foldl_set (ε x).cells.toList 0 off arr
        generalize ha : ((ε x).cells.toList.zipIdx 0).foldl (fun cs (c, j) => cs.setIfInBounds (off + j) c) arr = arr1 at f1 f2
        have hfold : (ε x).cells.zipIdx.foldl (fun cs (c, j) => cs.setIfInBounds (off + j) c) arr = arr1 := by
          rw [← ha, ← Array.foldl_toList, Array.toList_zipIdx]
        obtain ⟨arr', g1, g2, g3⟩ := fill_rel hρ parts (cs.take off ++ vcs ++ cs.drop (off + size)) cs' arr1 (by rw [f1]; simp; omega) (fun j c hj => by
          have hlt := (List.getElem?_eq_some_iff.1 hj).1
          simp at hlt
          rw [f2 j]
          simp only [Array.length_toList, c1, Nat.add_zero]
          by_cases h1 : j < off
          · rw [if_neg (by omega)]
            rw [List.append_assoc, List.getElem?_append_left (by simp; omega), List.getElem?_take_of_lt h1] at hj
            exact hr j c hj
          · by_cases h2 : j < off + vcs.length
            · rw [if_pos (by omega)]
              rw [List.getElem?_append_left (by simp; omega), List.getElem?_append_right (by simp; omega)] at hj
              have : j - (cs.take off).length = j - off := by simp; omega
              rw [this] at hj
              obtain ⟨u, hu, hr'⟩ := c2 _ c hj
              exact ⟨u, by simpa using hu, hr'⟩
            · rw [if_neg (by omega)]
              rw [List.getElem?_append_right (by simp; omega)] at hj
              have : j - (cs.take off ++ vcs).length = j - (off + vcs.length) := by simp; omega
              rw [this, List.getElem?_drop] at hj
              have : off + size + (j - (off + vcs.length)) = j := by omega
              rw [this] at hj
              exact hr j c hj) h
        refine ⟨arr', ?_, g2, g3⟩
        simp only [List.map_cons, Instr.fill, hp]
        rw [if_neg (by simp [c1, hl]; omega), hfold]
        exact g1
      · cases h
    · cases h

theorem zero_rel (vs : List Value) (hp : ∀ u ∈ vs, plain u = true) : ∀ (j : Nat) (c : C), (vs.map cOf)[j]? = some c → ∃ u, vs[j]? = some u ∧ R m c u := by
  intro j c hj
  rw [List.getElem?_map, Option.map_eq_some_iff] at hj
  obtain ⟨u, hu, rfl⟩ := hj
  refine ⟨u, hu, ?_⟩
  have := hp u (List.mem_of_getElem? hu)
  cases u <;> first
    | exact .v this
    | exact R.float

theorem mapM_places {lay : TypeId → Option Lay} : ∀ {fs : List (TypeId × Nat)} {places : List (Nat × Nat)}, fs.mapM (fun p => (lay p.1).map fun L => (p.2, L.size)) = some places →
    places.length = fs.length ∧ ∀ (j : Nat) (q : Nat × Nat), places[j]? = some q → ∃ p L, fs[j]? = some p ∧ lay p.1 = some L ∧ q = (p.2, L.size)
  | [], places, h => by simp at h; subst h; simp
  | p :: fs, places, h => by
    rw [List.mapM_cons] at h
    obtain ⟨q, hq, h⟩ := Option.bind_eq_some_iff.1 h
    obtain ⟨qs, hqs, h⟩ := Option.bind_eq_some_iff.1 h
    obtain ⟨L, hL, rfl⟩ := Option.map_eq_some_iff.1 hq
    simp at h
    subst h
    obtain ⟨h1, h2⟩ := mapM_places hqs
    refine ⟨by simp [h1], fun j q hj => ?_⟩
    cases j with
    | zero => simp at hj; subst hj; exact ⟨p, L, rfl, hL, rfl⟩
    | succ j => simpa using h2 j q (by simpa using hj)

theorem run_mapM_list {α β : Type} {P : Program} {w : World} {g : α → Sem β} : ∀ (fl : List α) (pl : List β), pl.length = fl.length → (∀ (j : Nat) (q : β), pl[j]? = some q → ∃ f, fl[j]? = some f ∧ (g f).run P w = .ok q w) →
    (fl.mapM g).run P w = .ok pl w
  | [], pl, hl, _ => by
    cases pl with
    | nil => rfl
    | cons _ _ => simp at hl
  | f :: fl, pl, hl, h => by
    cases pl with
    | nil => simp at hl
    | cons q pl =>
      obtain ⟨f', hf', hq⟩ := h 0 q rfl
      simp at hf'
      subst hf'
      have ih := run_mapM_list fl pl (by simpa using hl) (fun j q hj => by simpa using h (j + 1) q (by simpa using hj))
      rw [List.mapM_cons]
      simp only [Sem.run_bind, hq, Result.andThen_ok, ih, Sem.run_pure]

theorem good_build_struct (hS : Sim X.G m H) (hρ : ∀ x, RV m (ρ x) (ε x)) {t : TypeId} {parts : Array (Nat × Operand)} (ho : o.op = .build t parts) {fs : List (TypeId × Nat)} {s b : Nat} {z : List Value}
    (hL : X.lay t = some ⟨.struct fs, s, b, z⟩) {places : List (Nat × Nat)} (hp : fs.mapM (fun p => (X.lay p.1).map fun L => (p.2, L.size)) = some places) {cs : List C}
    (hf : fillC (places[·]?) (z.map cOf) (parts.toList.map fun p => (p.1, ρ p.2)) = some cs) : Good X m H ε o (.agg cs) := by
  obtain ⟨hk, hpl, i, zz, g1, g2, g3, g4, g5, g6⟩ := X.ok t _ hL
  obtain ⟨fields, h1, h2, h3⟩ := hk
  simp only at g5 g6 hpl
  obtain ⟨arr', f1, f2, f3⟩ := fill_rel hρ parts.toList (z.map cOf) cs zz.cells (by rw [← g5]; simp) (fun j c hj => by
    obtain ⟨u, hu, hr⟩ := zero_rel (m := m) z (fun u hu => List.all_eq_true.1 hpl u hu) j c hj
    rw [← g5] at hu
    exact ⟨u, by simpa using hu, hr⟩) hf
  obtain ⟨p1, p2⟩ := mapM_places hp
  have hplaces : ∀ w : World, (fields.mapM (m := Sem) fun f => do pure (f.offset, ← sizeOf f.type)).run X.P w = .ok places.toArray w := fun w => by
    rw [Array.mapM_eq_mapM_toList]
    have hh := run_mapM_list (P := X.P) (w := w) (g := fun f : Field => (do pure (f.offset, ← sizeOf f.type) : Sem (Nat × Nat))) fields.toList places (by rw [p1, ← h2]; simp) (fun j q hj => by
      obtain ⟨p, L, a1, a2, rfl⟩ := p2 j q hj
      rw [← h2, List.getElem?_map, Option.map_eq_some_iff] at a1
      obtain ⟨f, b1, rfl⟩ := a1
      obtain ⟨inf, i1, i2⟩ := size_ok a2
      exact ⟨f, b1, by simp [sizeOf, typeInfo, i1, i2]⟩)
    rw [Sem.run_map, hh]
    rfl
  refine Good.here hS (u := .agg arr') ?_ (.agg f2 f3)
  simp only [execOp, ho, Instr.build, Sem.run_bind, zeroValue, typeInfo, program, Sem.run, g1, g4, run_underlying h1, hplaces, Result.andThen_ok, Sem.run_pure]
  simp only [Array.toList_map, List.getElem?_toArray]
  rw [show (fun x : Nat => places[x]?) = (places[·]?) from rfl, f1]
  rfl
theorem good_build_array (hS : Sim X.G m H) (hρ : ∀ x, RV m (ρ x) (ε x)) {t e : TypeId} {n : Nat} {parts : Array (Nat × Operand)} (ho : o.op = .build t parts) {s b : Nat} {z : List Value}
    (hL : X.lay t = some ⟨.array n e, s, b, z⟩) {L : Lay} (hLe : X.lay e = some L) {cs : List C}
    (hf : fillC (fun i => some (i * L.size, L.size)) (z.map cOf) (parts.toList.map fun p => (p.1, ρ p.2)) = some cs) : Good X m H ε o (.agg cs) := by
  obtain ⟨hk, hpl, i, zz, g1, g2, g3, g4, g5, g6⟩ := X.ok t _ hL
  obtain ⟨inf, i1, i2⟩ := size_ok hLe
  have hk' : X.P.underlying t = some (.array n e) := hk
  simp only at g5 g6 hpl
  obtain ⟨arr', f1, f2, f3⟩ := fill_rel hρ parts.toList (z.map cOf) cs zz.cells (by rw [← g5]; simp) (fun j c hj => by
    obtain ⟨u, hu, hr⟩ := zero_rel (m := m) z (fun u hu => List.all_eq_true.1 hpl u hu) j c hj
    rw [← g5] at hu
    exact ⟨u, by simpa using hu, hr⟩) hf
  refine Good.here hS (u := .agg arr') ?_ (.agg f2 f3)
  simp only [execOp, ho, Instr.build, Sem.run_bind, zeroValue, typeInfo, program, Sem.run, g1, g4, run_underlying hk', Result.andThen_ok, Sem.run_pure, sizeOf, i1, i2]
  simp only [Array.toList_map]
  rw [f1]
  rfl

theorem cut_conv (k : FloatKind) (x t : Nat) : isNaN k (Question.cut (.nanConv k x) t) = true := by
  have := cut_nan k x x t
  cases k <;> exact this

theorem bytesOf_get : ∀ {cs : List C} {ns : List Int}, bytesOf cs = some ns → ns.length = cs.length ∧ ∀ (j : Nat) (c : C), cs[j]? = some c → ∃ n, ns[j]? = some n ∧ c = .v (.int .u8 n)
  | [], ns, h => by
    simp only [bytesOf, Option.some.injEq] at h
    subst h
    exact ⟨rfl, fun j c h => by simp at h⟩
  | c :: cs, ns, h => by
    cases c with
    | v x =>
      cases x with
      | int k n =>
        cases k <;> simp only [bytesOf] at h <;> try (cases h; done)
        obtain ⟨ns', h1, rfl⟩ := Option.map_eq_some_iff.1 h
        obtain ⟨l1, l2⟩ := bytesOf_get h1
        refine ⟨by simp [l1], fun j c hj => ?_⟩
        cases j with
        | zero => simp at hj; subst hj; exact ⟨n, rfl, rfl⟩
        | succ j => simpa using l2 j c (by simpa using hj)
      | _ => simp [bytesOf] at h
    | _ => simp [bytesOf] at h
theorem good_convert (hS : Sim X.G m H) {s t : TypeId} {x : Operand} (ho : o.op = .convert s t x) {a z : Value} (hx : ε x = a) {c : C} (hr : R m c z)
    (h : (convert s t a).run X.P m.w = .ok z m.w) : Good X m H ε o (.c c) :=
  Good.here hS (u := z) (by simp [execOp, ho, hx, h]) (.c hr)

theorem good_conv (hS : Sim X.G m H) {s t : TypeId} {x : Operand} (ho : o.op = .convert s t x) (hx : RV m (ρ x) (ε x)) (h : evq X.lay H ρ (.convert s t x) = some v) : Good X m H ε o v := by
  simp only [evq] at h
  split at h
  · rename_i k' _ _ _ k _ _ _ kk n hs ht hx'
    rw [hx'] at hx
    simp only [Option.some.injEq] at h; subst h
    have hus : X.P.underlying s = some (.int k') := (X.ok s _ hs).kind
    have hut : X.P.underlying t = some (.int k) := (X.ok t _ ht).kind
    exact good_convert hS ho hx.val (.v rfl) (by simp [convert, run_underlying hus, run_underlying hut, Conv.intToInt])
  · rename_i k' _ _ _ k _ _ _ kk n hs ht hx'
    rw [hx'] at hx
    simp only [Option.some.injEq] at h; subst h
    have hus : X.P.underlying s = some (.int k') := (X.ok s _ hs).kind
    have hut : X.P.underlying t = some (.float k) := (X.ok t _ ht).kind
    exact good_convert hS ho hx.val (.fs (write_num k (.number (n < 0) n.natAbs 0) rfl)) (by simp [convert, run_underlying hus, run_underlying hut, Conv.intToFloat])
  · rename_i k1 _ _ _ k _ _ _ k' y hs ht hx'
    rw [hx'] at hx
    obtain ⟨b, hxe, rfl⟩ := hx.cell.floatI
    have hus : X.P.underlying s = some (.float k1) := (X.ok s _ hs).kind
    have hut : X.P.underlying t = some (.float k) := (X.ok t _ ht).kind
    have hconv : convert s t (.float k' b) = (convert s t (.float k' b)) := rfl
    split at h
    · rename_i z hz
      simp only [Option.some.injEq] at h; subst h
      unfold convF at hz
      by_cases hkk : k' = k
      · rw [if_pos hkk] at hz
        simp only [Option.some.injEq] at hz
        subst hz hkk
        exact good_convert hS ho hxe R.float (by simp [convert, run_underlying hus, run_underlying hut, Conv.floatToFloat])
      · rw [if_neg hkk] at hz
        unfold fOf at hz
        by_cases hn : isNaN k' b = true
        · rw [if_pos hn] at hz
          simp only [Option.some.injEq] at hz
          subst hz
          obtain ⟨q, r, hd⟩ := read_nan hn
          obtain ⟨h1, h2⟩ := hS.same (w' := m.w.drew) rfl rfl rfl rfl
          refine ⟨.float k (Question.cut (.nanConv k b) (m.w.tape m.w.drawn (.nanConv k b))), _, ?_, h1, h2, .c (.fn (cut_conv k b _))⟩
          simp [execOp, ho, hxe, convert, run_underlying hus, run_underlying hut, Conv.floatToFloat, hkk, FloatKind.decode, hd, show (Question.nanConv k b).forced = false from rfl]
        · rw [if_neg hn] at hz
          simp only at hz
          split at hz
          · rename_i sg mg e hd
            split at hz
            · cases hz
            · rename_i hinf
              simp only [Option.some.injEq] at hz
              subst hz
              exact good_convert hS ho hxe (.fs (write_num k _ rfl)) (by simp [convert, run_underlying hus, run_underlying hut, Conv.floatToFloat, hkk, hd, hinf])
          · rename_i sg hd
            simp only [Option.some.injEq] at hz
            subst hz
            exact good_convert hS ho hxe (.fs (write_num k _ rfl)) (by simp [convert, run_underlying hus, run_underlying hut, Conv.floatToFloat, hkk, hd])
          · cases hz
    · cases h
  · rename_i k1 _ _ _ k _ _ _ k' b hs ht hx'
    rw [hx'] at hx
    have hus : X.P.underlying s = some (.float k1) := (X.ok s _ hs).kind
    have hut : X.P.underlying t = some (.int k) := (X.ok t _ ht).kind
    have hxe : ε x = .float k' b := by
      generalize ε x = u at hx
      cases hx.cell with
      | fz h => cases h; rfl
    split at h
    · rename_i n hn
      split at h
      · rename_i hr
        simp only [Option.some.injEq] at h; subst h
        exact good_convert hS ho hxe (.v rfl) (by simp [convert, run_underlying hus, run_underlying hut, Conv.floatToInt, hn, hr])
      · cases h
    · cases h
  · rename_i str hs ht hx'
    rw [hx'] at hx
    simp only [Option.some.injEq] at h; subst h
    have hus : X.P.underlying s = some .string := (X.ok s _ hs).kind
    have hut : X.P.underlying t = some .string := (X.ok t _ ht).kind
    exact good_convert hS ho hx.val (.v rfl) (by simp [convert, run_underlying hus, run_underlying hut])
  · rename_i e _ _ _ _ _ _ own n k cs hs ht hx'
    rw [hx'] at hx
    split at h
    · rename_i ns hLe hbs
      split at h
      · rename_i hk
        subst hk
        simp only [Option.some.injEq] at h; subst h
        have hus : X.P.underlying s = some (.slice e) := (X.ok s _ hs).kind
        have hut : X.P.underlying t = some .string := (X.ok t _ ht).kind
        have hue : X.P.underlying e = some (.int .u8) := (X.ok e _ hLe).kind
        generalize hu : ε x = u at hx
        cases hx with
        | c hx => cases hx with
          | fz hx => cases hx with
            | @sl _ _ _ _ a cap us hn hc hl hF hw hr =>
              obtain ⟨l1, l2⟩ := bytesOf_get hbs
              have hload : (loadCells a n).run X.P m.w = .ok (ns.map (Value.int .u8)).toArray m.w := by
                have := run_loadCells_list (P := X.P) m.w a (ns.map (Value.int .u8)) (fun j u hj => by
                  have hlt : j < cs.length := by
                    have := (List.getElem?_eq_some_iff.1 hj).1
                    rw [List.length_map, l1] at this
                    exact this
                  have hne : cs ≠ [] := by rintro rfl; simp at hlt
                  obtain ⟨q, h1, h2⟩ := l2 j _ (List.getElem?_eq_getElem hlt)
                  have h3 := hw j _ (List.getElem?_eq_getElem hlt)
                  have h4 := hr j _ (List.getElem?_eq_getElem hlt)
                  rw [h2] at h4
                  rw [List.getElem?_map, h1] at hj
                  simp only [Option.map_some, Option.some.injEq] at hj
                  have h5 : us j = .int .u8 q := by
                    clear h3 hr hw
                    generalize us j = y at h4 ⊢
                    cases h4; rfl
                  have hadd : a.add j = ⟨a.block, a.off + j, none⟩ := by
                    have hsp := (hF hne).1
                    obtain ⟨ab, ao, asp⟩ := a
                    simp only at hsp
                    subst hsp
                    exact addr_add ab ao j
                  rw [hadd, h3, h5, ← hj])
                rw [List.length_map, l1, hl, Nat.mul_one] at this
                exact this
              exact good_convert hS ho hu (.v rfl) (by rw [run_convert_bytes_string m.w s t e _ _ _ hus hue hut, run_bytesToString m.w a n cap ns hload]; rfl)
            | nil =>
              simp only [bytesOf, Option.some.injEq] at hbs
              subst hbs
              exact good_convert hS ho hu (.v rfl) (by rw [run_convert_bytes_string m.w s t e _ _ _ hus hue hut]; rfl)
      · cases h
    · cases h
  · cases h
theorem bnd_sound (hρ : ∀ x, RV m (ρ x) (ε x)) {x : Option Operand} {d l : Int} (h : bnd ρ x d = some l) : (x = none ∧ l = d) ∨ ∃ y k, x = some y ∧ ε y = .int k l := by
  unfold bnd at h
  split at h
  · simp only [Option.some.injEq] at h; exact .inl ⟨rfl, h.symm⟩
  · rename_i y
    split at h
    · rename_i k n hy
      simp only [Option.some.injEq] at h; subst h
      have := hρ y
      rw [hy] at this
      exact .inr ⟨y, k, rfl, this.val⟩
    · cases h

/-- The two bounds of a slice expression. -/
theorem run_bounds {P : Program} {w : World} {isSlice : Bool} {len cap : Nat} {lo hi : Option Value} {l h : Int} (hlo : (lo = none ∧ l = 0) ∨ ∃ k, lo = some (.int k l)) (hhi : (hi = none ∧ h = len) ∨ ∃ k, hi = some (.int k h))
    (h0 : 0 ≤ l) (h1 : l ≤ h) (h2 : h ≤ cap) (_hlc : len ≤ cap) : (Instr.sliceBounds isSlice len cap lo hi none).run P w = .ok (l.toNat, h.toNat, cap) w := by
  unfold Instr.sliceBounds
  rcases hhi with ⟨rfl, rfl⟩ | ⟨k, rfl⟩ <;> rcases hlo with ⟨rfl, rfl⟩ | ⟨k', rfl⟩
  · simp
  · have h3 : l ≤ (len : Int) := h1
    simp [Instr.sliceBound, asIntOf, h0, h3]
  · have h3 : 0 ≤ h := by omega
    cases isSlice <;> simp [Instr.sliceBound, asIntOf, h3, h2]
  · have h3 : 0 ≤ h := by omega
    obtain ⟨q, rfl⟩ := Int.eq_ofNat_of_zero_le h3
    have h5 : q ≤ cap := by omega
    cases isSlice <;> simp [Instr.sliceBound, asIntOf, h5, h0, h1]

theorem lo_of {x : Option Operand} {l d : Int} (h : (x = none ∧ l = d) ∨ ∃ y k, x = some y ∧ ε y = .int k l) : (x.map ε = none ∧ l = d) ∨ ∃ k, x.map ε = some (.int k l) := by
  rcases h with ⟨rfl, rfl⟩ | ⟨y, k, rfl, h⟩
  · exact .inl ⟨rfl, rfl⟩
  · exact .inr ⟨k, by simp [h]⟩

theorem good_slice_string (hS : Sim X.G m H) {t : TypeId} {x : Operand} {lo hi : Option Operand} (ho : o.op = .slice t x lo hi none) (ht : X.P.underlying t = some .string) {s : ByteArray} (hx : ε x = .string s) {l h : Int}
    (hlo : (lo = none ∧ l = 0) ∨ ∃ y k, lo = some y ∧ ε y = .int k l) (hhi : (hi = none ∧ h = s.size) ∨ ∃ y k, hi = some y ∧ ε y = .int k h) (h0 : 0 ≤ l) (h1 : l ≤ h) (h2 : h ≤ s.size) :
    Good X m H ε o (.c (.v (.string (s.extract l.toNat h.toNat)))) := by
  refine Good.here hS (u := .string (s.extract l.toNat h.toNat)) ?_ (.c (.v rfl))
  have := run_bounds (P := X.P) (w := m.w) (isSlice := false) (len := s.size) (cap := s.size) (lo_of hlo) (lo_of hhi) h0 h1 h2 (Nat.le_refl _)
  simp [execOp, ho, hx, Instr.sliceAt, run_underlying ht, Instr.slice, this]

/-- A slice of a slice: where it begins does not count if it is empty and at the end. -/
theorem good_slice_slice (hS : Sim X.G m H) {t e : TypeId} {x : Operand} {lo hi : Option Operand} (ho : o.op = .slice t x lo hi none) (ht : X.P.underlying t = some (.slice e)) {L : Lay} (hL : X.lay e = some L) {a : Addr} {n cap : Nat} (hx : ε x = .slice (some a) n cap) {l h : Int}
    (hlo : (lo = none ∧ l = 0) ∨ ∃ y k, lo = some y ∧ ε y = .int k l) (hhi : (hi = none ∧ h = n) ∨ ∃ y k, hi = some y ∧ ε y = .int k h) (h0 : 0 ≤ l) (h1 : l ≤ h) (h2 : h ≤ cap) (hn : n ≤ cap)
    (hv : RV m v (.slice (some (if cap = l.toNat then a else a.add (l.toNat * L.size))) (h.toNat - l.toNat) (cap - l.toNat))) : Good X m H ε o v := by
  obtain ⟨i, i1, i2⟩ := size_ok hL
  refine Good.here hS (u := .slice (some (if cap = l.toNat then a else a.add (l.toNat * L.size))) (h.toNat - l.toNat) (cap - l.toNat)) ?_ hv
  have := run_bounds (P := X.P) (w := m.w) (isSlice := true) (len := n) (cap := cap) (lo_of hlo) (lo_of hhi) h0 h1 h2 hn
  by_cases hc : cap = l.toNat
  · simp [execOp, ho, hx, Instr.sliceAt, run_underlying ht, Instr.slice, this, sizeOf, typeInfo, i1, i2, ← hc]
  · simp [execOp, ho, hx, Instr.sliceAt, run_underlying ht, Instr.slice, this, sizeOf, typeInfo, i1, i2, hc]

theorem good_slice_array (hS : Sim X.G m H) {t e : TypeId} {x : Operand} {lo hi : Option Operand} (ho : o.op = .slice t x lo hi none) {n : Nat} (ht : X.P.underlying t = some (.array n e)) {L : Lay} (hL : X.lay e = some L) {a : Addr} (hx : ε x = .pointer (some a)) {l h : Int}
    (hlo : (lo = none ∧ l = 0) ∨ ∃ y k, lo = some y ∧ ε y = .int k l) (hhi : (hi = none ∧ h = n) ∨ ∃ y k, hi = some y ∧ ε y = .int k h) (h0 : 0 ≤ l) (h1 : l ≤ h) (h2 : h ≤ n)
    (hv : RV m v (.slice (some (if n = l.toNat then a else a.add (l.toNat * L.size))) (h.toNat - l.toNat) (n - l.toNat))) : Good X m H ε o v := by
  obtain ⟨i, i1, i2⟩ := size_ok hL
  refine Good.here hS (u := .slice (some (if n = l.toNat then a else a.add (l.toNat * L.size))) (h.toNat - l.toNat) (n - l.toNat)) ?_ hv
  have := run_bounds (P := X.P) (w := m.w) (isSlice := false) (len := n) (cap := n) (lo_of hlo) (lo_of hhi) h0 h1 h2 (Nat.le_refl _)
  by_cases hc : n = l.toNat
  · simp [execOp, ho, hx, Instr.sliceAt, Instr.sureAddr, run_underlying ht, this, sizeOf, typeInfo, i1, i2, ← hc]
  · simp [execOp, ho, hx, Instr.sliceAt, Instr.sureAddr, run_underlying ht, this, sizeOf, typeInfo, i1, i2, hc]

theorem good_max (hS : Sim X.G m H) {x y : Operand} {tys : Array TypeId} (ho : o.op = .call { callee := .builtin .max, args := #[x, y], argTypes := tys }) {k k' : IntKind} {a b : Int} (hx : ε x = .int k a) (hy : ε y = .int k' b) :
    Good X m H ε o (.c (.v (.int k (if b > a then b else a)))) := by
  refine Good.here hS (u := .int k (if b > a then b else a)) ?_ (.c (.v rfl))
  simp [execOp, ho, resolve, invoke, builtin, Builtin.max_, hx, hy, Builtin.max2]
theorem good_min (hS : Sim X.G m H) {x y : Operand} {tys : Array TypeId} (ho : o.op = .call { callee := .builtin .min, args := #[x, y], argTypes := tys }) {k k' : IntKind} {a b : Int} (hx : ε x = .int k a) (hy : ε y = .int k' b) :
    Good X m H ε o (.c (.v (.int k (if b < a then b else a)))) := by
  refine Good.here hS (u := .int k (if b < a then b else a)) ?_ (.c (.v rfl))
  simp [execOp, ho, resolve, invoke, builtin, Builtin.min_, hx, hy, Builtin.min2]
end
end Go.VL
namespace Go.VL
open Go.RowKit

section
variable {X : Cx} {m : Mem} {H : List Ob} {ε : Operand → Value} {ρ : Operand → V} {o : Oper} {v : V}

theorem RV.vwI {own : Bool} {cs : List C} {off : Nat} {u : Value} (h : RV m (.c (.vw own cs off)) u) : ∃ b base, u = .pointer (some ⟨b, base + off, none⟩) ∧ m.F b ∧ (own = true → m.B ≤ b) ∧
    (∀ (j : Nat) (c : C), cs[j]? = some c → ∃ u, m.w.cell? ⟨b, base + j, none⟩ = some u ∧ RF m own c u) ∧ ∀ off', R m (.vw own cs off') (.pointer (some ⟨b, base + off', none⟩)) := by
  cases h with
  | c h => cases h with
    | fz h => cases h with
      | vw us hF hw hr => exact ⟨_, _, rfl, hF.1, hF.2, fun j c hj => ⟨us j, hw j c hj, hr j c hj⟩, fun off' => .fz (.vw us hF hw hr)⟩
theorem RV.ptI {id off : Nat} {u : Value} (h : RV m (.c (.pt id off)) u) : u = .pointer (some ⟨(m.μ id).block, (m.μ id).base + off, none⟩) ∧ id < m.N ∧ (m.μ id).gh = false := by
  cases h with
  | c h => cases h with
    | fz h => cases h
    | pt h hg => exact ⟨rfl, h, hg⟩
/-- A frozen slice: nil, or in memory. -/
theorem RV.slI {own : Bool} {n k : Nat} {cs : List C} {u : Value} (h : RV m (.c (.sl own n k cs)) u) : (u = .slice none 0 0 ∧ n = 0 ∧ cs = []) ∨ ∃ a cap, u = .slice (some a) n cap ∧ n ≤ cap ∧ cap ≤ maxLen ∧ cs.length = n * k ∧
    (cs ≠ [] → a.spot = none ∧ m.F a.block ∧ (own = true → m.B ≤ a.block)) ∧ (∀ (j : Nat) (c : C), cs[j]? = some c → ∃ u, m.w.cell? ⟨a.block, a.off + j, none⟩ = some u ∧ RF m own c u) := by
  cases h with
  | c h => cases h with
    | fz h => cases h with
      | sl us hn hc hl hF hw hr => exact .inr ⟨_, _, rfl, hn, hc, hl, hF, fun j c hj => ⟨us j, hw j c hj, hr j c hj⟩⟩
      | nil => exact .inl ⟨rfl, rfl, rfl⟩
theorem RV.muI {id off n k : Nat} {u : Value} (h : RV m (.c (.mu id off n k)) u) : (u = .slice none 0 0 ∧ n = 0 ∧ off = 0 ∧ id < m.N ∧ (m.μ id).gh = true) ∨ ∃ cap, u = .slice (some ⟨(m.μ id).block, (m.μ id).base + off, none⟩) n cap ∧ id < m.N ∧ n ≤ cap ∧
    (m.μ id).base + off + cap * k ≤ (m.μ id).size ∧ cap ≤ maxLen ∧ (m.μ id).gh = false := by
  cases h with
  | c h => cases h with
    | fz h => cases h
    | mu h hg hn hs hm => exact .inr ⟨_, rfl, h, hn, hs, hm, hg⟩
    | mn h hg => exact .inl ⟨rfl, rfl, rfl, h, hg⟩

/-- A view of some cells out of others. -/
theorem RF.vw_sub {own b' : Bool} {b base : Nat} {cs : List C} (hF : m.F b ∧ (own = true → m.B ≤ b)) (hc : ∀ (j : Nat) (c : C), cs[j]? = some c → ∃ u, m.w.cell? ⟨b, base + j, none⟩ = some u ∧ RF m own c u) (off n : Nat) :
    RF m own (.vw b' (sub cs off n) 0) (.pointer (some ⟨b, base + off, none⟩)) := by
  obtain ⟨us, hl, hus⟩ := choose_list (cs := sub cs off n) (p := fun j c u => m.w.cell? ⟨b, base + off + j, none⟩ = some u ∧ RF m own c u) (fun j c hj => by
    obtain ⟨-, hg⟩ := sub_get hj
    obtain ⟨u, h1, h2⟩ := hc _ _ hg
    exact ⟨u, by rw [Nat.add_assoc]; exact h1, h2⟩)
  exact .vw (base := base + off) (off := 0) (fun j => us.getD j default) hF (fun j c hj => by obtain ⟨u, h1, h2, h3⟩ := hus j c hj; simpa [List.getD, h1] using h2)
    (fun j c hj => by obtain ⟨u, h1, h2, h3⟩ := hus j c hj; simpa [List.getD, h1] using h3)
theorem R.vw_sub {own : Bool} {b base : Nat} {cs : List C} (hF : m.F b ∧ (own = true → m.B ≤ b)) (hc : ∀ (j : Nat) (c : C), cs[j]? = some c → ∃ u, m.w.cell? ⟨b, base + j, none⟩ = some u ∧ RF m own c u) (off n : Nat) :
    R m (.vw own (sub cs off n) 0) (.pointer (some ⟨b, base + off, none⟩)) := .fz (RF.vw_sub hF hc off n)

theorem capsOf_get {ρ : Operand → V} : ∀ {xs : List Operand} {cs : List C}, capsOf ρ xs = some cs → cs.length = xs.length ∧ ∀ (j : Nat) (c : C), cs[j]? = some c → ∃ x, xs[j]? = some x ∧ ρ x = .c c
  | [], cs, h => by simp [capsOf] at h; subst h; simp
  | x :: xs, cs, h => by
    simp only [capsOf] at h
    split at h
    · rename_i a cs' h1 h2
      simp only [Option.some.injEq] at h
      subst h
      obtain ⟨h3, h4⟩ := capsOf_get h2
      refine ⟨by simp [h3], fun j c hj => ?_⟩
      cases j with
      | zero => simp at hj; subst hj; exact ⟨x, rfl, h1⟩
      | succ j => simpa using h4 j c (by simpa using hj)
    · cases h

/-- A slice of the nil slice. -/
theorem good_slice_nil (hS : Sim X.G m H) {t e : TypeId} {x : Operand} {lo hi : Option Operand} (ho : o.op = .slice t x lo hi none) (ht : X.P.underlying t = some (.slice e)) {L : Lay} (hL : X.lay e = some L) (hx : ε x = .slice none 0 0)
    (hlo : (lo = none ∧ (0 : Int) = 0) ∨ ∃ y k, lo = some y ∧ ε y = .int k 0) (hhi : (hi = none ∧ (0 : Int) = (0 : Nat)) ∨ ∃ y k, hi = some y ∧ ε y = .int k 0) (hv : RV m v (.slice none 0 0)) : Good X m H ε o v := by
  obtain ⟨i, i1, i2⟩ := size_ok hL
  refine Good.here hS (u := .slice none 0 0) ?_ hv
  have := run_bounds (P := X.P) (w := m.w) (isSlice := true) (len := 0) (cap := 0) (lo_of hlo) (lo_of hhi) (Int.le_refl 0) (Int.le_refl 0) (Int.le_refl 0) (Nat.le_refl 0)
  simp [execOp, ho, hx, Instr.sliceAt, run_underlying ht, Instr.slice, this, sizeOf, typeInfo, i1]

theorem evq_sound (hS : Sim X.G m H) (hρ : ∀ x, RV m (ρ x) (ε x)) (h : evq X.lay H ρ o.op = some v) : Good X m H ε o v := by
  generalize hop : o.op = op at h
  cases op <;> simp only [evq] at h <;> try (cases h; done)
  case move x => simp at h; subst h; exact good_move hS (.inl hop) (hρ x)
  case assign x => simp at h; subst h; exact good_move hS (.inr hop) (hρ x)
  case pick c a b =>
    have hc := hρ c
    split at h
    · rename_i t hc'
      rw [hc'] at hc
      simp only [Option.some.injEq] at h
      subst h
      exact good_pick hS hop hc.val (hρ a) (hρ b)
    · cases h
  case load t x =>
    have hx := hρ x
    split at h
    · rename_i L own cs off hL hx'
      rw [hx'] at hx
      split at h
      · rename_i hl
        obtain ⟨b, base, hu, hF, hB, hc, -⟩ := hx.vwI
        refine good_load hS hop hL hu (cs := reowns own (sub cs off L.size)) (fun j c hj => ?_) (by rw [reowns_length]; exact sub_length hl) h
        obtain ⟨c', hj', rfl⟩ := reowns_get hj
        obtain ⟨-, hg⟩ := sub_get hj'
        obtain ⟨u, h1, h2⟩ := hc _ _ hg
        exact ⟨u, by rw [Nat.add_assoc]; exact h1, h2.r⟩
      · cases h
    · rename_i L id off hL hx'
      rw [hx'] at hx
      split at h
      · rename_i ob ho
        split at h
        · rename_i hl
          obtain ⟨hu, -⟩ := hx.ptI
          refine good_load hS hop hL hu (cs := sub ob.cs off L.size) (fun j c hj => ?_) (sub_length hl.2) h
          obtain ⟨-, hg⟩ := sub_get hj
          obtain ⟨u, h1, h2⟩ := hS.cell ho hl.1 hg
          exact ⟨u, by rw [Nat.add_assoc]; exact h1, h2⟩
        · cases h
      · cases h
    · cases h
  case nilCheck x =>
    have hx := hρ x
    split at h
    · rename_i hx'
      simp only [Option.some.injEq] at h; subst h
      rw [hx'] at hx
      obtain ⟨b, base, hu, -⟩ := hx.vwI
      exact good_nilCheck hS hop (.inl ⟨_, hu⟩) hx
    · rename_i hx'
      simp only [Option.some.injEq] at h; subst h
      rw [hx'] at hx
      exact good_nilCheck hS hop (.inl ⟨_, hx.ptI.1⟩) hx
    · rename_i hx'
      simp only [Option.some.injEq] at h; subst h
      rw [hx'] at hx
      refine good_nilCheck hS hop (.inr ?_) hx
      generalize ε x = u at hx
      cases hx.cell with
      | fz h => cases h
      | func us hl hw hr => exact ⟨_, _, rfl⟩
    · cases h
  case binOp op t x y ty =>
    have hx := hρ x
    have hy := hρ y
    split at h
    · rename_i L a b hL hx' hy'
      rw [hx'] at hx
      rw [hy'] at hy
      obtain ⟨c, hc, rfl⟩ := Option.map_eq_some_iff.1 h
      exact good_bin hS hop hL hx.cell hy.cell hc
    · cases h
  case unOp op t x =>
    have hx := hρ x
    split at h
    · rename_i a hx'
      rw [hx'] at hx
      obtain ⟨c, hc, rfl⟩ := Option.map_eq_some_iff.1 h
      exact good_un hS hop hx.cell hc
    · cases h
  case fieldAddr s x f =>
    have hx := hρ x
    split at h
    · rename_i fs _ _ _ own cs off hL hx'
      rw [hx'] at hx
      obtain ⟨p, hp, rfl⟩ := Option.map_eq_some_iff.1 h
      obtain ⟨b, base, hu, hF, hB, hc, hv⟩ := hx.vwI
      exact good_fieldAddr hS hop hL hp hu (.c (by rw [Nat.add_assoc]; exact hv _))
    · rename_i fs _ _ _ id off hL hx'
      rw [hx'] at hx
      obtain ⟨p, hp, rfl⟩ := Option.map_eq_some_iff.1 h
      obtain ⟨hu, hid, hgh⟩ := hx.ptI
      exact good_fieldAddr hS hop hL hp hu (.c (by rw [Nat.add_assoc]; exact .pt hid hgh))
    · cases h
  case field s x f =>
    have hx := hρ x
    split at h
    · rename_i fs _ _ _ cs hL hx'
      rw [hx'] at hx
      obtain ⟨p, hp, h⟩ := Option.bind_eq_some_iff.1 h
      obtain ⟨L, hL1, h⟩ := Option.bind_eq_some_iff.1 h
      split at h
      · rename_i hl
        exact good_field hS hop hL hp hL1 hx hl h
      · cases h
    · cases h
  case indexAddr t x i =>
    have hx := hρ x
    have hi := hρ i
    split at h
    · rename_i e _ _ _ own n k cs _ j hL hx' hi'
      rw [hx'] at hx
      rw [hi'] at hi
      split at h
      · rename_i L hLe
        split at h
        · rename_i hh
          obtain ⟨hk, hk0, h0, hj⟩ := hh
          simp only [Option.some.injEq] at h; subst h
          obtain ⟨a, cap, hu, hn, hm, hl, hF, hc⟩ := hx.slI.resolve_left (fun h => by omega)
          have hne : cs ≠ [] := by
            rintro rfl
            have : 0 < n * k := Nat.mul_pos (by omega) hk0
            simp at hl; omega
          obtain ⟨hsp, hF1, hF2⟩ := hF hne
          obtain ⟨ab, ao, ags⟩ := a
          simp only at hsp hF1 hF2 hc
          subst hsp
          have ht : X.P.underlying t = some (.slice e) := (X.ok t _ hL).kind
          refine good_indexAddr hS hop hLe hi.val h0 hj (.inr ⟨cap, ht, hu⟩) (.c ?_)
          rw [hk]
          exact R.vw_sub ⟨hF1, hF2⟩ hc _ _
        · cases h
      · cases h
    · rename_i e _ _ _ id off n k _ j hL hx' hi'
      rw [hx'] at hx
      rw [hi'] at hi
      split at h
      · rename_i L hLe
        split at h
        · rename_i hh
          obtain ⟨hk, h0, hj⟩ := hh
          simp only [Option.some.injEq] at h; subst h
          obtain ⟨cap, hu, hid, -, -, -, hgh⟩ := hx.muI.resolve_left (fun h => by omega)
          have ht : X.P.underlying t = some (.slice e) := (X.ok t _ hL).kind
          refine good_indexAddr hS hop hLe hi.val h0 hj (.inr ⟨cap, ht, hu⟩) (.c ?_)
          rw [hk, Nat.add_assoc]
          exact .pt hid hgh
        · cases h
      · cases h
    · rename_i n e _ _ _ own cs off _ j hL hx' hi'
      rw [hx'] at hx
      rw [hi'] at hi
      split at h
      · rename_i L hLe
        split at h
        · rename_i hh
          obtain ⟨h0, hj⟩ := hh
          simp only [Option.some.injEq] at h; subst h
          obtain ⟨b, base, hu, hF, hB, hc, hv⟩ := hx.vwI
          have ht : X.P.underlying t = some (.array n e) := (X.ok t _ hL).kind
          refine good_indexAddr hS hop hLe hi.val h0 hj (.inl ⟨ht, hu⟩) (.c ?_)
          rw [Nat.add_assoc]
          exact hv _
        · cases h
      · cases h
    · rename_i n e _ _ _ id off _ j hL hx' hi'
      rw [hx'] at hx
      rw [hi'] at hi
      split at h
      · rename_i L hLe
        split at h
        · rename_i hh
          obtain ⟨h0, hj⟩ := hh
          simp only [Option.some.injEq] at h; subst h
          obtain ⟨hu, hid, hgh⟩ := hx.ptI
          have ht : X.P.underlying t = some (.array n e) := (X.ok t _ hL).kind
          refine good_indexAddr hS hop hLe hi.val h0 hj (.inl ⟨ht, hu⟩) (.c ?_)
          rw [Nat.add_assoc]
          exact .pt hid hgh
        · cases h
      · cases h
    · cases h
  case index t x i =>
    have hx := hρ x
    have hi := hρ i
    split at h
    · rename_i n e _ _ _ cs _ j hL hx' hi'
      rw [hx'] at hx
      rw [hi'] at hi
      split at h
      · rename_i L hLe
        split at h
        · rename_i hh
          have ht : X.P.underlying t = some (.array n e) := (X.ok t _ hL).kind
          exact good_index_array hS hop ht hLe hx hi.val hh.1 hh.2.1 hh.2.2 h
        · cases h
      · cases h
    · rename_i s _ j hL hx' hi'
      rw [hx'] at hx
      rw [hi'] at hi
      split at h
      · rename_i hh
        simp only [Option.some.injEq] at h; subst h
        have ht : X.P.underlying t = some .string := (X.ok t _ hL).kind
        exact good_index_string hS hop ht hx.val hi.val hh.1 hh.2
      · cases h
    · cases h
  case extract x i =>
    have hx := hρ x
    split at h
    · rename_i vs hx'
      rw [hx'] at hx
      exact good_extract hS hop hx h
    · cases h
  case makeFunc fn first caps =>
    cases fn <;> simp only at h <;> try (cases h; done)
    rename_i g
    split at h
    · rename_i hf
      obtain ⟨cs, hcs, rfl⟩ := Option.map_eq_some_iff.1 h
      obtain ⟨h1, h2⟩ := capsOf_get hcs
      refine good_makeFunc hS hop hf (by simpa using h1) (fun j c hj => ?_)
      obtain ⟨x, hx, hr⟩ := h2 j c hj
      have := hρ x
      rw [hr] at this
      exact ⟨x, by simpa using hx, this.cell⟩
    · cases h
  case call cc =>
    obtain ⟨callee, args, argTypes⟩ := cc
    cases callee <;> try (cases h; done)
    rename_i b
    cases b <;> try (cases h; done)
    case max =>
      simp only at h
      split at h
      · rename_i x y hargs
        have hargs' : args = #[x, y] := by cases args; simpa using hargs
        subst hargs'
        have hx := hρ x
        have hy := hρ y
        split at h
        · rename_i hx' hy'
          rw [hx'] at hx
          rw [hy'] at hy
          simp only [Option.some.injEq] at h; subst h
          exact good_max hS hop hx.val hy.val
        · cases h
      · cases h
    case min =>
      simp only at h
      split at h
      · rename_i x y hargs
        have hargs' : args = #[x, y] := by cases args; simpa using hargs
        subst hargs'
        have hx := hρ x
        have hy := hρ y
        split at h
        · rename_i hx' hy'
          rw [hx'] at hx
          rw [hy'] at hy
          simp only [Option.some.injEq] at h; subst h
          exact good_min hS hop hx.val hy.val
        · cases h
      · cases h
    simp only at h
    split at h
    · rename_i x t hargs htypes
      have hargs' : args = #[x] := by cases args; simpa using hargs
      have htypes' : argTypes = #[t] := by cases argTypes; simpa using htypes
      subst hargs' htypes'
      have hx := hρ x
      split at h
      · rename_i e _ _ _ hL
        obtain ⟨n, hn, rfl⟩ := Option.map_eq_some_iff.1 h
        have ht : X.P.underlying t = some (.slice e) := (X.ok t _ hL).kind
        generalize ρ x = vx at hn hx
        unfold lenV at hn
        split at hn
        · simp only [Option.some.injEq] at hn; subst hn
          rcases hx.slI with ⟨hu, rfl, -⟩ | ⟨a, cap, hu, -⟩
          · exact good_len hS hop (.inl ⟨e, _, _, 0, ht, hu, rfl⟩)
          · exact good_len hS hop (.inl ⟨e, _, _, _, ht, hu, rfl⟩)
        · simp only [Option.some.injEq] at hn; subst hn
          rcases hx.muI with ⟨hu, rfl, -⟩ | ⟨cap, hu, -⟩
          · exact good_len hS hop (.inl ⟨e, _, _, 0, ht, hu, rfl⟩)
          · exact good_len hS hop (.inl ⟨e, _, _, _, ht, hu, rfl⟩)
        · simp only [Option.some.injEq] at hn; subst hn
          exact good_len hS hop (.inl ⟨e, _, _, 0, ht, hx.val, rfl⟩)
        · cases hn
      · rename_i s hL hx'
        rw [hx'] at hx
        simp only [Option.some.injEq] at h; subst h
        have ht : X.P.underlying t = some .string := (X.ok t _ hL).kind
        exact good_len hS hop (.inr (.inl ⟨s, ht, hx.val, rfl⟩))
      · rename_i n e _ _ _ hL
        simp only [Option.some.injEq] at h; subst h
        have ht : X.P.underlying t = some (.array n e) := (X.ok t _ hL).kind
        exact good_len hS hop (.inr (.inr ⟨e, n, ht, rfl⟩))
      · cases h
    · cases h
  case build t parts =>
    split at h
    · rename_i fs _ _ z hL
      split at h
      · rename_i places hp
        obtain ⟨cs, hcs, rfl⟩ := Option.map_eq_some_iff.1 h
        exact good_build_struct hS hρ hop hL hp hcs
      · cases h
    · rename_i n e _ _ z hL
      split at h
      · rename_i L hLe
        obtain ⟨cs, hcs, rfl⟩ := Option.map_eq_some_iff.1 h
        exact good_build_array hS hρ hop hL hLe hcs
      · cases h
    · cases h
  case convert s t x =>
    exact good_conv hS hop (hρ x) (by simp only [evq]; exact h)
  case slice t x lo hi mx =>
    cases mx with
    | some _ => simp only at h; cases h
    | none =>
    simp only at h
    have hx := hρ x
    split at h
    · rename_i e _ _ _ own n k cs hL hx'
      rw [hx'] at hx
      have ht : X.P.underlying t = some (.slice e) := (X.ok t _ hL).kind
      split at h
      · rename_i L l hh hLe hlo hhi
        split at h
        · rename_i hc
          obtain ⟨hk, hk0, c0, c1, c2⟩ := hc
          simp only [Option.some.injEq] at h; subst h
          have b1 := bnd_sound hρ hlo
          have b2 := bnd_sound hρ hhi
          rcases hx.slI with ⟨hu, rfl, rfl⟩ | ⟨a, cap, hu, hn, hm, hl, hF, hcell⟩
          · have e1 : l = 0 := by omega
            have e2 : hh = 0 := by omega
            subst e1 e2
            exact good_slice_nil hS hop ht hLe hu b1 b2 (.c (by simpa [sub] using R.fz (m := m) (c := .sl own 0 k []) .nil))
          refine good_slice_slice hS hop ht hLe hu b1 b2 c0 c1 (by omega) hn (.c ?_)
          have hlen : l.toNat * k + (hh.toNat - l.toNat) * k ≤ cs.length := by
            rw [hl, ← Nat.add_mul]; exact Nat.mul_le_mul_right k (by omega)
          obtain ⟨us, hul, hus⟩ := choose_list (cs := sub cs (l.toNat * k) ((hh.toNat - l.toNat) * k)) (p := fun j c u => m.w.cell? ⟨a.block, a.off + l.toNat * k + j, none⟩ = some u ∧ RF m own c u) (fun j c hj => by
            obtain ⟨-, hg⟩ := sub_get hj
            obtain ⟨u, h1, h2⟩ := hcell _ _ hg
            exact ⟨u, by rw [Nat.add_assoc]; exact h1, h2⟩)
          refine .fz (.sl (fun j => us.getD j default) (by omega) (by omega) (sub_length hlen) (fun hne => ?_) (fun j c hj => ?_) (fun j c hj => ?_))
          · have hne' : cs ≠ [] := by rintro rfl; exact hne (by simp [sub])
            obtain ⟨hsp, h1, h2⟩ := hF hne'
            have hblk : (if cap = l.toNat then a else a.add (l.toNat * L.size)).block = a.block := by split <;> simp [Addr.add]; split <;> rfl
            refine ⟨?_, by rw [hblk]; exact h1, by rw [hblk]; exact h2⟩
            split
            · exact hsp
            · unfold Addr.add; split
              · exact hsp
              · rfl
          · obtain ⟨u, h1, h2, h3⟩ := hus j c hj
            have hcap : cap ≠ l.toNat := by
              intro he
              have : (sub cs (l.toNat * k) ((hh.toNat - l.toNat) * k)).length = 0 := by
                rw [sub_length hlen]
                have : hh.toNat - l.toNat = 0 := by omega
                rw [this]; simp
              have hlt := (List.getElem?_eq_some_iff.1 hj).1
              omega
            have hadd : (if cap = l.toNat then a else a.add (l.toNat * L.size)).block = a.block ∧ (if cap = l.toNat then a else a.add (l.toNat * L.size)).off = a.off + l.toNat * k := by
              rw [if_neg hcap, hk]
              unfold Addr.add
              by_cases hz : l.toNat * k = 0
              · rw [if_pos hz, hz]; exact ⟨rfl, rfl⟩
              · rw [if_neg hz]; exact ⟨rfl, rfl⟩
            rw [hadd.1, hadd.2]
            simpa [List.getD, h1] using h2
          · obtain ⟨u, h1, h2, h3⟩ := hus j c hj
            simpa [List.getD, h1, C.own] using h3
        · cases h
      · cases h
    · rename_i e _ _ _ id off n k hL hx'
      rw [hx'] at hx
      have ht : X.P.underlying t = some (.slice e) := (X.ok t _ hL).kind
      split at h
      · rename_i L l hh hLe hlo hhi
        split at h
        · rename_i hc
          obtain ⟨hk, c0, c1, c2, c3⟩ := hc
          simp only [Option.some.injEq] at h; subst h
          have b1 := bnd_sound hρ hlo
          have b2 := bnd_sound hρ hhi
          rcases hx.muI with ⟨hu, rfl, rfl, hid, hgh⟩ | ⟨cap, hu, hid, hn, hsz, hm, hgh⟩
          · have e1 : l = 0 := by omega
            have e2 : hh = 0 := by omega
            subst e1 e2
            refine good_slice_nil hS hop ht hLe hu b1 b2 (.c ?_)
            simp only [Int.toNat_zero, Nat.zero_mul, Nat.sub_self]
            exact .mn hid hgh
          have hmul : (cap - l.toNat) * k + l.toNat * k = cap * k := by rw [← Nat.add_mul]; congr 1; omega
          refine good_slice_slice hS hop ht hLe hu b1 b2 c0 c1 (by omega) hn (.c ?_)
          have hadd : (if cap = l.toNat then (⟨(m.μ id).block, (m.μ id).base + off, none⟩ : Addr) else (⟨(m.μ id).block, (m.μ id).base + off, none⟩ : Addr).add (l.toNat * L.size)) = ⟨(m.μ id).block, (m.μ id).base + (off + l.toNat * k), none⟩ := by
            rcases c3 with rfl | c3
            · simp [addr_add]
            · rw [if_neg (by omega), addr_add, hk, Nat.add_assoc]
          rw [hadd]
          exact .mu hid hgh (by omega) (by omega) (by omega)
        · split at h
          · rename_i hc
            obtain ⟨c0, c1, c2⟩ := hc
            simp only [Option.some.injEq] at h; subst h
            have b1 := bnd_sound hρ hlo
            have b2 := bnd_sound hρ hhi
            obtain ⟨cap, hu, hid, hn, hsz, hm, hgh⟩ := hx.muI.resolve_left (fun h => by have := h.2.1; omega)
            refine good_slice_slice hS hop ht hLe hu b1 b2 (by omega) (by omega) (by omega) hn (.c (.fz ?_))
            rw [show hh.toNat - l.toNat = 0 by omega]
            exact .sl (fun _ => default) (Nat.zero_le _) (by omega) (by simp) (fun h => absurd rfl h) (fun j c hj => by simp at hj) (fun j c hj => by simp at hj)
          · cases h
      · cases h
    · rename_i s hL hx'
      rw [hx'] at hx
      have ht : X.P.underlying t = some .string := (X.ok t _ hL).kind
      split at h
      · rename_i l hh hlo hhi
        split at h
        · rename_i hc
          obtain ⟨c0, c1, c2⟩ := hc
          simp only [Option.some.injEq] at h; subst h
          exact good_slice_string hS hop ht hx.val (bnd_sound hρ hlo) (bnd_sound hρ hhi) c0 c1 c2
        · cases h
      · cases h
    · rename_i n e _ _ _ own cs off hL hx'
      rw [hx'] at hx
      have ht : X.P.underlying t = some (.array n e) := (X.ok t _ hL).kind
      split at h
      · rename_i L l hh hLe hlo hhi
        split at h
        · rename_i hc
          obtain ⟨hk0, c0, c1, c2, c3, c4⟩ := hc
          simp only [Option.some.injEq] at h; subst h
          obtain ⟨b, base, hu, hF, hB, hcell, -⟩ := hx.vwI
          have hmul : l.toNat * L.size + (hh.toNat - l.toNat) * L.size ≤ n * L.size := by rw [← Nat.add_mul]; exact Nat.mul_le_mul_right _ (by omega)
          refine good_slice_array hS hop ht hLe hu (bnd_sound hρ hlo) (bnd_sound hρ hhi) c0 c1 c2 (.c ?_)
          obtain ⟨us, hul, hus⟩ := choose_list (cs := sub cs (off + l.toNat * L.size) ((hh.toNat - l.toNat) * L.size)) (p := fun j c u => m.w.cell? ⟨b, base + off + l.toNat * L.size + j, none⟩ = some u ∧ RF m own c u) (fun j c hj => by
            obtain ⟨-, hg⟩ := sub_get hj
            obtain ⟨u, h1, h2⟩ := hcell _ _ hg
            exact ⟨u, by rw [show base + off + l.toNat * L.size + j = base + (off + l.toNat * L.size + j) by omega]; exact h1, h2⟩)
          refine .fz (.sl (fun j => us.getD j default) (by omega) (by omega) (sub_length (by omega)) (fun hne => ?_) (fun j c hj => ?_) (fun j c hj => ?_))
          · refine ⟨?_, ?_, ?_⟩
            · split
              · rfl
              · rw [addr_add]
            · split
              · exact hF
              · rw [addr_add]; exact hF
            · split
              · exact hB
              · rw [addr_add]; exact hB
          · obtain ⟨u, h1, h2, h3⟩ := hus j c hj
            have hcap : n ≠ l.toNat := by
              intro he
              have : (sub cs (off + l.toNat * L.size) ((hh.toNat - l.toNat) * L.size)).length = 0 := by
                rw [sub_length (by omega)]
                have : hh.toNat - l.toNat = 0 := by omega
                rw [this]; simp
              have hlt := (List.getElem?_eq_some_iff.1 hj).1
              omega
            rw [if_neg hcap, addr_add]
            simpa [List.getD, h1] using h2
          · obtain ⟨u, h1, h2, h3⟩ := hus j c hj
            simpa [List.getD, h1, C.own] using h3
        · cases h
      · cases h
    · rename_i n e _ _ _ id off hL hx'
      rw [hx'] at hx
      have ht : X.P.underlying t = some (.array n e) := (X.ok t _ hL).kind
      split at h
      · rename_i L l hh ob hLe hlo hhi hob
        split at h
        · rename_i hc
          obtain ⟨c0, c1, c2, c3, c4, c5, c6⟩ := hc
          simp only [Option.some.injEq] at h; subst h
          obtain ⟨hu, hid, hgh⟩ := hx.ptI
          obtain ⟨arr, o1, o2, o3, -⟩ := hS.ob id ob hob c4 hgh
          have hmul : (n - l.toNat) * L.size + l.toNat * L.size = n * L.size := by rw [← Nat.add_mul]; congr 1; omega
          refine good_slice_array hS hop ht hLe hu (bnd_sound hρ hlo) (bnd_sound hρ hhi) c0 c1 c2 (.c ?_)
          have hadd : (if n = l.toNat then (⟨(m.μ id).block, (m.μ id).base + off, none⟩ : Addr) else (⟨(m.μ id).block, (m.μ id).base + off, none⟩ : Addr).add (l.toNat * L.size)) = ⟨(m.μ id).block, (m.μ id).base + (off + l.toNat * L.size), none⟩ := by
            rcases c6 with rfl | c6
            · simp [addr_add]
            · rw [if_neg (by omega), addr_add, Nat.add_assoc]
          rw [hadd]
          exact .mu hid hgh (by omega) (by omega) (by omega)
        · cases h
      · cases h
    · cases h
end
end Go.VL
namespace Go.VL
open Go.RowKit

section
variable {G : Glob} {m : Mem} {H : List Ob}

/-- Where a further object lies. -/
def μadd (μ : Nat → Pl) (N : Nat) (p : Pl) : Nat → Pl := fun id => if id = N then p else μ id
theorem μadd_new (μ : Nat → Pl) (N : Nat) (p : Pl) : μadd μ N p N = p := by simp [μadd]
theorem μadd_old (μ : Nat → Pl) {N id : Nat} (p : Pl) (h : id < N) : μadd μ N p id = μ id := by
  unfold μadd; rw [if_neg (by omega)]

/-- A new block, and an object that is it. -/
theorem Sim.new (hS : Sim G m H) {w' : World} {arr : Array Value} {t : TypeId} {cs : List C} (hh : w'.heap = m.w.heap.push (.cells arr t (0, 0))) (h2 : w'.os = m.w.os) (h3 : w'.tape = m.w.tape) (h4 : w'.output = m.w.output)
    (hl : cs.length ≤ arr.size) (hr : ∀ (j : Nat) (c : C), cs[j]? = some c → ∃ u, arr[j]? = some u ∧ R m c u) :
    Sim G { m with w := w', N := m.N + 1, μ := μadd m.μ m.N ⟨m.w.heap.size, 0, arr.size, false⟩ } (H ++ [⟨cs, t, true⟩]) ∧
      Ext m { m with w := w', N := m.N + 1, μ := μadd m.μ m.N ⟨m.w.heap.size, 0, arr.size, false⟩ } := by
  have hold : ∀ b, b < m.w.heap.size → w'.heap[b]? = m.w.heap[b]? := fun b hb => by rw [hh, Array.getElem?_push, if_neg (by omega)]
  have he : Ext m { m with w := w', N := m.N + 1, μ := μadd m.μ m.N ⟨m.w.heap.size, 0, arr.size, false⟩ } :=
    ⟨h2, h3, h4, by simp [hh], fun b hb => hold b (hb.elim (hS.lo b) (fun h => Nat.lt_of_lt_of_le h hS.bs)), fun _ h => h, rfl, Nat.le_succ _, fun id hid => μadd_old _ _ hid, fun _ h => .inl h⟩
  have hN := hS.N
  have hnew : w'.heap[m.w.heap.size]? = some (.cells arr t (0, 0)) := by rw [hh]; simp
  refine ⟨⟨by simp [hN], fun b hb => ?_, ?_, fun id hid hgh => ?_, fun id o ho hlive hgh => ?_, fun id o ho hlive hgh => ?_, fun i j oi oj hi hj h1 h2 q1 q2 hne => ?_, fun g hg => ?_⟩, he⟩
  · have := hS.lo b hb; simp only [hh, Array.size_push]; omega
  · have := hS.bs; simp only [hh, Array.size_push]; omega
  · simp only at hid hgh ⊢
    by_cases hlt : id < m.N
    · rw [μadd_old _ _ hlt] at hgh ⊢; have := hS.blk id hlt hgh; simp only [hh, Array.size_push]; omega
    · have : id = m.N := by omega
      subst this; rw [μadd_new]; simp [hh]
  · by_cases hlt : id < H.length
    · rw [List.getElem?_append_left hlt] at ho
      simp only [μadd_old m.μ _ (show id < m.N by omega)] at hgh ⊢
      obtain ⟨a', g1, g2, g3, g4, g5, g6⟩ := hS.ob id o ho hlive hgh
      refine ⟨a', ?_, g2, g3, fun j c hj => ?_, g5, g6⟩
      · exact g1.eq (hold _ (hS.blk id (by omega) hgh))
      · obtain ⟨u, hu, hr'⟩ := g4 j c hj; exact ⟨u, hu, hr'.ext he⟩
    · have hid : id = m.N := by
        have := (List.getElem?_eq_some_iff.1 ho).1
        simp at this; omega
      subst hid
      rw [hN, List.getElem?_append_right (Nat.le_refl _)] at ho
      simp at ho
      subst ho
      simp only [μadd_new]
      refine ⟨arr, .of hnew, rfl, by simpa using hl, fun j c hj => ?_, fun hF => absurd (hS.lo _ hF) (by omega), hS.bs⟩
      obtain ⟨u, hu, hr'⟩ := hr j c hj
      exact ⟨u, by simpa using hu, hr'.ext he⟩
  · by_cases hlt : id < H.length
    · rw [List.getElem?_append_left hlt] at ho
      simp only [μadd_old m.μ _ (show id < m.N by omega)] at hgh
      exact hS.gho id o ho hlive hgh
    · have hid : id = m.N := by
        have := (List.getElem?_eq_some_iff.1 ho).1
        simp at this; omega
      subst hid
      simp only [μadd_new] at hgh
      cases hgh
  · simp only at q1 q2 ⊢
    have key : ∀ {i : Nat} {oi : Ob}, (H ++ [⟨cs, t, true⟩])[i]? = some oi → i < m.N ∨ i = m.N := fun {i oi} h => by
      have := (List.getElem?_eq_some_iff.1 h).1
      simp at this; omega
    rcases key hi with hi' | hi' <;> rcases key hj with hj' | hj'
    · rw [μadd_old _ _ hi', μadd_old _ _ hj']
      rw [μadd_old _ _ hi'] at q1
      rw [μadd_old _ _ hj'] at q2
      rw [List.getElem?_append_left (by omega)] at hi hj
      exact hS.inj i j oi oj hi hj h1 h2 q1 q2 hne
    · subst hj'
      rw [μadd_old _ _ hi', μadd_new]
      rw [μadd_old _ _ hi'] at q1
      have := hS.blk i hi' q1
      simp only; omega
    · subst hi'
      rw [μadd_old _ _ hj', μadd_new]
      rw [μadd_old _ _ hj'] at q2
      have := hS.blk j hj' q2
      simp only; omega
    · omega
  · obtain ⟨g1, g2⟩ := hS.gl g hg
    exact ⟨g1, fun j x hj => ⟨(he.cellb g1).trans (g2.1 j x hj).1, (g2.1 j x hj).2⟩, g2.2.keep (he.keep g.1 (.inl g1))⟩

/-- A further object that is the nil slice. -/
theorem Sim.ghost (hS : Sim G m H) (t : TypeId) :
    Sim G { m with N := m.N + 1, μ := μadd m.μ m.N ⟨0, 0, 0, true⟩ } (H ++ [⟨[], t, true⟩]) ∧ Ext m { m with N := m.N + 1, μ := μadd m.μ m.N ⟨0, 0, 0, true⟩ } := by
  have hN := hS.N
  have he : Ext m { m with N := m.N + 1, μ := μadd m.μ m.N ⟨0, 0, 0, true⟩ } :=
    ⟨rfl, rfl, rfl, Nat.le_refl _, fun _ _ => rfl, fun _ h => h, rfl, Nat.le_succ _, fun i hi => μadd_old _ _ hi, fun _ h => .inl h⟩
  have get : ∀ {i : Nat} {oi : Ob}, (H ++ [⟨[], t, true⟩])[i]? = some oi → ((μadd m.μ m.N ⟨0, 0, 0, true⟩) i).gh = false → i < m.N ∧ H[i]? = some oi := fun {i oi} h hg => by
    by_cases hlt : i < m.N
    · rw [List.getElem?_append_left (by omega)] at h; exact ⟨hlt, h⟩
    · have : i = m.N := by
        have := (List.getElem?_eq_some_iff.1 h).1
        simp at this; omega
      subst this
      rw [μadd_new] at hg
      cases hg
  refine ⟨⟨by simp [hN], hS.lo, hS.bs, fun i hi hg => ?_, fun i o ho hl hg => ?_, fun i o ho hl hg => ?_, fun i j oi oj hi hj g1 g2 q1 q2 hne => ?_, hS.gl⟩, he⟩
  · simp only at hi hg ⊢
    by_cases hlt : i < m.N
    · rw [μadd_old _ _ hlt] at hg ⊢; exact hS.blk i hlt hg
    · have : i = m.N := by omega
      subst this
      rw [μadd_new] at hg
      cases hg
  · obtain ⟨hlt, ho⟩ := get ho hg
    simp only [μadd_old m.μ _ hlt] at hg ⊢
    obtain ⟨a', g1, g2, g3, g4, g5, g6⟩ := hS.ob i o ho hl hg
    exact ⟨a', g1, g2, g3, fun j c hj => let ⟨u, hu, hr'⟩ := g4 j c hj; ⟨u, hu, hr'.ext he⟩, g5, g6⟩
  · by_cases hlt : i < m.N
    · rw [List.getElem?_append_left (by omega)] at ho
      simp only [μadd_old m.μ _ hlt] at hg
      exact hS.gho i o ho hl hg
    · have : i = m.N := by
        have := (List.getElem?_eq_some_iff.1 ho).1
        simp at this; omega
      subst this
      rw [hN, List.getElem?_append_right (Nat.le_refl _)] at ho
      simp at ho
      rw [← ho]
  · obtain ⟨l1, hi⟩ := get hi q1
    obtain ⟨l2, hj⟩ := get hj q2
    simp only [μadd_old m.μ _ l1, μadd_old m.μ _ l2] at q1 q2 ⊢
    exact hS.inj i j oi oj hi hj g1 g2 q1 q2 hne

/-- An object's cells turn. -/
theorem Sim.put (hS : Sim G m H) {id : Nat} {ob : Ob} (ho : H[id]? = some ob) (hlive : ob.live = true) (hgh : (m.μ id).gh = false) {arr' : Array Value} {w' : World} {cs' : List C}
    (hw : Row w' (m.μ id).block arr' ob.t) (hsz : arr'.size = (m.μ id).size) (hoth : ∀ b, b ≠ (m.μ id).block → w'.heap[b]? = m.w.heap[b]?) (hsize : w'.heap.size = m.w.heap.size)
    (h2 : w'.os = m.w.os) (h3 : w'.tape = m.w.tape) (h4 : w'.output = m.w.output) (hl : (m.μ id).base + cs'.length ≤ arr'.size)
    (hr : ∀ (j : Nat) (c : C), cs'[j]? = some c → ∃ u, arr'[(m.μ id).base + j]? = some u ∧ R m c u) :
    Sim G { m with w := w' } (H.set id { ob with cs := cs' }) ∧ Ext m { m with w := w' } := by
  obtain ⟨arr, o1, o2, o3, o4, o5, o6⟩ := hS.ob id ob ho hlive hgh
  have he : Ext m { m with w := w' } := ⟨h2, h3, h4, by simp [hsize], fun b hb => hoth b (by
    rintro rfl
    rcases hb with hb | hb
    · exact o5 hb
    · omega), fun _ h => h, rfl, Nat.le_refl _, fun _ _ => rfl, fun _ h => .inl h⟩
  have hidlt : id < H.length := (List.getElem?_eq_some_iff.1 ho).1
  have get : ∀ {i : Nat} {oi : Ob}, (H.set id { ob with cs := cs' })[i]? = some oi → (i = id ∧ oi = { ob with cs := cs' }) ∨ (i ≠ id ∧ H[i]? = some oi) := fun {i oi} h => by
    by_cases hi : i = id
    · subst hi
      rw [List.getElem?_set_self hidlt] at h
      exact .inl ⟨rfl, (Option.some.inj h).symm⟩
    · rw [List.getElem?_set_ne (by omega)] at h
      exact .inr ⟨hi, h⟩
  refine ⟨⟨by simpa using hS.N, fun b hb => by simpa [hsize] using hS.lo b hb, by simpa [hsize] using hS.bs, fun i hi hg => by simpa [hsize] using hS.blk i hi hg, fun i o hio hil hg => ?_, fun i o hio hil hg => ?_, fun i j oi oj hi hj g1 g2 q1 q2 hne => ?_, fun g hg => ?_⟩, he⟩
  · rcases get hio with ⟨rfl, rfl⟩ | ⟨hne, hio⟩
    · exact ⟨arr', hw, hsz, hl, fun j c hj => let ⟨u, hu, hr'⟩ := hr j c hj; ⟨u, hu, hr'.ext he⟩, o5, o6⟩
    · obtain ⟨a', g1, g2, g3, g4, g5, g6⟩ := hS.ob i o hio hil hg
      refine ⟨a', ?_, g2, g3, fun j c hj => let ⟨u, hu, hr'⟩ := g4 j c hj; ⟨u, hu, hr'.ext he⟩, g5, g6⟩
      exact g1.eq (hoth _ (hS.inj i id o ob hio ho hil hlive hg hgh hne))
  · rcases get hio with ⟨rfl, rfl⟩ | ⟨hne, hio⟩
    · rw [hgh] at hg; cases hg
    · exact hS.gho i o hio hil hg
  · have key : ∀ {i : Nat} {oi : Ob}, (H.set id { ob with cs := cs' })[i]? = some oi → oi.live = true → ∃ o', H[i]? = some o' ∧ o'.live = true := fun {i oi} h h' => by
      rcases get h with ⟨rfl, rfl⟩ | ⟨hne, h⟩
      · exact ⟨ob, ho, hlive⟩
      · exact ⟨oi, h, h'⟩
    obtain ⟨o1', a1, a2⟩ := key hi g1
    obtain ⟨o2', b1, b2⟩ := key hj g2
    exact hS.inj i j o1' o2' a1 b1 a2 b2 q1 q2 hne
  · obtain ⟨g1, g2⟩ := hS.gl g hg
    exact ⟨g1, fun j x hj => ⟨(he.cellb g1).trans (g2.1 j x hj).1, (g2.1 j x hj).2⟩, g2.2.keep (he.keep g.1 (.inl g1))⟩

/-- An object is forgotten. -/
theorem Sim.kill (hS : Sim G m H) {id : Nat} {ob : Ob} (ho : H[id]? = some ob) : Sim G m (H.set id { ob with live := false }) := by
  have hidlt : id < H.length := (List.getElem?_eq_some_iff.1 ho).1
  have get : ∀ {i : Nat} {oi : Ob}, (H.set id { ob with live := false })[i]? = some oi → oi.live = true → i ≠ id ∧ H[i]? = some oi := fun {i oi} h hl => by
    by_cases hi : i = id
    · subst hi
      rw [List.getElem?_set_self hidlt] at h
      have := (Option.some.inj h).symm
      subst this
      simp at hl
    · rw [List.getElem?_set_ne (by omega)] at h
      exact ⟨hi, h⟩
  exact ⟨by simpa using hS.N, hS.lo, hS.bs, hS.blk, fun i o hio hil => hS.ob i o (get hio hil).2 hil, fun i o hio hil => hS.gho i o (get hio hil).2 hil, fun i j oi oj hi hj g1 g2 hne => hS.inj i j oi oj (get hi g1).2 (get hj g2).2 g1 g2 hne, hS.gl⟩

/-- An object is another one's end: the other is forgotten. -/
theorem Sim.move (hS : Sim G m H) {id off : Nat} {ob : Ob} (ho : H[id]? = some ob) (hlive : ob.live = true) (hgh : (m.μ id).gh = false) (hoff : off ≤ ob.cs.length) :
    Sim G { m with N := m.N + 1, μ := μadd m.μ m.N ⟨(m.μ id).block, (m.μ id).base + off, (m.μ id).size, false⟩ } (H.set id { ob with live := false } ++ [⟨ob.cs.drop off, ob.t, true⟩]) ∧
      Ext m { m with N := m.N + 1, μ := μadd m.μ m.N ⟨(m.μ id).block, (m.μ id).base + off, (m.μ id).size, false⟩ } := by
  have hN := hS.N
  have hidlt : id < H.length := (List.getElem?_eq_some_iff.1 ho).1
  have he : Ext m { m with N := m.N + 1, μ := μadd m.μ m.N ⟨(m.μ id).block, (m.μ id).base + off, (m.μ id).size, false⟩ } :=
    ⟨rfl, rfl, rfl, Nat.le_refl _, fun _ _ => rfl, fun _ h => h, rfl, Nat.le_succ _, fun i hi => μadd_old _ _ hi, fun _ h => .inl h⟩
  have get : ∀ {i : Nat} {oi : Ob}, (H.set id { ob with live := false } ++ [⟨ob.cs.drop off, ob.t, true⟩])[i]? = some oi → oi.live = true → (i < m.N ∧ i ≠ id ∧ H[i]? = some oi) ∨ (i = m.N ∧ oi = ⟨ob.cs.drop off, ob.t, true⟩) := fun {i oi} h hl => by
    by_cases hi : i < H.length
    · rw [List.getElem?_append_left (by simpa using hi)] at h
      by_cases hii : i = id
      · subst hii
        rw [List.getElem?_set_self hidlt] at h
        have := (Option.some.inj h).symm
        subst this
        simp at hl
      · rw [List.getElem?_set_ne (by omega)] at h
        exact .inl ⟨by omega, hii, h⟩
    · have hlen := (List.getElem?_eq_some_iff.1 h).1
      simp at hlen
      have hie : i = H.length := by omega
      subst hie
      rw [List.getElem?_append_right (by simp)] at h
      simp at h
      exact .inr ⟨hN.symm, h.symm⟩
  obtain ⟨arr, o1, o2, o3, o4, o5, o6⟩ := hS.ob id ob ho hlive hgh
  refine ⟨⟨by simp [hN], hS.lo, hS.bs, fun i hi hg => ?_, fun i o hio hil hg => ?_, fun i o hio hil hg => ?_, fun i j oi oj hi hj g1 g2 q1 q2 hne => ?_, fun g hg => ?_⟩, he⟩
  · simp only at hi hg ⊢
    by_cases hlt : i < m.N
    · rw [μadd_old _ _ hlt] at hg ⊢; exact hS.blk i hlt hg
    · have : i = m.N := by omega
      subst this; rw [μadd_new]; exact hS.blk id (by omega) hgh
  · rcases get hio hil with ⟨hlt, hne, hio⟩ | ⟨rfl, rfl⟩
    · simp only [μadd_old m.μ _ hlt] at hg ⊢
      obtain ⟨a', g1, g2, g3, g4, g5, g6⟩ := hS.ob i o hio hil hg
      exact ⟨a', g1, g2, g3, fun j c hj => let ⟨u, hu, hr'⟩ := g4 j c hj; ⟨u, hu, hr'.ext he⟩, g5, g6⟩
    · simp only [μadd_new]
      refine ⟨arr, o1, o2, ?_, fun j c hj => ?_, o5, o6⟩
      · simp only [List.length_drop]; omega
      · rw [List.getElem?_drop] at hj
        obtain ⟨u, hu, hr'⟩ := o4 _ c hj
        exact ⟨u, by rw [Nat.add_assoc]; exact hu, hr'.ext he⟩
  · rcases get hio hil with ⟨hlt, hne, hio⟩ | ⟨rfl, rfl⟩
    · simp only [μadd_old m.μ _ hlt] at hg
      exact hS.gho i o hio hil hg
    · simp only [μadd_new] at hg
      cases hg
  · simp only at q1 q2 ⊢
    rcases get hi g1 with ⟨hlt, hne1, hi⟩ | ⟨rfl, rfl⟩ <;> rcases get hj g2 with ⟨hlt', hne2, hj⟩ | ⟨rfl, rfl⟩
    · rw [μadd_old _ _ hlt] at q1 ⊢
      rw [μadd_old _ _ hlt'] at q2 ⊢
      exact hS.inj i j oi oj hi hj g1 g2 q1 q2 hne
    · rw [μadd_old _ _ hlt] at q1 ⊢
      rw [μadd_new]
      exact hS.inj i id oi ob hi ho g1 hlive q1 hgh hne1
    · rw [μadd_old _ _ hlt'] at q2 ⊢
      rw [μadd_new]
      exact (hS.inj j id oj ob hj ho g2 hlive q2 hgh hne2).symm
    · omega
  · obtain ⟨g1, g2⟩ := hS.gl g hg
    exact ⟨g1, g2⟩
end
end Go.VL
namespace Go.VL
open Go.RowKit

theorem Row.set {w : World} {b : Nat} {arr arr' : Array Value} {t : TypeId} (h : Row w b arr t) (hs : arr'.size = arr.size) : Row (w.setRow b arr') b arr' t := by
  obtain ⟨fz, h1, h2⟩ := h
  exact ⟨fz, setRow_heap w b arr arr' t fz h1, h2.imp (fun h => h) (fun h => by rw [hs]; exact h)⟩
theorem run_storeCells_row (P : Program) (g o : Nat) (t : TypeId) : ∀ (vs : List Value) (i : Nat) (cur : Array Value) (w : World), Row w g cur t → o + i + vs.length ≤ cur.size → (∀ v ∈ vs, v.oneCell' = true) →
    (storeCells ⟨g, o, none⟩ vs i).run P w = .ok () (w.setRow g (cur.toList.take (o + i) ++ vs ++ cur.toList.drop (o + i + vs.length)).toArray)
  | [], i, cur, w, hr, _, _ => by
    obtain ⟨fz, hg, -⟩ := hr
    simp only [storeCells, List.append_nil, List.length_nil, Nat.add_zero, List.take_append_drop, Array.toArray_toList]
    rw [setRow_self w g cur t fz hg]
    rfl
  | v :: rest, i, cur, w, hr, hl, h1 => by
    have hr' := hr
    obtain ⟨fz, hg, hfz⟩ := hr
    have hi : o + i < cur.size := by simp at hl; omega
    have hadd : (⟨g, o, none⟩ : Addr).add i = ⟨g, o + i, none⟩ := by unfold Addr.add; split <;> simp_all
    have hcell : w.cell? ⟨g, o + i, none⟩ = some cur[o + i] := by simp [World.cell?, hg, hi]
    have hfro : w.frozen? ⟨g, o + i, none⟩ = false := by
      obtain ⟨lo, hi'⟩ := fz
      simp only [World.frozen?, hg, Bool.and_eq_false_iff, decide_eq_false_iff_not]
      rcases hfz with hfz | hfz
      · simp only [Prod.mk.injEq] at hfz
        right; omega
      · have hfz1 := hfz.1
        simp only at hfz1
        left; omega
    have hst : (store ((⟨g, o, none⟩ : Addr).add i) v).run P w = .ok () (w.setRow g (cur.setIfInBounds (o + i) v)) := by
      rw [hadd, run_store P w _ v _ (h1 v (by simp)), hcell]
      simp [hfro, setCell_eq_setRow w g (o + i) cur t fz v hg]
    have ih := run_storeCells_row P g o t rest (i + 1) (cur.setIfInBounds (o + i) v) (w.setRow g (cur.setIfInBounds (o + i) v)) (hr'.set (by simp)) (by simp at hl ⊢; omega) (fun x hx => h1 x (by simp [hx]))
    simp only [storeCells, Sem.run_bind, hst, Result.andThen_ok, ih, setRow_setRow]
    congr 3
    have e := list_seg_step cur.toList (o + i) v rest (by simp at hl ⊢; omega)
    simpa [Array.toList_setIfInBounds, Nat.add_assoc] using e

/-- What an operation that writes comes to: its value, the objects, and what must hold. -/
structure Eff where
  v : V
  H : List Ob
  φ : Prop

def setCells (cs : List C) (off : Nat) (new : List C) : List C := cs.take off ++ new ++ cs.drop (off + new.length)

def zeros (L : Lay) : Nat → List C
  | 0 => []
  | n + 1 => L.zero.map cOf ++ zeros L n

/-- The cells of a slice that is read. -/
def srcOf (H : List Ob) : V → Option (Nat × Nat × List C)
  | .c (.sl o n k cs) => some (n, k, reowns o cs)
  | .c (.mu id off n k) => match H[id]? with
    | some o => if o.live = true ∧ off + n * k ≤ o.cs.length then some (n, k, sub o.cs off (n * k)) else none
    | none => none
  | _ => none

def eve (lay : TypeId → Option Lay) (H : List Ob) (ρ : Operand → V) : Op → Option Eff
  | .box t x => match lay t, (ρ x).cells with
    | some _, some cs => some ⟨.c (.pt H.length 0), H ++ [⟨cs, t, true⟩], True⟩
    | _, _ => none
  | .alloc t => match lay t with
    | some L => some ⟨.c (.pt H.length 0), H ++ [⟨L.zero.map cOf, t, true⟩], True⟩
    | none => none
  | .store t a x => match lay t, ρ a, (ρ x).cells with
    | some L, .c (.pt id off), some cs => match H[id]? with
      | some o => if o.live = true ∧ cs.length = L.size ∧ off + L.size ≤ o.cs.length then some ⟨.any, H.set id { o with cs := setCells o.cs off cs }, True⟩ else none
      | none => none
    | _, _, _ => none
  | .buildSlice t n parts => match lay t with
    | some ⟨.slice e, _, _, _⟩ => match lay e with
      | some L => match fillC (fun i => some (i * L.size, L.size)) (zeros L n) (parts.toList.map fun p => (p.1, ρ p.2)) with
        | some cs => if 0 < L.size ∧ n * L.size ≤ 2 ^ 24 then some ⟨.c (.mu H.length 0 n L.size), H ++ [⟨cs, e, true⟩], True⟩ else none
        | none => none
      | none => none
    | _ => none
  | .makeSlice t l c => match lay t, ρ l, ρ c with
    | some ⟨.slice e, _, _, _⟩, .c (.v (.int _ n)), .c (.v (.int _ n')) => match lay e with
      | some L => if n = n' then some ⟨.c (.mu H.length 0 n.toNat L.size), H ++ [⟨zeros L n.toNat, e, true⟩], 0 < L.size ∧ 0 ≤ n ∧ n ≤ maxLen ∧ L.bytes * n ≤ 140737488355328⟩ else none
      | none => none
    | _, _, _ => none
  | .call { callee := .builtin .append, args, argTypes } => match args.toList, argTypes.toList with
    | [s, x], [t, t'] => if t = t' then match lay t with
      | some ⟨.slice e, _, _, _⟩ => match lay e, srcOf H (ρ x) with
        | some L, some (n, k, cs) => match ρ s with
          | .c (.v (.slice none 0 0)) => some ⟨.c (.mu H.length 0 n k), H ++ [⟨cs, e, true⟩], L.size = k ∧ 0 < k ∧ n ≤ maxLen ∧ n * L.bytes ≤ 140737488355328⟩
          | .c (.mu id off n0 k0) => match H[id]? with
            | some o => some ⟨.c (.mu H.length 0 (n0 + n) k), H.set id { o with live := false } ++ [⟨sub o.cs off (n0 * k) ++ cs, e, true⟩],
                L.size = k ∧ k0 = k ∧ 0 < k ∧ o.live = true ∧ o.t = e ∧ off + n0 * k ≤ o.cs.length ∧ n0 + n ≤ maxLen ∧ (n0 + n) * L.bytes ≤ 140737488355328⟩
            | none => none
          | _ => none
        | _, _ => none
      | _ => none
      else none
    | _, _ => none
  | .call { callee := .builtin .clear, args, argTypes } => match args.toList, argTypes.toList with
    | [s], [t] => match lay t with
      | some ⟨.slice e, _, _, _⟩ => match lay e, ρ s with
        | some L, .c (.mu id off n k) => match H[id]? with
          | some o => some ⟨.any, H.set id { o with cs := setCells o.cs off (zeros L n) }, L.size = k ∧ o.live = true ∧ off + n * k ≤ o.cs.length⟩
          | none => none
        | some _, .c (.sl _ n _ _) => some ⟨.any, H, n = 0⟩
        | _, _ => none
      | _ => none
    | _, _ => none
  | .call { callee := .builtin .copy, args, argTypes } => match args.toList, argTypes.toList with
    | [s, x], [t, _] => match lay t with
      | some ⟨.slice e, _, _, _⟩ => match lay e, srcOf H (ρ x) with
        | some L, some (n, k, cs) => match ρ s with
          | .c (.mu id off n0 k0) => match H[id]? with
            | some o => some ⟨.c (.v (.int .i64 (Nat.min n n0 : Nat))), H.set id { o with cs := setCells o.cs off (cs.take (Nat.min n n0 * k)) }, L.size = k ∧ k0 = k ∧ o.live = true ∧ off + n0 * k ≤ o.cs.length⟩
            | none => none
          | _ => none
        | _, _ => none
      | _ => none
    | _, _ => none
  | _ => none

section
variable {X : Cx} {m : Mem} {H : List Ob} {ε : Operand → Value} {ρ : Operand → V} {o : Oper} {f : Eff}

def GoodE (X : Cx) (m : Mem) (ε : Operand → Value) (o : Oper) (v : V) (H' : List Ob) : Prop :=
  ∃ (n : Next) (m' : Mem), (execOp ε o).run X.P m.w = .ok n m'.w ∧ Sim X.G m' H' ∧ Ext m m' ∧ ((∃ u, n = .value u ∧ RV m' v u) ∨ (n = .skip ∧ v = .any))

theorem cells_rel {v : V} {cs : List C} {u : Value} (hc : v.cells = some cs) (hr : RV m v u) : u.cells.size = cs.length ∧ ∀ (j : Nat) (c : C), cs[j]? = some c → ∃ x, u.cells[j]? = some x ∧ R m c x := by
  cases v with
  | c x =>
    simp only [V.cells, Option.some.injEq] at hc
    subst hc
    have hx := hr.cell
    have hp := hx.plain
    have hcells : u.cells = #[u] := by cases u <;> simp [plain] at hp <;> rfl
    rw [hcells]
    refine ⟨rfl, fun j c hj => ?_⟩
    cases j with
    | zero => simp at hj; subst hj; exact ⟨u, rfl, hx⟩
    | succ j => simp at hj
  | agg cs' =>
    simp only [V.cells, Option.some.injEq] at hc
    subst hc
    obtain ⟨arr, rfl, h1, h2⟩ := hr.aggI
    exact ⟨h1, h2⟩
  | tup vs => simp [V.cells] at hc
  | any => simp [V.cells] at hc

theorem oneCell_of_plain {u : Value} (h : plain u = true) : u.oneCell' = true := by cases u <;> simp [plain] at h <;> rfl

theorem good_new (hS : Sim X.G m H) {arr : Array Value} {t : TypeId} {cs : List C} (hl : cs.length ≤ arr.size) (hr : ∀ (j : Nat) (c : C), cs[j]? = some c → ∃ u, arr[j]? = some u ∧ R m c u)
    (hx : (execOp ε o).run X.P m.w = .ok (.value (.pointer (some ⟨m.w.heap.size, 0, none⟩))) { m.w with heap := m.w.heap.push (.cells arr t) }) :
    GoodE X m ε o (.c (.pt H.length 0)) (H ++ [⟨cs, t, true⟩]) := by
  obtain ⟨h1, h2⟩ := hS.new (w' := { m.w with heap := m.w.heap.push (.cells arr t) }) (arr := arr) (t := t) (cs := cs) rfl rfl rfl rfl hl hr
  refine ⟨_, _, hx, h1, h2, .inl ⟨_, rfl, .c ?_⟩⟩
  have := R.pt (m := { m with w := { m.w with heap := m.w.heap.push (.cells arr t) }, N := m.N + 1, μ := μadd m.μ m.N ⟨m.w.heap.size, 0, arr.size, false⟩ }) (id := m.N) (off := 0) (Nat.lt_succ_self _) (by simp [μadd_new])
  rw [← hS.N]
  simpa [μadd_new] using this

theorem good_box (hS : Sim X.G m H) {t : TypeId} {x : Operand} (ho : o.op = .box t x) {cs : List C} (hc : (ρ x).cells = some cs) (hr : RV m (ρ x) (ε x)) : GoodE X m ε o (.c (.pt H.length 0)) (H ++ [⟨cs, t, true⟩]) := by
  obtain ⟨h1, h2⟩ := cells_rel hc hr
  refine good_new hS (arr := (ε x).cells) (by omega) h2 ?_
  simp [execOp, ho, Instr.box, newVar, newRow, newObj, Sem.run]

theorem good_alloc (hS : Sim X.G m H) {t : TypeId} (ho : o.op = .alloc t) {L : Lay} (hL : X.lay t = some L) (hp : (L.zero.all plain) = true) : GoodE X m ε o (.c (.pt H.length 0)) (H ++ [⟨L.zero.map cOf, t, true⟩]) := by
  obtain ⟨-, -, i, z, h1, h2, h3, h4, h5, h6⟩ := X.ok t L hL
  refine good_new hS (arr := z.cells) (cs := L.zero.map cOf) (by rw [← h5]; simp) (fun j c hj => ?_) ?_
  · obtain ⟨u, hu, hr⟩ := zero_rel (m := m) L.zero (fun u hu => List.all_eq_true.1 hp u hu) j c hj
    rw [← h5] at hu
    exact ⟨u, by simpa using hu, hr⟩
  · simp [execOp, ho, Instr.alloc, zeroValue, typeInfo, h1, h4, newVar, newRow, newObj, Sem.run]

/-- A variable's cells are written. -/
theorem good_store (hS : Sim X.G m H) {t : TypeId} {a x : Operand} (ho : o.op = .store t a x) {L : Lay} (hL : X.lay t = some L) {id off : Nat} (ha : RV m (.c (.pt id off)) (ε a)) {cs : List C} (hc : (ρ x).cells = some cs)
    (hr : RV m (ρ x) (ε x)) {ob : Ob} (hob : H[id]? = some ob) (hlive : ob.live = true) (hl : cs.length = L.size) (hoff : off + L.size ≤ ob.cs.length) :
    GoodE X m ε o .any (H.set id { ob with cs := setCells ob.cs off cs }) := by
  obtain ⟨i, hi, his⟩ := size_ok hL
  obtain ⟨hae, hid, hgh⟩ := ha.ptI
  obtain ⟨h1, h2⟩ := cells_rel hc hr
  obtain ⟨arr, o1, o2, o3, o4, o5, o6⟩ := hS.ob id ob hob hlive hgh
  have hp : ∀ v ∈ (ε x).cells.toList, v.oneCell' = true := fun v hv => by
    obtain ⟨j, hj⟩ := List.mem_iff_getElem?.1 hv
    have hjl : j < cs.length := by rw [← h1]; have := (List.getElem?_eq_some_iff.1 hj).1; simpa using this
    obtain ⟨u, hu, hr'⟩ := h2 j _ (List.getElem?_eq_getElem hjl)
    have : u = v := by
      have h3 : (ε x).cells.toList[j]? = some u := by simpa using hu
      rw [hj] at h3; exact (Option.some.inj h3).symm
    rw [← this]
    exact oneCell_of_plain hr'.plain
  have hst := run_storeCells_row X.P (m.μ id).block ((m.μ id).base + off) ob.t (ε x).cells.toList 0 arr m.w o1 (by simp only [Array.length_toList]; omega) hp
  simp only [Nat.add_zero, Array.length_toList, h1] at hst
  generalize harr : (arr.toList.take ((m.μ id).base + off) ++ (ε x).cells.toList ++ arr.toList.drop ((m.μ id).base + off + cs.length)).toArray = arr' at hst
  have hasz : arr'.size = arr.size := by rw [← harr]; simp [h1]; omega
  obtain ⟨s1, s2⟩ := hS.put (arr' := arr') (w' := m.w.setRow (m.μ id).block arr') (cs' := setCells ob.cs off cs) hob hlive hgh (o1.set hasz) (by omega)
    (fun b hb => setRow_other m.w _ b arr' hb) (setRow_size m.w _ arr') rfl rfl rfl (by simp [setCells]; omega) (fun j c hj => by
      unfold setCells at hj
      rw [← harr]
      by_cases hj1 : j < off
      · rw [List.append_assoc, List.getElem?_append_left (by simp; omega), List.getElem?_take_of_lt hj1] at hj
        obtain ⟨u, hu, hr'⟩ := o4 j c hj
        refine ⟨u, ?_, hr'⟩
        simp only [List.getElem?_toArray]
        rw [List.append_assoc, List.getElem?_append_left (by simp; omega), List.getElem?_take_of_lt (by omega)]
        simpa using hu
      · by_cases hj2 : j < off + cs.length
        · rw [List.getElem?_append_left (by simp; omega), List.getElem?_append_right (by simp; omega)] at hj
          have : j - (ob.cs.take off).length = j - off := by simp; omega
          rw [this] at hj
          obtain ⟨u, hu, hr'⟩ := h2 _ c hj
          refine ⟨u, ?_, hr'⟩
          simp only [List.getElem?_toArray]
          rw [List.getElem?_append_left (by simp [h1]; omega), List.getElem?_append_right (by simp; omega)]
          have : (m.μ id).base + j - (arr.toList.take ((m.μ id).base + off)).length = j - off := by simp; omega
          rw [this]
          simpa using hu
        · rw [List.getElem?_append_right (by simp; omega)] at hj
          have : j - (ob.cs.take off ++ cs).length = j - (off + cs.length) := by simp; omega
          rw [this, List.getElem?_drop] at hj
          have : off + cs.length + (j - (off + cs.length)) = j := by omega
          rw [this] at hj
          obtain ⟨u, hu, hr'⟩ := o4 j c hj
          refine ⟨u, ?_, hr'⟩
          simp only [List.getElem?_toArray]
          rw [List.getElem?_append_right (by simp [h1]; omega)]
          have : (m.μ id).base + j - (arr.toList.take ((m.μ id).base + off) ++ (ε x).cells.toList).length = j - (off + cs.length) := by simp [h1]; omega
          rw [this, List.getElem?_drop]
          have : (m.μ id).base + off + cs.length + (j - (off + cs.length)) = (m.μ id).base + j := by omega
          rw [this]
          simpa using hu)
  refine ⟨.skip, _, ?_, s1, s2, .inr ⟨rfl, rfl⟩⟩
  simp [execOp, ho, hae, Instr.storeAt, Instr.sureAddr, storeVar, sizeOf, typeInfo, hi, his, h1, hl]
  rw [hst]
  rfl

theorem zeros_get {L : Lay} {s : Nat} (hs : L.zero.length = s) (h0 : 0 < s) : ∀ {n j : Nat} {c : C}, (zeros L n)[j]? = some c → j < n * s ∧ (L.zero.map cOf)[j % s]? = some c
  | 0, j, c, h => by simp [zeros] at h
  | n + 1, j, c, h => by
    simp only [zeros] at h
    by_cases hj : j < s
    · rw [List.getElem?_append_left (by simpa [hs] using hj)] at h
      rw [Nat.mod_eq_of_lt hj]
      exact ⟨by rw [Nat.add_mul]; omega, h⟩
    · rw [List.getElem?_append_right (by simp [hs]; omega)] at h
      have hl : j - (L.zero.map cOf).length = j - s := by simp [hs]
      rw [hl] at h
      obtain ⟨h1, h2⟩ := zeros_get hs h0 h
      refine ⟨by rw [Nat.add_mul]; omega, ?_⟩
      have : j % s = (j - s) % s := by rw [Nat.mod_eq_sub_mod (by omega)]
      rw [this]; exact h2
theorem zeros_length {L : Lay} {s : Nat} (hs : L.zero.length = s) : ∀ n, (zeros L n).length = n * s
  | 0 => by simp [zeros]
  | n + 1 => by simp [zeros, zeros_length hs n, hs, Nat.add_mul]; omega

/-- A new row: a slice over it. -/
theorem good_newRow (hS : Sim X.G m H) {arr : Array Value} {t : TypeId} {cs : List C} {n k cap : Nat} {w' : World} (hh : w'.heap = m.w.heap.push (.cells arr t (0, 0))) (h2 : w'.os = m.w.os) (h3 : w'.tape = m.w.tape) (h4 : w'.output = m.w.output)
    (hl : cs.length ≤ arr.size) (hr : ∀ (j : Nat) (c : C), cs[j]? = some c → ∃ u, arr[j]? = some u ∧ R m c u) (hn : n ≤ cap) (hc : cap * k ≤ arr.size) (hm : cap ≤ maxLen)
    (hx : (execOp ε o).run X.P m.w = .ok (.value (.slice (some ⟨m.w.heap.size, 0, none⟩) n cap)) w') :
    GoodE X m ε o (.c (.mu H.length 0 n k)) (H ++ [⟨cs, t, true⟩]) := by
  obtain ⟨h1, h2⟩ := hS.new (w' := w') (arr := arr) (t := t) (cs := cs) hh h2 h3 h4 hl hr
  refine ⟨_, _, hx, h1, h2, .inl ⟨_, rfl, .c ?_⟩⟩
  have := R.mu (m := { m with w := w', N := m.N + 1, μ := μadd m.μ m.N ⟨m.w.heap.size, 0, arr.size, false⟩ }) (id := m.N) (off := 0) (n := n) (k := k) (cap := cap) (Nat.lt_succ_self _) (by simp [μadd_new]) hn (by simp [μadd_new]; exact hc) hm
  rw [← hS.N]
  simpa [μadd_new] using this

theorem made_get {z : Array Value} {L : Lay} (hz : z.toList = L.zero) (hp : (L.zero.all plain) = true) (h0 : 0 < z.size) {n j : Nat} {c : C} (h : (zeros L n)[j]? = some c) :
    ∃ u, ((Array.range (n * z.size)).map (z[· % z.size]!))[j]? = some u ∧ R m c u := by
  have hs : L.zero.length = z.size := by rw [← hz]; simp
  obtain ⟨h1, h2⟩ := zeros_get hs h0 h
  obtain ⟨u, hu, hr⟩ := zero_rel (m := m) L.zero (fun u hu => List.all_eq_true.1 hp u hu) _ c h2
  refine ⟨u, ?_, hr⟩
  rw [← hz] at hu
  have hlt : j % z.size < z.size := Nat.mod_lt _ h0
  have hu' : z[j % z.size]? = some u := by simpa using hu
  simp [h1, getElem!_def, hu']

theorem good_makeSlice (hS : Sim X.G m H) {t e : TypeId} {l c : Operand} (ho : o.op = .makeSlice t l c) (ht : X.P.underlying t = some (.slice e)) {L : Lay} (hL : X.lay e = some L) (hp : (L.zero.all plain) = true) {kl kc : IntKind} {n : Int}
    (hl : ε l = .int kl n) (hc : ε c = .int kc n) (h0 : 0 < L.size) (h1 : 0 ≤ n) (h2 : n ≤ maxLen) (h3 : L.bytes * n ≤ 140737488355328) :
    GoodE X m ε o (.c (.mu H.length 0 n.toNat L.size)) (H ++ [⟨zeros L n.toNat, e, true⟩]) := by
  obtain ⟨-, -, i, z, g1, g2, g3, g4, g5, g6⟩ := X.ok e L hL
  obtain ⟨k, rfl⟩ := Int.eq_ofNat_of_zero_le h1
  unfold maxLen at h2
  have hs : L.zero.length = L.size := by rw [← g5]; simpa using g6
  have hr := run_make (P := X.P) m.w t e i z ht g1 g4 kl kc (k : Int) (k : Int) (by omega) (by omega) (by rw [g3]; omega) (by omega)
  simp only [Int.toNat_natCast, g2] at hr
  refine good_newRow hS (arr := madeCells z.cells (k * L.size)) (cap := k) (w' := m.w.alloc (.cells (madeCells z.cells (k * L.size)) e)) rfl rfl rfl rfl ?_ ?_ (Nat.le_of_eq (by simp)) ?_ (by unfold maxLen; omega) ?_
  · simp [zeros_length hs, size_madeCells]
  · intro j c' hj
    show ∃ u, ((Array.range (k * L.size)).map (z.cells[· % z.cells.size]!))[j]? = some u ∧ _
    rw [← g6]
    exact made_get (m := m) g5 hp (by omega) (n := k) (j := j) (c := c') (by simpa using hj)
  · simp [size_madeCells]
  · simp [execOp, ho, hl, hc, hr]

theorem Sim.same_live {G : Glob} {H' : List Ob} (hS : Sim G m H) (hlen : H'.length = H.length) (h : ∀ (i : Nat) (o : Ob), H'[i]? = some o → o.live = true → H[i]? = some o) : Sim G m H' :=
  ⟨by rw [hlen]; exact hS.N, hS.lo, hS.bs, hS.blk, fun i o hi hl => hS.ob i o (h i o hi hl) hl, fun i o hi hl => hS.gho i o (h i o hi hl) hl, fun i j oi oj hi hj g1 g2 hne => hS.inj i j oi oj (h i oi hi g1) (h j oj hj g2) g1 g2 hne, hS.gl⟩

/-- The nil slice, as a further object. -/
theorem good_ghost (hS : Sim X.G m H) {t : TypeId} {k : Nat} (hx : (execOp ε o).run X.P m.w = .ok (.value (.slice none 0 0)) m.w) : GoodE X m ε o (.c (.mu H.length 0 0 k)) (H ++ [⟨[], t, true⟩]) := by
  obtain ⟨h1, h2⟩ := hS.ghost t
  refine ⟨_, { m with N := m.N + 1, μ := μadd m.μ m.N ⟨0, 0, 0, true⟩ }, hx, h1, h2, .inl ⟨_, rfl, .c ?_⟩⟩
  rw [← hS.N]
  exact .mn (Nat.lt_succ_self _) (by simp [μadd_new])

/-- append, the source's cells known. -/
theorem srcOf_rel (hS : Sim X.G m H) {v : V} {u : Value} {n k : Nat} {cs : List C} (h : srcOf H v = some (n, k, cs)) (hr : RV m v u) : cs.length = n * k ∧
    ∃ us : List Value, us.length = cs.length ∧ (∀ u ∈ us, u.oneCell' = true) ∧ (∀ (j : Nat) (c : C), cs[j]? = some c → ∃ x, us[j]? = some x ∧ R m c x) ∧
      ((u = .slice none 0 0 ∧ n = 0 ∧ us = []) ∨ ∃ a cap, u = .slice (some a) n cap ∧ ∀ (j : Nat) (x : Value), us[j]? = some x → m.w.cell? (a.add j) = some x) := by
  have fin : ∀ {b off : Nat}, (∀ (j : Nat) (c : C), cs[j]? = some c → ∃ u, m.w.cell? ⟨b, off + j, none⟩ = some u ∧ R m c u) →
      ∃ us : List Value, us.length = cs.length ∧ (∀ u ∈ us, u.oneCell' = true) ∧ (∀ (j : Nat) (x : Value), us[j]? = some x → m.w.cell? ((⟨b, off, none⟩ : Addr).add j) = some x) ∧ ∀ (j : Nat) (c : C), cs[j]? = some c → ∃ x, us[j]? = some x ∧ R m c x := by
    intro b off hc
    obtain ⟨us, h1, h2⟩ := choose_list hc
    have back : ∀ (j : Nat) (x : Value), us[j]? = some x → ∃ c, cs[j]? = some c ∧ m.w.cell? ⟨b, off + j, none⟩ = some x ∧ R m c x := fun j x hj => by
      have hlt : j < cs.length := by rw [← h1]; exact (List.getElem?_eq_some_iff.1 hj).1
      obtain ⟨u, g1, g2, g3⟩ := h2 j _ (List.getElem?_eq_getElem hlt)
      rw [hj] at g1
      injection g1 with g1
      subst g1
      exact ⟨_, List.getElem?_eq_getElem hlt, g2, g3⟩
    refine ⟨us, h1, fun u hu => ?_, fun j x hj => ?_, fun j c hj => ?_⟩
    · obtain ⟨j, hj⟩ := List.mem_iff_getElem?.1 hu
      obtain ⟨c, -, -, h3⟩ := back j u hj
      exact oneCell_of_plain h3.plain
    · obtain ⟨c, -, h3, -⟩ := back j x hj
      rw [addr_add]; exact h3
    · obtain ⟨u, g1, -, g3⟩ := h2 j c hj
      exact ⟨u, g1, g3⟩
  cases v with
  | c x =>
    cases x <;> simp only [srcOf] at h <;> try (cases h; done)
    · rename_i own n' k' cs'
      simp only [Option.some.injEq, Prod.mk.injEq] at h
      obtain ⟨rfl, rfl, rfl⟩ := h
      rcases hr.slI with ⟨hu, rfl, rfl⟩ | ⟨a, cap, hu, -, -, hl, hF, hc⟩
      · have : reowns own [] = [] := by cases own <;> rfl
        rw [this]
        exact ⟨by simp, [], rfl, by simp, by simp, .inl ⟨hu, rfl, rfl⟩⟩
      · refine ⟨by rw [reowns_length]; exact hl, ?_⟩
        by_cases hne : cs' = []
        · subst hne
          have : reowns own [] = [] := by cases own <;> rfl
          rw [this]
          exact ⟨[], rfl, by simp, by simp, .inr ⟨a, cap, hu, by simp⟩⟩
        · obtain ⟨hsp, -⟩ := hF hne
          obtain ⟨ab, ao, ags⟩ := a
          simp only at hsp
          subst hsp
          obtain ⟨us, h1, h2, h3, h4⟩ := fin (b := ab) (off := ao) (fun j c hj => by
            obtain ⟨c', hj', rfl⟩ := reowns_get hj
            obtain ⟨u, g1, g2⟩ := hc j c' hj'
            exact ⟨u, g1, g2.r⟩)
          exact ⟨us, h1, h2, h4, .inr ⟨_, cap, hu, h3⟩⟩
    · split at h
      · rename_i ob ho
        split at h
        · rename_i hl
          simp only [Option.some.injEq, Prod.mk.injEq] at h
          obtain ⟨rfl, rfl, rfl⟩ := h
          refine ⟨sub_length hl.2, ?_⟩
          rcases hr.muI with ⟨hu, rfl, rfl, -, -⟩ | ⟨cap, hu, -⟩
          · exact ⟨[], by simp [sub], by simp, by simp [sub], .inl ⟨hu, rfl, rfl⟩⟩
          · obtain ⟨us, h1, h2, h3, h4⟩ := fin fun j c hj => by
              obtain ⟨-, hg⟩ := sub_get hj
              obtain ⟨u, g1, g2⟩ := hS.cell ho hl.1 hg
              exact ⟨u, by rw [Nat.add_assoc]; exact g1, g2⟩
            exact ⟨us, h1, h2, h4, .inr ⟨_, cap, hu, h3⟩⟩
        · cases h
      · cases h
  | _ => simp [srcOf] at h

theorem good_append_nil (hS : Sim X.G m H) {s x : Operand} {t : TypeId} (ho : o.op = .call { callee := .builtin .append, args := #[s, x], argTypes := #[t, t] }) {e : TypeId} (ht : X.P.underlying t = some (.slice e)) {L : Lay} (hL : X.lay e = some L)
    {n k : Nat} {cs : List C} {vx : V} {H0 : List Ob} (hS0 : Sim X.G m H0) (hx : srcOf H0 vx = some (n, k, cs)) (hr : RV m vx (ε x)) (hs : ε s = .slice none 0 0) (hk : L.size = k) (h63 : n ≤ maxLen) (hb : n * L.bytes ≤ 140737488355328) :
    GoodE X m ε o (.c (.mu H.length 0 n k)) (H ++ [⟨cs, e, true⟩]) := by
  obtain ⟨-, -, i, z, g1, g2, g3, g4, g5, g6⟩ := X.ok e L hL
  obtain ⟨hl, us, hul, hone, hrel, hsrc⟩ := srcOf_rel hS0 hx hr
  unfold maxLen at h63
  by_cases hn : n = 0
  · subst hn
    have hcs : cs = [] := List.eq_nil_of_length_eq_zero (by omega)
    have hus : us = [] := List.eq_nil_of_length_eq_zero (by rw [hul, hcs]; rfl)
    subst hcs hus
    refine good_ghost hS ?_
    rcases hsrc with ⟨hu, -, -⟩ | ⟨a, c, hu, -⟩
    · simp [execOp, ho, resolve, invoke, builtin, hs, hu, Builtin.append_, run_underlying ht, sizeOf, typeInfo, g1, Builtin.lenOf, Builtin.firstCells]
    · have hld : (loadCells a 0).run X.P m.w = .ok #[] m.w := run_loadCells_list (P := X.P) m.w a [] (by simp)
      simp [execOp, ho, resolve, invoke, builtin, hs, hu, Builtin.append_, run_underlying ht, sizeOf, typeInfo, g1, Builtin.lenOf, Builtin.firstCells, hld]
  obtain ⟨a, c, hu, hcell⟩ := hsrc.resolve_left (fun h => hn h.2.1)
  have hrun := run_append_nil (P := X.P) m.w t o.type e i z ht g1 g4 a n c us (by rw [hul, hl, g2, hk]) hcell (by omega) (by omega) (by rw [g3]; omega)
  have hge := grownCap_ge m.w n 0 e
  have hcm := grownCap_le_maxLen m.w n 0 e (by unfold maxLen; omega)
  refine good_newRow hS (arr := us.toArray ++ Builtin.zeroCells z.cells (grownCap m.w n 0 e - n)) (cap := grownCap m.w n 0 e) (n := n) (k := k)
    (w' := m.w.drew.alloc (.cells (us.toArray ++ Builtin.zeroCells z.cells (grownCap m.w n 0 e - n)) e)) rfl rfl rfl rfl ?_ (fun j c hj => ?_) hge ?_ hcm ?_
  · simp [hul]
  · obtain ⟨u, h1, h2⟩ := hrel j c hj
    refine ⟨u, ?_, h2⟩
    rw [Array.getElem?_append_left (by simp; exact (List.getElem?_eq_some_iff.1 h1).1)]
    simpa using h1
  · simp only [Array.size_append, List.size_toArray, size_zeroCells, hul, hl, g6, hk, ← Nat.add_mul]
    exact Nat.le_of_eq (by congr 1; omega)
  · simp [execOp, ho, resolve, invoke, builtin, hs, hu, hrun]

theorem good_append_mu (hS : Sim X.G m H) {s x : Operand} {t : TypeId} (ho : o.op = .call { callee := .builtin .append, args := #[s, x], argTypes := #[t, t] }) {e : TypeId} (ht : X.P.underlying t = some (.slice e)) {L : Lay} (hL : X.lay e = some L)
    {n k : Nat} {cs : List C} (hx : srcOf H (ρ x) = some (n, k, cs)) (hr : RV m (ρ x) (ε x)) {id off n0 : Nat} (hs : RV m (.c (.mu id off n0 k)) (ε s)) {ob : Ob} (hob : H[id]? = some ob) (hlive : ob.live = true) (hte : ob.t = e)
    (hoff : off + n0 * k ≤ ob.cs.length) (hk : L.size = k) (h63 : n0 + n ≤ maxLen) (hb : (n0 + n) * L.bytes ≤ 140737488355328) :
    GoodE X m ε o (.c (.mu H.length 0 (n0 + n) k)) (H.set id { ob with live := false } ++ [⟨sub ob.cs off (n0 * k) ++ cs, e, true⟩]) := by
  obtain ⟨-, -, i, z, g1, g2, g3, g4, g5, g6⟩ := X.ok e L hL
  rcases hs.muI with ⟨hse, rfl, rfl, hid, hgh⟩ | ⟨cap, hse, hid, hcap, hsz, hcm, hgh⟩
  · -- the nil slice
    have hob0 := hS.gho id ob hob hlive hgh
    have := good_append_nil (hS.kill hob) ho ht hL hS hx hr hse hk (by omega) (by rw [Nat.zero_add] at hb; exact hb)
    simpa [hob0, sub] using this
  obtain ⟨hl, us, hul, hone, hrel, hsrc⟩ := srcOf_rel hS hx hr
  obtain ⟨arr, o1, o2, o3, o4, o5, o6⟩ := hS.ob id ob hob hlive hgh
  subst hte
  have hsub : sub ob.cs off (n0 * k) = (ob.cs.drop off).take (n0 * k) := rfl
  by_cases hroom : n0 + n ≤ cap
  · -- in place
    have hfit : (n0 + n) * k ≤ cap * k := Nat.mul_le_mul_right k hroom
    rw [Nat.add_mul] at hfit
    have hst := run_storeCells_row X.P (m.μ id).block ((m.μ id).base + off + n0 * k) ob.t us 0 arr m.w o1 (by omega) hone
    simp only [Nat.add_zero] at hst
    generalize harr : (arr.toList.take ((m.μ id).base + off + n0 * k) ++ us ++ arr.toList.drop ((m.μ id).base + off + n0 * k + us.length)).toArray = arr' at hst
    have hasz : arr'.size = arr.size := by rw [← harr]; simp; omega
    have hrun : (Builtin.append_ #[t, t] o.type #[.slice (some ⟨(m.μ id).block, (m.μ id).base + off, none⟩) n0 cap, ε x]).run X.P m.w =
        .ok (.slice (some ⟨(m.μ id).block, (m.μ id).base + off, none⟩) (n0 + n) cap) (m.w.setRow (m.μ id).block arr') := by
      rcases hsrc with ⟨hu, rfl, rfl⟩ | ⟨a, c, hu, hcell⟩
      · simp [Builtin.append_, run_underlying ht, sizeOf, typeInfo, g1, Builtin.lenOf, hcap, hu, Builtin.firstCells, addr_add, g2, hk, hst]
      · have hfc := run_firstCells_some (P := X.P) m.w i.size n a n c us (by rw [hul, hl, g2, hk]) hcell
        rw [g2, hk] at hfc
        simp [Builtin.append_, run_underlying ht, sizeOf, typeInfo, g1, Builtin.lenOf, hroom, hu, hfc, addr_add, g2, hk, hst]
    obtain ⟨s1, s2⟩ := hS.put (arr' := arr') (w' := m.w.setRow (m.μ id).block arr') (cs' := ob.cs.take off ++ (sub ob.cs off (n0 * k) ++ cs)) hob hlive hgh (o1.set hasz) (by omega)
      (fun b hb => setRow_other m.w _ b arr' hb) (setRow_size m.w _ arr') rfl rfl rfl (by simp [hsub]; omega) (fun j c hj => by
        rw [← harr]
        have hpre : (ob.cs.take off ++ sub ob.cs off (n0 * k)) = ob.cs.take (off + n0 * k) := by rw [hsub, List.take_add]
        rw [← List.append_assoc, hpre] at hj
        by_cases hj1 : j < off + n0 * k
        · rw [List.getElem?_append_left (by simp; omega), List.getElem?_take_of_lt hj1] at hj
          obtain ⟨u, hu, hr'⟩ := o4 j c hj
          refine ⟨u, ?_, hr'⟩
          simp only [List.getElem?_toArray]
          rw [List.append_assoc, List.getElem?_append_left (by simp; omega), List.getElem?_take_of_lt (by omega)]
          simpa using hu
        · rw [List.getElem?_append_right (by simp; omega)] at hj
          have : j - (ob.cs.take (off + n0 * k)).length = j - (off + n0 * k) := by simp; omega
          rw [this] at hj
          obtain ⟨u, hu, hr'⟩ := hrel _ c hj
          have hlt := (List.getElem?_eq_some_iff.1 hu).1
          refine ⟨u, ?_, hr'⟩
          simp only [List.getElem?_toArray]
          rw [List.getElem?_append_left (by simp; omega), List.getElem?_append_right (by simp; omega)]
          have : (m.μ id).base + j - (arr.toList.take ((m.μ id).base + off + n0 * k)).length = j - (off + n0 * k) := by simp; omega
          rw [this]
          exact hu)
    have hidlt : id < H.length := (List.getElem?_eq_some_iff.1 hob).1
    obtain ⟨m1, m2⟩ := s1.move (id := id) (off := off) (ob := { ob with cs := ob.cs.take off ++ (sub ob.cs off (n0 * k) ++ cs) }) (by rw [List.getElem?_set_self hidlt]) hlive hgh (by simp; omega)
    have hdrop : (ob.cs.take off ++ (sub ob.cs off (n0 * k) ++ cs)).drop off = sub ob.cs off (n0 * k) ++ cs := by
      rw [List.drop_append_of_le_length (by simp; omega), List.drop_of_length_le (by simp; omega), List.nil_append]
    simp only [hdrop, List.set_set] at m1
    refine ⟨.value (.slice (some ⟨(m.μ id).block, (m.μ id).base + off, none⟩) (n0 + n) cap), _, ?_, ?_, s2.trans m2, .inl ⟨_, rfl, .c ?_⟩⟩
    · simp [execOp, ho, resolve, invoke, builtin, hse, hrun]
    · refine m1.same_live (by simp) fun i o' hi hl' => ?_
      by_cases hlt : i < H.length
      · rw [List.getElem?_append_left (by simpa using hlt)] at hi
        by_cases hii : i = id
        · subst hii
          rw [List.getElem?_set_self hidlt] at hi
          have := (Option.some.inj hi).symm
          subst this
          simp at hl'
        · rw [List.getElem?_set_ne (by omega)] at hi
          rw [List.getElem?_append_left (by simpa using hlt), List.getElem?_set_ne (by omega)]
          exact hi
      · rw [List.getElem?_append_right (by simp; omega)] at hi ⊢
        simpa using hi
    · have := R.mu (m := { m with w := m.w.setRow (m.μ id).block arr', N := m.N + 1, μ := μadd m.μ m.N ⟨(m.μ id).block, (m.μ id).base + off, (m.μ id).size, false⟩ }) (id := m.N) (off := 0) (n := n0 + n) (k := k) (cap := cap) (Nat.lt_succ_self _) (by simp [μadd_new]) hroom (by simp [μadd_new]; omega) hcm
      rw [← hS.N]
      simpa [μadd_new] using this
  · -- a new row
    have hcg : cap < n0 + n := by omega
    obtain ⟨a, c, hu, hcell⟩ := hsrc.resolve_left (fun h => by omega)
    have hsl : (sub ob.cs off (n0 * k)).length = n0 * k := sub_length hoff
    have holdc : ∀ (j : Nat) (c : C), (sub ob.cs off (n0 * k))[j]? = some c → ∃ u, m.w.cell? ⟨(m.μ id).block, (m.μ id).base + off + j, none⟩ = some u ∧ R m c u := fun j c hj => by
      obtain ⟨-, hg⟩ := sub_get hj
      obtain ⟨u, q1, q2⟩ := hS.cell hob hlive hg
      exact ⟨u, by rw [Nat.add_assoc]; exact q1, q2⟩
    obtain ⟨olds, q1, q2⟩ := choose_list holdc
    have holds : ∀ (j : Nat) (v : Value), olds[j]? = some v → m.w.cell? ((⟨(m.μ id).block, (m.μ id).base + off, none⟩ : Addr).add j) = some v := fun j v hj => by
      have hlt : j < (sub ob.cs off (n0 * k)).length := by rw [← q1]; exact (List.getElem?_eq_some_iff.1 hj).1
      obtain ⟨u, r1, r2, -⟩ := q2 j _ (List.getElem?_eq_getElem hlt)
      rw [hj] at r1
      injection r1 with r1
      rw [addr_add, r1]
      exact r2
    have h63' : n0 + n ≤ 9223372036854775807 := by unfold maxLen at h63; omega
    have hrun := run_append_grow (P := X.P) m.w t o.type ob.t i z ht g1 g4 ⟨(m.μ id).block, (m.μ id).base + off, none⟩ n0 cap olds (by rw [q1, hsl, g2, hk]) holds a n c us (by rw [hul, hl, g2, hk]) hcell hcg (by omega)
      (growslice_fits hcg (by rw [g3]; exact hb))
    have hge := grownCap_ge m.w (n0 + n) cap ob.t
    have hcm' := grownCap_le_maxLen m.w (n0 + n) cap ob.t h63
    have hgood : GoodE X m ε o (.c (.mu (H.set id { ob with live := false }).length 0 (n0 + n) k)) (H.set id { ob with live := false } ++ [⟨sub ob.cs off (n0 * k) ++ cs, ob.t, true⟩]) := by
      refine good_newRow (hS.kill hob) (arr := olds.toArray ++ us.toArray ++ Builtin.zeroCells z.cells (grownCap m.w (n0 + n) cap ob.t - (n0 + n))) (cap := grownCap m.w (n0 + n) cap ob.t) (n := n0 + n) (k := k)
        (w' := m.w.drew.alloc (.cells (olds.toArray ++ us.toArray ++ Builtin.zeroCells z.cells (grownCap m.w (n0 + n) cap ob.t - (n0 + n))) ob.t)) rfl rfl rfl rfl ?_ (fun j c hj => ?_) hge ?_ hcm' ?_
      · simp [hul, q1]
      · have hmem : ∃ u, (olds ++ us)[j]? = some u ∧ R m c u := by
          by_cases hjl : j < (sub ob.cs off (n0 * k)).length
          · rw [List.getElem?_append_left hjl] at hj
            obtain ⟨u, r1, -, r3⟩ := q2 j c hj
            exact ⟨u, by rw [List.getElem?_append_left (by omega)]; exact r1, r3⟩
          · rw [List.getElem?_append_right (by omega)] at hj
            obtain ⟨u, r1, r3⟩ := hrel _ c hj
            exact ⟨u, by rw [List.getElem?_append_right (by omega), q1]; exact r1, r3⟩
        obtain ⟨u, r1, r2⟩ := hmem
        refine ⟨u, ?_, r2⟩
        have hlt := (List.getElem?_eq_some_iff.1 r1).1
        rw [Array.getElem?_append_left (by simpa using hlt)]
        simpa using r1
      · simp only [Array.size_append, List.size_toArray, size_zeroCells, hul, hl, g6, hk, q1, hsl, ← Nat.add_mul]
        exact Nat.le_of_eq (by congr 1; omega)
      · simp [execOp, ho, resolve, invoke, builtin, hse, hu, hrun]
    simpa using hgood
/-- Cells of an object are written. -/
theorem Sim.putCells (hS : Sim X.G m H) {id off : Nat} {ob : Ob} (hob : H[id]? = some ob) (hlive : ob.live = true) (hgh : (m.μ id).gh = false) {cs : List C} {us : List Value} (hul : us.length = cs.length)
    (h2 : ∀ (j : Nat) (c : C), cs[j]? = some c → ∃ x, us[j]? = some x ∧ R m c x) (hp : ∀ v ∈ us, v.oneCell' = true) (hoff : off + cs.length ≤ ob.cs.length) :
    ∃ m' : Mem, (storeCells ⟨(m.μ id).block, (m.μ id).base + off, none⟩ us).run X.P m.w = .ok () m'.w ∧ Sim X.G m' (H.set id { ob with cs := setCells ob.cs off cs }) ∧ Ext m m' := by
  obtain ⟨arr, o1, o2, o3, o4, o5, o6⟩ := hS.ob id ob hob hlive hgh
  have hst := run_storeCells_row X.P (m.μ id).block ((m.μ id).base + off) ob.t us 0 arr m.w o1 (by omega) hp
  simp only [Nat.add_zero, hul] at hst
  generalize harr : (arr.toList.take ((m.μ id).base + off) ++ us ++ arr.toList.drop ((m.μ id).base + off + cs.length)).toArray = arr' at hst
  have hasz : arr'.size = arr.size := by rw [← harr]; simp [hul]; omega
  obtain ⟨s1, s2⟩ := hS.put (arr' := arr') (w' := m.w.setRow (m.μ id).block arr') (cs' := setCells ob.cs off cs) hob hlive hgh (o1.set hasz) (by omega)
    (fun b hb => setRow_other m.w _ b arr' hb) (setRow_size m.w _ arr') rfl rfl rfl (by simp [setCells]; omega) (fun j c hj => by
      unfold setCells at hj
      rw [← harr]
      by_cases hj1 : j < off
      · rw [List.append_assoc, List.getElem?_append_left (by simp; omega), List.getElem?_take_of_lt hj1] at hj
        obtain ⟨u, hu, hr'⟩ := o4 j c hj
        refine ⟨u, ?_, hr'⟩
        simp only [List.getElem?_toArray]
        rw [List.append_assoc, List.getElem?_append_left (by simp; omega), List.getElem?_take_of_lt (by omega)]
        simpa using hu
      · by_cases hj2 : j < off + cs.length
        · rw [List.getElem?_append_left (by simp; omega), List.getElem?_append_right (by simp; omega)] at hj
          have : j - (ob.cs.take off).length = j - off := by simp; omega
          rw [this] at hj
          obtain ⟨u, hu, hr'⟩ := h2 _ c hj
          refine ⟨u, ?_, hr'⟩
          simp only [List.getElem?_toArray]
          rw [List.getElem?_append_left (by simp [hul]; omega), List.getElem?_append_right (by simp; omega)]
          have : (m.μ id).base + j - (arr.toList.take ((m.μ id).base + off)).length = j - off := by simp; omega
          rw [this]
          exact hu
        · rw [List.getElem?_append_right (by simp; omega)] at hj
          have : j - (ob.cs.take off ++ cs).length = j - (off + cs.length) := by simp; omega
          rw [this, List.getElem?_drop] at hj
          have : off + cs.length + (j - (off + cs.length)) = j := by omega
          rw [this] at hj
          obtain ⟨u, hu, hr'⟩ := o4 j c hj
          refine ⟨u, ?_, hr'⟩
          simp only [List.getElem?_toArray]
          rw [List.getElem?_append_right (by simp [hul]; omega)]
          have : (m.μ id).base + j - (arr.toList.take ((m.μ id).base + off) ++ us).length = j - (off + cs.length) := by simp [hul]; omega
          rw [this, List.getElem?_drop]
          have : (m.μ id).base + off + cs.length + (j - (off + cs.length)) = (m.μ id).base + j := by omega
          rw [this]
          simpa using hu)
  exact ⟨_, hst, s1, s2⟩

theorem good_copy (hS : Sim X.G m H) {s x : Operand} {t t' : TypeId} (ho : o.op = .call { callee := .builtin .copy, args := #[s, x], argTypes := #[t, t'] }) {e : TypeId} (ht : X.P.underlying t = some (.slice e)) {L : Lay} (hL : X.lay e = some L)
    {n k : Nat} {cs : List C} (hx : srcOf H (ρ x) = some (n, k, cs)) (hr : RV m (ρ x) (ε x)) {id off n0 : Nat} (hs : RV m (.c (.mu id off n0 k)) (ε s)) {ob : Ob} (hob : H[id]? = some ob) (hlive : ob.live = true)
    (hoff : off + n0 * k ≤ ob.cs.length) (hk : L.size = k) :
    GoodE X m ε o (.c (.v (.int .i64 (Nat.min n n0 : Nat)))) (H.set id { ob with cs := setCells ob.cs off (cs.take (Nat.min n n0 * k)) }) := by
  obtain ⟨-, -, i, z, g1, g2, g3, g4, g5, g6⟩ := X.ok e L hL
  obtain ⟨hl, us, hul, hone, hrel, hsrc⟩ := srcOf_rel hS hx hr
  rcases hs.muI with ⟨hse, rfl, rfl, hid, hgh⟩ | ⟨cap, hse, hid, hcap, hsz, hcm, hgh⟩
  · have hob0 := hS.gho id ob hob hlive hgh
    have hz : Nat.min n 0 = 0 := Nat.min_zero n
    rw [hz]
    have hset : H.set id { ob with cs := setCells ob.cs 0 (cs.take (0 * k)) } = H := by
      have : { ob with cs := setCells ob.cs 0 (cs.take (0 * k)) } = ob := by
        obtain ⟨ocs, ot, ol⟩ := ob
        simp only at hob0
        subst hob0
        simp [setCells]
      rw [this]
      have hidlt : id < H.length := (List.getElem?_eq_some_iff.1 hob).1
      have : ob = H[id] := by rw [List.getElem?_eq_getElem hidlt] at hob; exact (Option.some.inj hob).symm
      rw [this, List.set_getElem_self]
    rw [hset]
    refine ⟨.value (.int .i64 0), m, ?_, hS, Ext.refl m, .inl ⟨_, rfl, .c (.v rfl)⟩⟩
    rcases hsrc with ⟨hu, hn0, hus⟩ | ⟨a, c, hu, hcell⟩
    · simp [execOp, ho, resolve, invoke, builtin, hse, hu, Builtin.copy_, run_underlying ht, sizeOf, typeInfo, g1, Builtin.lenOf, Builtin.firstCells, goInt]
    · have hld : (loadCells a 0).run X.P m.w = .ok #[] m.w := run_loadCells_list (P := X.P) m.w a [] (by simp)
      simp [execOp, ho, resolve, invoke, builtin, hse, hu, Builtin.copy_, run_underlying ht, sizeOf, typeInfo, g1, Builtin.lenOf, Builtin.firstCells, goInt, hld]
  have hmn : Nat.min n n0 * k ≤ n * k := Nat.mul_le_mul_right k (Nat.min_le_left n n0)
  have hm0 : Nat.min n n0 * k ≤ n0 * k := Nat.mul_le_mul_right k (Nat.min_le_right n n0)
  generalize hmd : Nat.min n n0 = q at hmn hm0 ⊢
  have htl : (cs.take (q * k)).length = q * k := by simp; omega
  have hul2 : (us.take (q * k)).length = q * k := by simp; omega
  obtain ⟨m', p1, p2, p3⟩ := hS.putCells (off := off) hob hlive hgh (cs := cs.take (q * k)) (us := us.take (q * k)) (by rw [htl, hul2]) (fun j c hj => by
    rw [List.getElem?_take] at hj ⊢
    split at hj
    · rename_i hlt
      rw [if_pos hlt]; exact hrel j c hj
    · cases hj) (fun v hv => hone v (List.mem_of_mem_take hv)) (by rw [htl]; omega)
  refine ⟨.value (.int .i64 q), m', ?_, p2, p3, .inl ⟨_, rfl, .c (.v rfl)⟩⟩
  rcases hsrc with ⟨hu, rfl, rfl⟩ | ⟨a, c, hu, hcell⟩
  · obtain rfl : q = 0 := by rw [← hmd]; exact Nat.zero_min n0
    simp at p1
    simp [execOp, ho, resolve, invoke, builtin, hse, hu, Builtin.copy_, run_underlying ht, sizeOf, typeInfo, g1, Builtin.lenOf, Builtin.firstCells, goInt, p1]
  · have hfc := run_firstCells_some (P := X.P) m.w i.size q a n c (us.take (q * k)) (by rw [hul2, g2, hk]) (fun j x hj => hcell j x (by
      rw [List.getElem?_take] at hj
      split at hj
      · exact hj
      · cases hj))
    simp [execOp, ho, resolve, invoke, builtin, hse, hu, Builtin.copy_, run_underlying ht, sizeOf, typeInfo, g1, Builtin.lenOf, goInt, hmd, hfc, p1]

theorem zeros_rel {L : Lay} (hp : (L.zero.all plain) = true) (hs : L.zero.length = L.size) (h0 : 0 < L.size) {z : Array Value} (hz : z.toList = L.zero) (n : Nat) :
    ((Array.range (n * L.size)).map (z[· % z.size]!)).size = (zeros L n).length ∧ ∀ (j : Nat) (c : C), (zeros L n)[j]? = some c → ∃ u, ((Array.range (n * L.size)).map (z[· % z.size]!))[j]? = some u ∧ R m c u := by
  refine ⟨by simp [zeros_length hs], fun j c hj => ?_⟩
  have hzs : z.size = L.size := by rw [← hs, ← hz]; simp
  rw [← hzs]
  exact made_get hz hp (by omega) hj

theorem good_clear (hS : Sim X.G m H) {s : Operand} {t : TypeId} (ho : o.op = .call { callee := .builtin .clear, args := #[s], argTypes := #[t] }) {e : TypeId} (ht : X.P.underlying t = some (.slice e)) {L : Lay} (hL : X.lay e = some L)
    {id off n k : Nat} (hs : RV m (.c (.mu id off n k)) (ε s)) {ob : Ob} (hob : H[id]? = some ob) (hlive : ob.live = true) (hoff : off + n * k ≤ ob.cs.length) (hk : L.size = k) :
    GoodE X m ε o .any (H.set id { ob with cs := setCells ob.cs off (zeros L n) }) := by
  obtain ⟨-, hp, i, z, g1, g2, g3, g4, g5, g6⟩ := X.ok e L hL
  have hzs : L.zero.length = L.size := by rw [← g5]; simpa using g6
  have hset : ∀ off', H.set id { ob with cs := setCells ob.cs off' [] } = H := fun off' => by
    have : { ob with cs := setCells ob.cs off' [] } = ob := by
      obtain ⟨ocs, ot, ol⟩ := ob
      simp [setCells]
    rw [this]
    have hidlt : id < H.length := (List.getElem?_eq_some_iff.1 hob).1
    have : ob = H[id] := by rw [List.getElem?_eq_getElem hidlt] at hob; exact (Option.some.inj hob).symm
    rw [this, List.set_getElem_self]
  rcases hs.muI with ⟨hse, rfl, rfl, hid, hgh⟩ | ⟨cap, hse, hid, hcap, hsz, hcm, hgh⟩
  · rw [show zeros L 0 = [] from rfl, hset]
    refine ⟨.value (.tuple #[]), m, ?_, hS, Ext.refl m, .inl ⟨_, rfl, .any⟩⟩
    simp [execOp, ho, resolve, invoke, builtin, hse, Builtin.clear_, run_underlying ht]
  · cases n with
    | zero =>
      rw [show zeros L 0 = [] from rfl, hset]
      refine ⟨.value (.tuple #[]), m, ?_, hS, Ext.refl m, .inl ⟨_, rfl, .any⟩⟩
      simp [execOp, ho, resolve, invoke, builtin, hse, Builtin.clear_, run_underlying ht]
    | succ n =>
      have hlen : (zeros L (n + 1)).length = (n + 1) * k := by rw [zeros_length hzs, hk]
      by_cases h0 : 0 < L.size
      · obtain ⟨a1, a2⟩ := zeros_rel (m := m) hp hzs h0 g5 (n + 1)
        have hzc : Builtin.zeroCells z.cells (n + 1) = (Array.range ((n + 1) * L.size)).map (z.cells[· % z.cells.size]!) := by
          unfold Builtin.zeroCells
          have : z.cells.size = L.size := by rw [← hzs, ← g5]; simp
          rw [this]
        rw [← hzc] at a1 a2
        obtain ⟨m', p1, p2, p3⟩ := hS.putCells (off := off) hob hlive hgh (cs := zeros L (n + 1)) (us := (Builtin.zeroCells z.cells (n + 1)).toList) (by simpa using a1) (fun j c hj => by
          obtain ⟨u, h1, h2⟩ := a2 j c hj
          exact ⟨u, by simpa using h1, h2⟩) (fun v hv => by
          obtain ⟨j, hj⟩ := List.getElem?_of_mem hv
          have hjl := (List.getElem?_eq_some_iff.1 hj).1
          obtain ⟨u, h1, h2⟩ := a2 j _ (List.getElem?_eq_getElem (by rw [← a1]; simpa using hjl))
          have : v = u := Option.some.inj (hj.symm.trans (by simpa using h1))
          subst this
          exact oneCell_of_plain h2.plain) (by rw [hlen]; exact hoff)
        refine ⟨.value (.tuple #[]), m', ?_, p2, p3, .inl ⟨_, rfl, .any⟩⟩
        simp [execOp, ho, resolve, invoke, builtin, hse, Builtin.clear_, run_underlying ht, zeroValue, typeInfo, g1, g4, p1]
      · have hz0 : L.size = 0 := by omega
        have hz1 : zeros L (n + 1) = [] := List.eq_nil_of_length_eq_zero (by rw [hlen, ← hk, hz0, Nat.mul_zero])
        have hzc : (Builtin.zeroCells z.cells (n + 1)).toList = [] := by
          have : z.cells.size = 0 := by rw [← hz0, ← hzs, ← g5]; simp
          simp [Builtin.zeroCells, this]
        rw [hz1, hset]
        refine ⟨.value (.tuple #[]), m, ?_, hS, Ext.refl m, .inl ⟨_, rfl, .any⟩⟩
        simp [execOp, ho, resolve, invoke, builtin, hse, Builtin.clear_, run_underlying ht, zeroValue, typeInfo, g1, g4, hzc, storeCells]

theorem good_buildSlice (hS : Sim X.G m H) (hρ : ∀ x, RV m (ρ x) (ε x)) {t e : TypeId} {n : Nat} {parts : Array (Nat × Operand)} (ho : o.op = .buildSlice t n parts) (ht : X.P.underlying t = some (.slice e)) {L : Lay} (hL : X.lay e = some L)
    {cs : List C} (hf : fillC (fun i => some (i * L.size, L.size)) (zeros L n) (parts.toList.map fun p => (p.1, ρ p.2)) = some cs) (h0 : 0 < L.size) (h24 : n * L.size ≤ 2 ^ 24) :
    GoodE X m ε o (.c (.mu H.length 0 n L.size)) (H ++ [⟨cs, e, true⟩]) := by
  obtain ⟨-, hp, i, z, g1, g2, g3, g4, g5, g6⟩ := X.ok e L hL
  have hs : L.zero.length = L.size := by rw [← g5]; simpa using g6
  obtain ⟨a1, a2⟩ := zeros_rel (m := m) hp hs h0 g5 n
  obtain ⟨arr', f1, f2, f3⟩ := fill_rel hρ parts.toList (zeros L n) cs _ a1 a2 hf
  have hlen : arr'.size = n * L.size := by
    have : ∀ (parts : List (Nat × V)) (cs cs' : List C) (place : Nat → Option (Nat × Nat)), fillC place cs parts = some cs' → cs'.length = cs.length := by
      intro parts
      induction parts with
      | nil => intro cs cs' place h; simp [fillC] at h; rw [h]
      | cons p parts ih =>
        intro cs cs' place h
        obtain ⟨i, v⟩ := p
        simp only [fillC] at h
        split at h
        · split at h
          · rename_i hh
            rw [ih _ _ _ h]
            simp; omega
          · cases h
        · cases h
    rw [f2, this _ _ _ _ hf, zeros_length hs]
  refine good_newRow hS (arr := arr') (cap := n) (w' := { m.w with heap := m.w.heap.push (.cells arr' e) }) rfl rfl rfl rfl (by omega) f3 (Nat.le_refl _) (by omega) (by unfold maxLen; have : n ≤ n * L.size := Nat.le_mul_of_pos_right n h0; omega) ?_
  simp only [execOp, ho, Instr.buildSlice, Sem.run_bind, run_underlying ht, Result.andThen_ok, sizeOf, typeInfo, program, Sem.run, g1, Sem.run_pure, g2]
  rw [if_neg (by omega)]
  by_cases hn : n * L.size = 0
  · have hn0 : n = 0 := by
      rcases Nat.mul_eq_zero.1 hn with h | h
      · exact h
      · omega
    subst hn0
    simp only [Nat.zero_mul, if_true, Array.toList_map]
    have : ((Array.range (0 * L.size)).map (z.cells[· % z.cells.size]!)) = (Array.range 0).map ((#[] : Array Value)[· % (#[] : Array Value).size]!) := by simp
    rw [this] at f1
    simp only [Sem.run_bind, Sem.run_pure, Result.andThen_ok, f1]
    simp [newRow, newObj, Sem.run]
  · simp only [hn, if_false, Sem.run_bind, zeroValue, typeInfo, program, Sem.run, g1, g4, Sem.run_pure, Result.andThen_ok, Array.toList_map, f1]
    simp [newRow, newObj, Sem.run]

theorem eve_sound (hS : Sim X.G m H) (hρ : ∀ x, RV m (ρ x) (ε x)) (h : eve X.lay H ρ o.op = some f) (hφ : f.φ) : GoodE X m ε o f.v f.H := by
  generalize hop : o.op = op at h
  cases op <;> simp only [eve] at h <;> try (cases h; done)
  case box t x =>
    split at h
    · rename_i cs _ hc
      simp only [Option.some.injEq] at h; subst h
      exact good_box hS hop hc (hρ x)
    · cases h
  case alloc t =>
    split at h
    · rename_i L hL
      simp only [Option.some.injEq] at h; subst h
      exact good_alloc hS hop hL (X.ok t L hL).plain
    · cases h
  case store t a x =>
    have ha := hρ a
    split at h
    · rename_i L id off cs hL ha' hc
      rw [ha'] at ha
      split at h
      · rename_i ob hob
        split at h
        · rename_i hh
          simp only [Option.some.injEq] at h; subst h
          exact good_store hS hop hL ha hc (hρ x) hob hh.1 hh.2.1 hh.2.2
        · cases h
      · cases h
    · cases h
  case buildSlice t n parts =>
    split at h
    · rename_i e _ _ _ hL
      have ht : X.P.underlying t = some (.slice e) := (X.ok t _ hL).kind
      split at h
      · rename_i L hLe
        split at h
        · rename_i cs hcs
          split at h
          · rename_i hh
            simp only [Option.some.injEq] at h; subst h
            exact good_buildSlice hS hρ hop ht hLe hcs hh.1 hh.2
          · cases h
        · cases h
      · cases h
    · cases h
  case makeSlice t l c =>
    have hl := hρ l
    have hc := hρ c
    split at h
    · rename_i e _ _ _ _ n _ n' hL hl' hc'
      rw [hl'] at hl
      rw [hc'] at hc
      have ht : X.P.underlying t = some (.slice e) := (X.ok t _ hL).kind
      split at h
      · rename_i L hLe
        split at h
        · rename_i hnn
          subst hnn
          simp only [Option.some.injEq] at h; subst h
          obtain ⟨p1, p2, p3, p4⟩ := hφ
          exact good_makeSlice hS hop ht hLe (X.ok e L hLe).plain hl.val hc.val p1 p2 p3 p4
        · cases h
      · cases h
    · cases h
  case call cc =>
    obtain ⟨callee, args, argTypes⟩ := cc
    cases callee <;> try (cases h; done)
    rename_i b
    cases b <;> try (cases h; done)
    case clear =>
      simp only at h
      split at h
      · rename_i s t hargs htypes
        have hargs' : args = #[s] := by cases args; simpa using hargs
        have htypes' : argTypes = #[t] := by cases argTypes; simpa using htypes
        subst hargs' htypes'
        have hs := hρ s
        split at h
        · rename_i e _ _ _ hL
          have ht : X.P.underlying t = some (.slice e) := (X.ok t _ hL).kind
          split at h
          · rename_i L id off n k hLe hs'
            rw [hs'] at hs
            split at h
            · rename_i ob hob
              simp only [Option.some.injEq] at h; subst h
              obtain ⟨p1, p2, p3⟩ := hφ
              exact good_clear hS hop ht hLe hs hob p2 p3 p1
            · cases h
          · rename_i L b n k cs hLe hs'
            rw [hs'] at hs
            simp only [Option.some.injEq] at h; subst h
            have hn : n = 0 := hφ
            subst hn
            refine ⟨.value (.tuple #[]), m, ?_, hS, Ext.refl m, .inl ⟨_, rfl, .any⟩⟩
            have hc := hs.cell
            cases hc with
            | fz hc =>
              generalize hes : ε s = u at hc
              cases hc with
              | sl us hn hc hl hF hw hr => simp [execOp, hop, resolve, invoke, builtin, hes, Builtin.clear_, run_underlying ht]
              | nil => simp [execOp, hop, resolve, invoke, builtin, hes, Builtin.clear_, run_underlying ht]
          · cases h
        · cases h
      · cases h
    case copy =>
      simp only at h
      split at h
      · rename_i s x t t' hargs htypes
        have hargs' : args = #[s, x] := by cases args; simpa using hargs
        have htypes' : argTypes = #[t, t'] := by cases argTypes; simpa using htypes
        subst hargs' htypes'
        have hs := hρ s
        split at h
        · rename_i e _ _ _ hL
          have ht : X.P.underlying t = some (.slice e) := (X.ok t _ hL).kind
          split at h
          · rename_i L n k cs hLe hx
            split at h
            · rename_i id off n0 k0 hs'
              rw [hs'] at hs
              split at h
              · rename_i ob hob
                simp only [Option.some.injEq] at h; subst h
                obtain ⟨p1, p2, p4, p6⟩ := hφ
                subst p2
                exact good_copy hS hop ht hLe hx (hρ x) hs hob p4 p6 p1
              · cases h
            · cases h
          · cases h
        · cases h
      · cases h
    simp only at h
    split at h
    · rename_i s x t t' hargs htypes
      split at h
      · rename_i htt
        subst htt
        have hargs' : args = #[s, x] := by cases args; simpa using hargs
        have htypes' : argTypes = #[t, t] := by cases argTypes; simpa using htypes
        subst hargs' htypes'
        have hs := hρ s
        split at h
        · rename_i e _ _ _ hL
          have ht : X.P.underlying t = some (.slice e) := (X.ok t _ hL).kind
          split at h
          · rename_i L n k cs hLe hx
            split at h
            · rename_i hs'
              rw [hs'] at hs
              simp only [Option.some.injEq] at h; subst h
              obtain ⟨p1, p2, p4, p5⟩ := hφ
              exact good_append_nil hS hop ht hLe hS hx (hρ x) hs.val p1 p4 p5
            · rename_i id off n0 k0 hs'
              rw [hs'] at hs
              split at h
              · rename_i ob hob
                simp only [Option.some.injEq] at h; subst h
                obtain ⟨p1, p2, p3, p4, p5, p6, p7, p8⟩ := hφ
                subst p2
                exact good_append_mu hS hop ht hLe hx (hρ x) hs hob p4 p5 p6 p1 p7 p8
              · cases h
            · cases h
          · cases h
        · cases h
      · cases h
    · cases h
end
end Go.VL
namespace Go.VL
open Go.RowKit

/-- Values of a list of slots. -/
def RVs (m : Mem) (vs : List V) (arr : Array Value) : Prop := arr.size = vs.length ∧ ∀ (j : Nat) (v : V), vs[j]? = some v → ∃ u, arr[j]? = some u ∧ RV m v u

def Enters (X : Cx) (g : FuncId) : Prop := ∀ (args : Array Value) (w : World), (callFunc g args).run X.P w = .ok (.enter g args) w

/-- A call answers at once, or its body is run. -/
def Goes (X : Cx) (g : FuncId) (arr : Array Value) (w : World) (Q : Value → World → Prop) : Prop :=
  (∃ u w', (callFunc g arr).run X.P w = .ok (.value u) w' ∧ Q u w') ∨ ((callFunc g arr).run X.P w = .ok (.enter g arr) w ∧ Calls X.P g arr w fun e w' => ∃ u, e = .returned u ∧ Q u w')
theorem Goes.mono {X : Cx} {g : FuncId} {arr : Array Value} {w : World} {Q Q' : Value → World → Prop} (h : Goes X g arr w Q) (hq : ∀ u w', Q u w' → Q' u w') : Goes X g arr w Q' := by
  rcases h with ⟨u, w', h1, h2⟩ | ⟨h1, h2⟩
  · exact .inl ⟨u, w', h1, hq u w' h2⟩
  · exact .inr ⟨h1, h2.mono fun e w' ⟨u, he, hu⟩ => ⟨u, he, hq u w' hu⟩⟩

/-- A call in the midst of objects: whatever comes behind it. -/
def CallC (X : Cx) (g : FuncId) (args : List V) (H : List Ob) (Q : V → List Ob → Prop) : Prop :=
  ∀ (m : Mem) (arr : Array Value), Sim X.G m H → RVs m args arr → Goes X g arr m.w fun u w' => ∃ (m' : Mem) (r : V) (H' : List Ob), m'.w = w' ∧ Q r H' ∧ Sim X.G m' H' ∧ Ext m m' ∧ RV m' r u

/-- A call on data alone: it answers r; it writes nothing that was there; what it makes is new. -/
def PureC (X : Cx) (g : FuncId) (args : List V) (r : V) : Prop :=
  ∀ (w : World) (F : Nat → Prop) (μ : Nat → Pl) (arr : Array Value), Sim X.G ⟨w, F, w.heap.size, 0, μ⟩ [] → RVs ⟨w, F, w.heap.size, 0, μ⟩ args arr →
    Goes X g arr w fun u w' => Below w.heap.size w w' ∧ RV ⟨w', fun b => F b ∨ (w.heap.size ≤ b ∧ b < w'.heap.size), w.heap.size, 0, μ⟩ r u

/-- A cell as frozen data, where the objects that are 'gone' are frozen; 'o': all of its memory is to be new. -/
inductive Dn (o : Bool) (H : List Ob) (gone : Nat → Prop) : C → C → Prop
  | v {x : Value} : Dn o H gone (.v x) (.v x)
  | f {k : FloatKind} {x : Option Nat} : Dn o H gone (.f k x) (.f k x)
  | any {c : C} : Dn o H gone c .any
  | sl {b b' : Bool} {n k : Nat} {cs : List C} (h : o = true → b = true) : Dn o H gone (.sl b n k cs) (.sl b' n k cs)
  | vw {b b' : Bool} {off : Nat} {cs : List C} (h : o = true → b = true) : Dn o H gone (.vw b cs off) (.vw b' cs off)
  | mu {b' : Bool} {id off n k : Nat} {ob : Ob} {cs' : List C} (ho : H[id]? = some ob) (hlive : ob.live = true) (hg : gone id) (hfit : off + n * k ≤ ob.cs.length) (hl : cs'.length = n * k)
      (hc : ∀ (j : Nat) (c c' : C), (sub ob.cs off (n * k))[j]? = some c → cs'[j]? = some c' → Dn o H gone c c') : Dn o H gone (.mu id off n k) (.sl b' n k cs')
  | pt {b' : Bool} {id off : Nat} {ob : Ob} {cs' : List C} (ho : H[id]? = some ob) (hlive : ob.live = true) (hg : gone id) (hl : cs'.length = ob.cs.length)
      (hc : ∀ (j : Nat) (c c' : C), ob.cs[j]? = some c → cs'[j]? = some c' → Dn o H gone c c') : Dn o H gone (.pt id off) (.vw b' cs' off)

theorem R.dn {G : Glob} {m m' : Mem} {H : List Ob} {o : Bool} {gone : Nat → Prop} (hS : Sim G m H) (hw : m'.w = m.w) (hF : ∀ b, m.F b → (o = true → m.B ≤ b) → m'.F b)
    (hG : ∀ (id : Nat) (ob : Ob), H[id]? = some ob → ob.live = true → (m.μ id).gh = false → gone id → m'.F (m.μ id).block) (hB : o = true → m'.B ≤ m.B) {c c' : C} (h : Dn o H gone c c') : ∀ {u : Value}, R m c u → RF m' o c' u := by
  have go : ∀ {c : C} {u : Value}, RF m o c u → RF m' o c u := fun h => h.go (fun b hb j => by rw [hw]) hF hB
  induction h with
  | v => intro u h; rw [h.val]; exact .v (by have := h.plain; rwa [h.val] at this)
  | f => intro u h; cases h with
    | fz h => cases h with
      | fs h => exact .fs h
      | fn h => exact .fn h
  | any => intro u h; exact .any h.plain
  | sl hb => intro u h; cases h with
    | fz h => exact (go (h.down hb)).flag
  | vw hb => intro u h; cases h with
    | fz h => exact (go (h.down hb)).flagv
  | @mu b' id off n k ob cs' ho hlive hg hfit hl _ ih =>
    intro u h
    rcases (RV.c h).muI with ⟨rfl, rfl, rfl, -, hgh⟩ | ⟨cap, rfl, hid, hn, hs, hm, hgh⟩
    · have : cs' = [] := List.eq_nil_of_length_eq_zero (by omega)
      subst this
      exact .nil
    · have hsl : (sub ob.cs off (n * k)).length = n * k := sub_length hfit
      obtain ⟨us, hul, hus⟩ := choose_list (cs := sub ob.cs off (n * k)) (p := fun j c u => m.w.cell? ⟨(m.μ id).block, (m.μ id).base + off + j, none⟩ = some u ∧ R m c u) (fun j c hj => by
        obtain ⟨-, hg⟩ := sub_get hj
        obtain ⟨u, h1, h2⟩ := hS.cell ho hlive hg
        exact ⟨u, by rw [Nat.add_assoc]; exact h1, h2⟩)
      obtain ⟨-, -, -, -, -, -, hBb⟩ := hS.ob id ob ho hlive hgh
      refine .sl (fun j => us.getD j default) hn hm hl (fun _ => ⟨rfl, hG id ob ho hlive hgh hg, fun h => Nat.le_trans (hB h) hBb⟩) (fun j c hj => ?_) (fun j c' hj => ?_)
      · have hlt := (List.getElem?_eq_some_iff.1 hj).1
        obtain ⟨u, h1, h2, h3⟩ := hus j _ (List.getElem?_eq_getElem (by omega))
        rw [hw]
        simpa [List.getD, h1] using h2
      · have hlt := (List.getElem?_eq_some_iff.1 hj).1
        obtain ⟨u, h1, h2, h3⟩ := hus j _ (List.getElem?_eq_getElem (by omega))
        have := ih j _ _ (List.getElem?_eq_getElem (by omega)) hj h3
        simpa [List.getD, h1] using this
  | @pt b' id off ob cs' ho hlive hg hl _ ih =>
    intro u h
    obtain ⟨rfl, hid, hgh⟩ := (RV.c h).ptI
    obtain ⟨us, hul, hus⟩ := choose_list (cs := ob.cs) (p := fun j c u => m.w.cell? ⟨(m.μ id).block, (m.μ id).base + j, none⟩ = some u ∧ R m c u) (fun j c hj => hS.cell ho hlive hj)
    obtain ⟨-, -, -, -, -, -, hBb⟩ := hS.ob id ob ho hlive hgh
    refine .vw (fun j => us.getD j default) ⟨hG id ob ho hlive hgh hg, fun h => Nat.le_trans (hB h) hBb⟩ (fun j c hj => ?_) (fun j c' hj => ?_)
    · have hlt := (List.getElem?_eq_some_iff.1 hj).1
      obtain ⟨u, h1, h2, h3⟩ := hus j _ (List.getElem?_eq_getElem (by omega))
      rw [hw]
      simpa [List.getD, h1] using h2
    · have hlt := (List.getElem?_eq_some_iff.1 hj).1
      obtain ⟨u, h1, h2, h3⟩ := hus j _ (List.getElem?_eq_getElem (by omega))
      have := ih j _ _ (List.getElem?_eq_getElem (by omega)) hj h3
      simpa [List.getD, h1] using this

/-- What a cell is seen as by a callee: frozen, for the time of the call. -/
inductive Vw (H : List Ob) : C → C → Prop
  | dn {c c' : C} (h : Dn false H (fun _ => True) c c') (ho : c'.own = false) : Vw H c c'
  | fn {g : FuncId} {cs cs' : List C} (hl : cs'.length = cs.length) (hc : ∀ (j : Nat) (c c' : C), cs[j]? = some c → cs'[j]? = some c' → Vw H c c') : Vw H (.fn g cs) (.fn g cs')

/-- The block of a live object, or one that is frozen. -/
def seen (m : Mem) (H : List Ob) (b : Nat) : Prop := m.F b ∨ ∃ (id : Nat) (o : Ob), H[id]? = some o ∧ o.live = true ∧ (m.μ id).gh = false ∧ (m.μ id).block = b

/-- The memory as a callee sees it. -/
def within (m : Mem) (H : List Ob) : Mem := ⟨m.w, seen m H, m.w.heap.size, 0, m.μ⟩

theorem R.view {G : Glob} {m : Mem} {H : List Ob} (hS : Sim G m H) {c c' : C} (hv : Vw H c c') : ∀ {u : Value}, R m c u → R (within m H) c' u := by
  induction hv with
  | dn h ho =>
    intro u hr
    refine .fz ?_
    rw [ho]
    exact hr.dn hS (m' := within m H) rfl (fun b hb _ => Or.inl hb) (fun id ob h1 h2 h3 _ => Or.inr ⟨id, ob, h1, h2, h3, rfl⟩) (fun h => by cases h) h
  | fn hl _ ih =>
    intro u h
    cases h with
    | fz h => cases h
    | func us hl' hw hr =>
      refine .func us (by omega) (fun j c' hj => ?_) (fun j c' hj => ?_)
      · have hlt := (List.getElem?_eq_some_iff.1 hj).1
        exact hw j _ (List.getElem?_eq_getElem (by omega))
      · have hlt := (List.getElem?_eq_some_iff.1 hj).1
        exact ih j _ _ (List.getElem?_eq_getElem (by omega)) hj (hr j _ (List.getElem?_eq_getElem (by omega)))

/-- A slot, seen so. -/
inductive VwV (H : List Ob) : V → V → Prop
  | c {x y : C} (h : Vw H x y) : VwV H (.c x) (.c y)
  | agg {cs cs' : List C} (hl : cs'.length = cs.length) (hc : ∀ (j : Nat) (c c' : C), cs[j]? = some c → cs'[j]? = some c' → Vw H c c') : VwV H (.agg cs) (.agg cs')
  | any {v : V} : VwV H v .any

theorem RV.view {G : Glob} {m : Mem} {H : List Ob} (hS : Sim G m H) {c c' : V} (hv : VwV H c c') {u : Value} (h : RV m c u) : RV (within m H) c' u := by
  cases hv with
  | c hv => exact .c (h.cell.view hS hv)
  | agg hl hc =>
    obtain ⟨arr, rfl, h1, h2⟩ := h.aggI
    refine .agg (by omega) fun j c' hj => ?_
    have hlt := (List.getElem?_eq_some_iff.1 hj).1
    obtain ⟨u, g1, g2⟩ := h2 j _ (List.getElem?_eq_getElem (by omega))
    exact ⟨u, g1, g2.view hS (hc j _ _ (List.getElem?_eq_getElem (by omega)) hj)⟩
  | any => exact .any

/-- All of a value's memory is new. -/
def ownC : C → Bool
  | .v _ => true
  | .f _ _ => true
  | .any => true
  | .sl b _ _ _ => b
  | .vw b _ _ => b
  | _ => false
def ownV1 : V → Bool
  | .c x => ownC x
  | .agg cs => cs.all ownC
  | .any => true
  | .tup _ => false
def ownV : V → Bool
  | .tup vs => vs.all ownV1
  | v => ownV1 v

theorem R.own {m m' : Mem} (hw : m'.w = m.w) (hB : m'.B ≤ m.B) (hF : ∀ b, m.F b → m.B ≤ b → m'.F b) {c : C} (h : ownC c = true) {u : Value} (hr : R m c u) : R m' c u := by
  cases hr with
  | fz hr =>
    cases c with
    | v x => cases hr with | v h => exact .v h
    | f k x => cases hr with
      | fs h1 => exact .fs h1
      | fn h1 => exact .fn h1
    | any => cases hr with | any h => exact .any h
    | sl b n k cs =>
      have hb : b = true := h
      subst hb
      exact .fz (RF.go (o := true) (fun b _ j => by rw [hw]) (fun b h1 h2 => hF b h1 (h2 rfl)) (fun _ => hB) hr)
    | vw b cs off =>
      have hb : b = true := h
      subst hb
      exact .fz (RF.go (o := true) (fun b _ j => by rw [hw]) (fun b h1 h2 => hF b h1 (h2 rfl)) (fun _ => hB) hr)
    | _ => cases h
  | _ => cases h
theorem RV.own1 {m m' : Mem} (hw : m'.w = m.w) (hB : m'.B ≤ m.B) (hF : ∀ b, m.F b → m.B ≤ b → m'.F b) {v : V} (h : ownV1 v = true) {u : Value} (hr : RV m v u) : RV m' v u := by
  cases v with
  | c x => exact .c (hr.cell.own hw hB hF h)
  | agg cs =>
    obtain ⟨arr, rfl, h1, h2⟩ := hr.aggI
    exact .agg h1 fun j c hj => let ⟨u, g1, g2⟩ := h2 j c hj; ⟨u, g1, g2.own hw hB hF (List.all_eq_true.1 h c (List.mem_of_getElem? hj))⟩
  | any => exact .any
  | tup vs => cases h
theorem RV.own {m m' : Mem} (hw : m'.w = m.w) (hB : m'.B ≤ m.B) (hF : ∀ b, m.F b → m.B ≤ b → m'.F b) {v : V} (h : ownV v = true) {u : Value} (hr : RV m v u) : RV m' v u := by
  cases v with
  | tup vs =>
    cases hr with
    | tup us hl hw' hr => exact .tup us hl hw' fun j v hj => (hr j v hj).own1 hw hB hF (List.all_eq_true.1 h v (List.mem_of_getElem? hj))
  | c x => exact RV.own1 (v := .c x) hw hB hF h hr
  | agg cs => exact RV.own1 (v := .agg cs) hw hB hF h hr
  | any => exact .any

/-- The views of a call's arguments. -/
def Views (H : List Ob) (args args' : List V) : Prop := args'.length = args.length ∧ ∀ (j : Nat) (v v' : V), args[j]? = some v → args'[j]? = some v' → VwV H v v'
theorem Views.nil {H : List Ob} : Views H [] [] := ⟨rfl, fun j v v' h => by simp at h⟩
theorem Views.cons {H : List Ob} {v v' : V} {vs vs' : List V} (h : VwV H v v') (hs : Views H vs vs') : Views H (v :: vs) (v' :: vs') := by
  refine ⟨by simp [hs.1], fun j x x' hj hj' => ?_⟩
  cases j with
  | zero => simp at hj hj'; subst hj hj'; exact h
  | succ j => exact hs.2 j x x' (by simpa using hj) (by simpa using hj')

theorem RVs.view {G : Glob} {m : Mem} {H : List Ob} (hS : Sim G m H) {args args' : List V} (hv : Views H args args') {arr : Array Value} (h : RVs m args arr) : RVs (within m H) args' arr := by
  refine ⟨by rw [h.1, hv.1], fun j v' hj => ?_⟩
  have hlt := (List.getElem?_eq_some_iff.1 hj).1
  have hlt' : j < args.length := by rw [← hv.1]; exact hlt
  obtain ⟨u, h1, h2⟩ := h.2 j _ (List.getElem?_eq_getElem hlt')
  exact ⟨u, h1, h2.view hS (hv.2 j _ _ (List.getElem?_eq_getElem hlt') hj)⟩

/-- A call on data, in the midst of objects: they stay as they are. -/
def PCall (X : Cx) (H : List Ob) (g : FuncId) (args : List V) (r : V) : Prop := ∃ args', Views H args args' ∧ PureC X g args' r ∧ ownV r = true

theorem CallC.of_pure {X : Cx} {H : List Ob} {g : FuncId} {args : List V} {r : V} (h : PCall X H g args r) {Q : V → List Ob → Prop} (hQ : Q r H) : CallC X g args H Q := by
  obtain ⟨args', hv, hp, ho⟩ := h
  intro m arr hS hr
  have hS0 : Sim X.G (within m H) [] := by
    refine ⟨rfl, fun b hb => ?_, Nat.le_refl _, fun id hid => absurd hid (Nat.not_lt_zero _), fun id o ho => by simp at ho, fun id o ho => by simp at ho, fun i j oi oj hi => by simp at hi, fun g hg => ?_⟩
    · rcases hb with hb | ⟨id, o, ho, hl, hg, rfl⟩
      · exact hS.lo b hb
      · exact hS.blk id (Mem.N_lt hS ho) hg
    · obtain ⟨h1, h2⟩ := hS.gl g hg
      exact ⟨.inl h1, h2⟩
  refine (hp m.w (seen m H) m.μ arr hS0 (hr.view hS hv)).mono fun u w' ⟨hb, hru⟩ => ?_
  obtain ⟨g1, g2⟩ := hS.grow hb
  have hfin := RV.own (m := ⟨w', fun b => seen m H b ∨ (m.w.heap.size ≤ b ∧ b < w'.heap.size), m.w.heap.size, 0, m.μ⟩) (m' := { m with w := w', F := fun b => m.F b ∨ (m.w.heap.size ≤ b ∧ b < w'.heap.size) }) rfl hS.bs (fun b hF hB => ?_) ho hru
  · exact ⟨_, r, H, rfl, hQ, g1, g2, hfin⟩
  simp only at hF hB ⊢
  rcases hF with hF | hF
  · rcases hF with hF | ⟨id, o, ho', hl, hg, rfl⟩
    · exact .inl hF
    · exact absurd (hS.blk id (Mem.N_lt hS ho') hg) (by omega)
  · exact .inr hF

/-! ### Looking at the memory anew: objects numbered anew, some frozen, the nil slice taken for an object -/
/-- 'g': for each new object the old one, or none: the nil slice. -/
inductive Tr (H : List Ob) (g : List (Option Nat)) : C → C → Prop
  | dn {c c' : C} (h : Dn true H (fun id => ∀ i : Nat, g[i]? ≠ some (some id)) c c') : Tr H g c c'
  | sl {b b' : Bool} {n k : Nat} {cs : List C} (h : b' = true → b = true) : Tr H g (.sl b n k cs) (.sl b' n k cs)
  | vw {b b' : Bool} {off : Nat} {cs : List C} (h : b' = true → b = true) : Tr H g (.vw b cs off) (.vw b' cs off)
  | pt {id off i : Nat} (h : g[i]? = some (some id)) : Tr H g (.pt id off) (.pt i off)
  | mu {id off n k i : Nat} (h : g[i]? = some (some id)) : Tr H g (.mu id off n k) (.mu i off n k)
  | nil {i k : Nat} (h : g[i]? = some none) : Tr H g (.v (.slice none 0 0)) (.mu i 0 0 k)
  | fn {f : FuncId} {cs cs' : List C} (hl : cs'.length = cs.length) (hc : ∀ (j : Nat) (c c' : C), cs[j]? = some c → cs'[j]? = some c' → Tr H g c c') : Tr H g (.fn f cs) (.fn f cs')

inductive TrV (H : List Ob) (g : List (Option Nat)) : V → V → Prop
  | c {x y : C} (h : Tr H g x y) : TrV H g (.c x) (.c y)
  | agg {cs cs' : List C} (hl : cs'.length = cs.length) (hc : ∀ (j : Nat) (c c' : C), cs[j]? = some c → cs'[j]? = some c' → Tr H g c c') : TrV H g (.agg cs) (.agg cs')
  | tup {vs vs' : List V} (hl : vs'.length = vs.length) (hc : ∀ (j : Nat) (v v' : V), vs[j]? = some v → vs'[j]? = some v' → TrV H g v v') : TrV H g (.tup vs) (.tup vs')
  | any {v : V} : TrV H g v .any

def μturn (m : Mem) (g : List (Option Nat)) (i : Nat) : Pl := match g[i]? with
  | some (some id) => m.μ id
  | _ => ⟨0, 0, 0, true⟩

/-- The memory, looked at anew. -/
def turned (m : Mem) (H : List Ob) (g : List (Option Nat)) : Mem :=
  ⟨m.w, fun b => m.F b ∨ ∃ (id : Nat) (o : Ob), H[id]? = some o ∧ o.live = true ∧ (m.μ id).gh = false ∧ (∀ i : Nat, g[i]? ≠ some (some id)) ∧ (m.μ id).block = b, m.B, g.length, μturn m g⟩

theorem R.turn {G : Glob} {m : Mem} {H : List Ob} (hS : Sim G m H) {g : List (Option Nat)} {c c' : C} (h : Tr H g c c') : ∀ {u : Value}, R m c u → R (turned m H g) c' u := by
  have go : ∀ {o : Bool} {c : C} {u : Value}, RF m o c u → RF (turned m H g) o c u := fun h => RF.go (m := m) (m' := turned m H g) (fun b _ j => rfl) (fun b hb _ => Or.inl hb) (fun _ => Nat.le_refl _) h
  have hlt : ∀ {i : Nat} {x : Option Nat}, g[i]? = some x → i < g.length := fun h => (List.getElem?_eq_some_iff.1 h).1
  induction h with
  | dn h =>
    intro u hr
    exact .fz ((hr.dn hS (m' := turned m H g) rfl (fun b hb _ => .inl hb) (fun id ob h1 h2 h3 h4 => .inr ⟨id, ob, h1, h2, h3, h4, rfl⟩) (fun _ => Nat.le_refl _) h).down (fun _ => rfl))
  | sl hb => intro u hr; cases hr with
    | fz hr => exact .fz (go (hr.down hb)).flag
  | vw hb => intro u hr; cases hr with
    | fz hr => exact .fz (go (hr.down hb)).flagv
  | @pt id off i h =>
    intro u hr
    obtain ⟨rfl, hid, hg⟩ := (RV.c hr).ptI
    have hμ : μturn m g i = m.μ id := by unfold μturn; rw [h]
    have := R.pt (m := turned m H g) (id := i) (off := off) (hlt h) (by show (μturn m g i).gh = false; rw [hμ]; exact hg)
    simpa [turned, hμ] using this
  | @mu id off n k i h =>
    intro u hr
    have hμ : μturn m g i = m.μ id := by unfold μturn; rw [h]
    rcases (RV.c hr).muI with ⟨rfl, rfl, rfl, hid, hg⟩ | ⟨cap, rfl, hid, hn, hs, hm, hg⟩
    · exact .mn (hlt h) (by show (μturn m g i).gh = true; rw [hμ]; exact hg)
    · have := R.mu (m := turned m H g) (id := i) (off := off) (n := n) (k := k) (cap := cap) (hlt h) (by show (μturn m g i).gh = false; rw [hμ]; exact hg) hn (by show (μturn m g i).base + off + cap * k ≤ (μturn m g i).size; rw [hμ]; exact hs) hm
      simpa [turned, hμ] using this
  | @nil i k h =>
    intro u hr
    rw [hr.val]
    exact .mn (hlt h) (by show (μturn m g i).gh = true; unfold μturn; rw [h])
  | fn hl _ ih =>
    intro u h
    cases h with
    | fz h => cases h
    | func us hl' hw hr =>
      refine .func us (by omega) (fun j c' hj => ?_) (fun j c' hj => ?_)
      · have hlt := (List.getElem?_eq_some_iff.1 hj).1
        exact hw j _ (List.getElem?_eq_getElem (by omega))
      · have hlt := (List.getElem?_eq_some_iff.1 hj).1
        exact ih j _ _ (List.getElem?_eq_getElem (by omega)) hj (hr j _ (List.getElem?_eq_getElem (by omega)))

theorem RV.turn {G : Glob} {m : Mem} {H : List Ob} (hS : Sim G m H) {g : List (Option Nat)} {v v' : V} (h : TrV H g v v') : ∀ {u : Value}, RV m v u → RV (turned m H g) v' u := by
  induction h with
  | c h => intro u hr; exact .c (hr.cell.turn hS h)
  | agg hl hc =>
    intro u hr
    obtain ⟨arr, rfl, h1, h2⟩ := hr.aggI
    refine .agg (by omega) fun j c' hj => ?_
    have hlt := (List.getElem?_eq_some_iff.1 hj).1
    obtain ⟨u, g1, g2⟩ := h2 j _ (List.getElem?_eq_getElem (by omega))
    exact ⟨u, g1, g2.turn hS (hc j _ _ (List.getElem?_eq_getElem (by omega)) hj)⟩
  | tup hl hc ih =>
    intro u hr
    cases hr with
    | tup us hl' hw' hr =>
      refine .tup us (by omega) (fun j v hj => ?_) (fun j v hj => ?_)
      · have hlt := (List.getElem?_eq_some_iff.1 hj).1
        exact hw' j _ (List.getElem?_eq_getElem (by omega))
      · have hlt := (List.getElem?_eq_some_iff.1 hj).1
        exact ih j _ _ (List.getElem?_eq_getElem (by omega)) hj (hr j _ (List.getElem?_eq_getElem (by omega)))
  | any => intro u hr; exact .any

/-- What is asked of the objects: the first N0 stay; each other one is an old one, or the nil slice. -/
structure Turns (N0 : Nat) (H : List Ob) (g : List (Option Nat)) (H' : List Ob) : Prop where
  len : g.length = H'.length
  fix : ∀ i, i < N0 → g[i]? = some (some i)
  ob : ∀ (i id : Nat) (o' : Ob), H'[i]? = some o' → o'.live = true → g[i]? = some (some id) → ∃ o, H[id]? = some o ∧ o.live = true ∧ o.t = o'.t ∧ o'.cs.length ≤ o.cs.length ∧ ∀ (j : Nat) (c c' : C), o.cs[j]? = some c → o'.cs[j]? = some c' → Tr H g c c'
  nil : ∀ (i : Nat) (o' : Ob), H'[i]? = some o' → o'.live = true → g[i]? = some none → o'.cs = []
  nd : ∀ (i j id : Nat), g[i]? = some (some id) → g[j]? = some (some id) → i = j
  old : ∀ (i id : Nat), g[i]? = some (some id) → id < H.length

theorem Sim.turn {G : Glob} {m0 m : Mem} {H H' : List Ob} {g : List (Option Nat)} (hS : Sim G m H) (hE : Ext m0 m) (hT : Turns m0.N H g H') : Sim G (turned m H g) H' ∧ Ext m0 (turned m H g) := by
  have hμ : ∀ {i id : Nat}, g[i]? = some (some id) → (turned m H g).μ i = m.μ id := fun {i id} h => by show μturn m g i = m.μ id; unfold μturn; rw [h]
  have hreal : ∀ {i : Nat}, ((turned m H g).μ i).gh = false → ∃ id, g[i]? = some (some id) := fun {i} h => by
    have h' : (μturn m g i).gh = false := h
    unfold μturn at h'
    cases hgi : g[i]? with
    | none => rw [hgi] at h'; cases h'
    | some x =>
      cases x with
      | none => rw [hgi] at h'; cases h'
      | some id => exact ⟨id, rfl⟩
  refine ⟨⟨hT.len, fun b hb => ?_, hS.bs, fun i hi hg => ?_, fun i o' ho' hl' hg => ?_, fun i o' ho' hl' hg => ?_, fun i j oi oj hi hj l1 l2 q1 q2 hne => ?_, fun x hx => ?_⟩, ⟨hE.os, hE.tape, hE.output, hE.size, hE.keep, fun b hb => .inl (hE.F b hb), hE.B, ?_, fun i hi => ?_, fun b hb => ?_⟩⟩
  · rcases hb with hb | ⟨id, o, h1, h2, h3, h4, rfl⟩
    · exact hS.lo b hb
    · exact hS.blk id (Mem.N_lt hS h1) h3
  · obtain ⟨id, hid⟩ := hreal hg
    rw [hμ hid] at hg ⊢
    exact hS.blk id (by rw [hS.N]; exact hT.old i id hid) hg
  · obtain ⟨id, hid⟩ := hreal hg
    rw [hμ hid] at hg ⊢
    obtain ⟨o, h1, h2, h3, h4, h5⟩ := hT.ob i id o' ho' hl' hid
    obtain ⟨arr, k1, k2, k3, k4, k5, k6⟩ := hS.ob id o h1 h2 hg
    refine ⟨arr, by rw [← h3]; exact k1, k2, by omega, fun j c' hj => ?_, ?_, k6⟩
    · have hlt := (List.getElem?_eq_some_iff.1 hj).1
      obtain ⟨u, hu, hr⟩ := k4 j _ (List.getElem?_eq_getElem (by omega))
      exact ⟨u, hu, hr.turn hS (h5 j _ c' (List.getElem?_eq_getElem (by omega)) hj)⟩
    · rintro (hF | ⟨id2, o2, a1, a2, a3, a4, a5⟩)
      · exact k5 hF
      · by_cases he : id2 = id
        · subst he; exact a4 i hid
        · exact hS.inj id2 id o2 o a1 h1 a2 h2 a3 hg he a5
  · cases hgi : g[i]? with
    | none =>
      have := (List.getElem?_eq_some_iff.1 ho').1
      rw [← hT.len] at this
      rw [List.getElem?_eq_getElem this] at hgi
      cases hgi
    | some x =>
      cases x with
      | none => exact hT.nil i o' ho' hl' hgi
      | some id =>
        rw [hμ hgi] at hg
        obtain ⟨o, h1, h2, h3, h4, h5⟩ := hT.ob i id o' ho' hl' hgi
        have := hS.gho id o h1 h2 hg
        rw [this] at h4
        exact List.eq_nil_of_length_eq_zero (by simpa using h4)
  · obtain ⟨id, hid⟩ := hreal q1
    obtain ⟨jd, hjd⟩ := hreal q2
    rw [hμ hid] at q1 ⊢
    rw [hμ hjd] at q2 ⊢
    obtain ⟨o, h1, h2, -⟩ := hT.ob i id oi hi l1 hid
    obtain ⟨o2, h3, h4, -⟩ := hT.ob j jd oj hj l2 hjd
    refine hS.inj id jd o o2 h1 h3 h2 h4 q1 q2 fun he => hne ?_
    subst he
    exact hT.nd i j id hid hjd
  · obtain ⟨h1, h2⟩ := hS.gl x hx
    exact ⟨.inl h1, h2⟩
  · show m0.N ≤ g.length
    by_cases h0 : m0.N = 0
    · omega
    · have := hT.fix (m0.N - 1) (by omega)
      have := (List.getElem?_eq_some_iff.1 this).1
      omega
  · rw [hμ (hT.fix i hi)]
    exact hE.μ i hi
  · rcases hb with hb | ⟨id, o, h1, h2, h3, h4, rfl⟩
    · exact hE.Fn b hb
    · obtain ⟨-, -, -, -, -, -, k6⟩ := hS.ob id o h1 h2 h3
      exact .inr (by rw [← hE.B]; exact k6)
end Go.VL
namespace Go.VL
open Go.RowKit

/-- What stands for nothing: an operation that was passed over. -/
abbrev V.undef : V := .tup []

def upd (sl : Sl) (d : Tmp) (v : V) : Sl := fun t => bif Nat.beq t d then v else sl t
def putV (sl : Sl) (d : Option Tmp) (v : V) : Sl :=
  match d with
  | some d => upd sl d v
  | none => sl

theorem putV_get (sl : Sl) (d : Option Tmp) (v : V) (t : Nat) : putV sl d v t = if d = some t then v else sl t := by
  cases d with
  | none => simp [putV]
  | some d =>
    simp only [putV, upd, Option.some.injEq]
    by_cases h : d = t
    · subst h; simp
    · have hb : Nat.beq t d = false := by
        cases hh : Nat.beq t d with
        | false => rfl
        | true => exact absurd (Nat.eq_of_beq_eq_true hh).symm h
      rw [hb, if_neg h]; rfl

/-- The slot that is written is one of the frame's. -/
def dstOk (n : Nat) (ops : List Oper) : Bool := ops.all fun o => match o.dst with
  | some d => Nat.blt d n
  | none => true
theorem dstOk_spec {n : Nat} {ops : List Oper} (h : dstOk n ops = true) : ∀ o ∈ ops, ∀ d, o.dst = some d → d < n := fun o ho d hd => by
  have := List.all_eq_true.1 h o ho
  rw [hd] at this
  exact Nat.le_of_ble_eq_true this

def callOf : Op → Option (Operand × List Operand)
  | .call { callee := .value f, args, argTypes := _ } => some (f, args.toList)
  | _ => none

def target : V → Option (FuncId × List V)
  | .c (.fn g cs) => some (g, cs.map .c)
  | _ => none

/-- An operation by the model's own word: whatever it comes to. -/
def RawOp (X : Cx) (o : Op) (ρ : Operand → V) (H : List Ob) (K : V → List Ob → Prop) : Prop :=
  ∀ (m : Mem) (ε : Operand → Value) (oper : Oper), oper.op = o → Sim X.G m H → (∀ x, RV m (ρ x) (ε x)) → ∃ (n : Next) (m' : Mem) (v : V) (H' : List Ob), (execOp ε oper).run X.P m.w = .ok n m'.w ∧ Sim X.G m' H' ∧ Ext m m' ∧ K v H' ∧ ((∃ u, n = .value u ∧ RV m' v u) ∨ (n = .skip ∧ v = .any))

/-- One operation, and what comes behind it. -/
def vop (X : Cx) (raw : Bool) (o : Op) (ρ : Operand → V) (H : List Ob) (K : V → List Ob → Prop) : Prop :=
  match callOf o with
  | some (f, args) => match target (ρ f) with
    | some (g, caps) => CallC X g (args.map ρ ++ caps) H K
    | none => False
  | none => match evq X.lay H ρ o with
    | some v => K v H
    | none => match eve X.lay H ρ o with
      | some f => f.φ ∧ K f.v f.H
      | none => raw = true ∧ RawOp X o ρ H K

/-- Is an operation passed over? -/
def vguard (all : List Oper) (sl : Sl) (o : Oper) (A B : Prop) : Prop :=
  match o.guard with
  | none => A
  | some (j, want) => match (all[j]?).bind (·.dst) with
    | some d => match sl d with
      | .c (.v (.bool b)) => if b = want then A else B
      | .tup _ => B
      | _ => False
    | none => False

def vops (X : Cx) (all : List Oper) : List Oper → (Sl → List Ob → Prop) → Sl → List Ob → Prop
  | [], K, sl, H => K sl H
  | o :: r, K, sl, H => vguard all sl o (vop X (!all.isEmpty) o.op (rho X.G sl) H fun v H' => vops X all r K (putV sl o.dst v) H') (vops X all r K (putV sl o.dst .undef) H)

/-- The frame's slots hold what the data says. -/
structure SlotR (m : Mem) (n : Nat) (sl : Sl) (a : Act) : Prop where
  size : a.tmps.size = n
  defers : a.defers = []
  get : ∀ t, RV m (sl t) (a.tmps.getD t Go.undef)

def Rel (X : Cx) (m0 : Mem) (n : Nat) (Φ : Sl → List Ob → Prop) (a : Act) (w : World) : Prop :=
  ∃ (m : Mem) (sl : Sl) (H : List Ob), m.w = w ∧ SlotR m n sl a ∧ Sim X.G m H ∧ Ext m0 m ∧ Φ sl H

theorem SlotR.ext {m m' : Mem} (h : Ext m m') {n : Nat} {sl : Sl} {a : Act} (hs : SlotR m n sl a) : SlotR m' n sl a := ⟨hs.size, hs.defers, fun t => (hs.get t).ext h⟩

theorem SlotR.put {m : Mem} {n : Nat} {sl : Sl} {a : Act} (hs : SlotR m n sl a) {d : Option Tmp} (hd : ∀ e, d = some e → e < n) {v : V} {u : Value} (h : RV m v u) : SlotR m n (putV sl d v) (a.put d u) := by
  cases d with
  | none => exact hs
  | some d =>
    refine ⟨by simp [Act.put, hs.size], hs.defers, fun t => ?_⟩
    rw [putV_get]
    simp only [Act.put, Array.getD_eq_getD_getElem?, Option.some.injEq]
    have hg := hs.get t
    simp only [Array.getD_eq_getD_getElem?] at hg
    by_cases ht : d = t
    · subst ht
      rw [if_pos rfl, Array.getElem?_setIfInBounds_self_of_lt (by rw [hs.size]; exact hd d rfl)]
      exact h
    · rw [if_neg ht, Array.getElem?_setIfInBounds_ne ht]
      exact hg

theorem RV.undef {m : Mem} : RV m .undef Go.undef := .tup (fun _ => default) rfl (fun j v h => by simp at h) (fun j v h => by simp at h)

theorem cOf_rel {m : Mem} {x : Value} (h : plain x = true) : R m (cOf x) x := by
  cases x <;> first
    | exact .v h
    | exact R.float

theorem rho_rel {X : Cx} {m : Mem} {H : List Ob} (hS : Sim X.G m H) {n : Nat} {sl : Sl} {a : Act} (hs : SlotR m n sl a) (x : Operand) : RV m (rho X.G sl x) (a.eval x) := by
  cases x with
  | tmp t => exact hs.get t
  | const v =>
    simp only [rho, Act.eval]
    cases v <;> simp only [vOf] <;> try exact .c (cOf_rel rfl)
    · split
      · rename_i cs hp
        refine .agg (by simp) fun j c hj => ?_
        rw [List.getElem?_map, Option.map_eq_some_iff] at hj
        obtain ⟨u, hu, rfl⟩ := hj
        exact ⟨u, by simpa using hu, cOf_rel (List.all_eq_true.1 hp u (List.mem_of_getElem? hu))⟩
      · exact .any
    · exact .any
  | global g =>
    simp only [rho, Act.eval]
    split
    · rename_i cs hl
      have hmem : (g, cs) ∈ X.G := by
        clear hS
        generalize X.G = G at hl
        induction G with
        | nil => simp at hl
        | cons p G ih =>
          obtain ⟨g', cs'⟩ := p
          simp only [List.lookup] at hl
          split at hl
          · rename_i he
            simp at he hl
            subst he hl
            simp
          · simp [ih hl]
      obtain ⟨h1, h2⟩ := hS.gl _ hmem
      refine .c (.fz (.vw (base := 0) (off := 0) (fun j => cs.getD j default) ⟨h1, fun h => by cases h⟩ (fun j c hj => ?_) (fun j c hj => ?_)))
      all_goals
        rw [List.getElem?_map, Option.map_eq_some_iff] at hj
        obtain ⟨x, hx, rfl⟩ := hj
        obtain ⟨g1, g2⟩ := h2.1 j x hx
        simp only [List.getD, hx, Option.getD_some]
      · simpa using g1
      · exact .v g2
    · exact .any
  | func f => exact .c (.func (fun _ => default) rfl (fun j c h => by simp at h) (fun j c h => by simp at h))

section
variable {X : Cx} {m0 : Mem} {Q : Exit → Act → World → Prop}

theorem vop_sound {m : Mem} {n : Nat} {sl : Sl} {H : List Ob} {a : Act} (hs : SlotR m n sl a) (hS : Sim X.G m H) (_hE : Ext m0 m) {o : Oper} {raw : Bool} {K : V → List Ob → Prop} (h : vop X raw o.op (rho X.G sl) H K) {next : Act → World → Prop}
    (hn : ∀ (v : V) (H' : List Ob) (m' : Mem) (u : Value), K v H' → Sim X.G m' H' → Ext m m' → RV m' v u → next (a.put o.dst u) m'.w) : o.wp X.P a m.w next Q := by
  have hρ := fun x => rho_rel hS hs x
  unfold vop at h
  unfold Oper.wp
  split at h
  · rename_i f args hc
    split at h
    · rename_i g caps ht
      have hcall : CallC X g (args.map (rho X.G sl) ++ caps) H K := h
      generalize hop : o.op = op at hc
      cases op <;> simp only [callOf] at hc <;> try (cases hc; done)
      rename_i cc
      obtain ⟨callee, args', tys⟩ := cc
      cases callee <;> simp only at hc <;> try (cases hc; done)
      rename_i f'
      simp only [Option.some.injEq, Prod.mk.injEq] at hc
      obtain ⟨rfl, rfl⟩ := hc
      have hf := hρ f'
      generalize hv : rho X.G sl f' = vf at ht hf
      cases vf with
      | c x =>
        cases x <;> simp only [target] at ht <;> try (cases ht; done)
        rename_i g' cs
        simp only [Option.some.injEq, Prod.mk.injEq] at ht
        obtain ⟨rfl, rfl⟩ := ht
        generalize huf : a.eval f' = uf at hf
        cases hf.cell with
        | fz h => cases h
        | func us hl hw hr =>
          rename_i carr
          have hrun : (execOp a.eval o).run X.P m.w = (callFunc g' (args'.map a.eval ++ carr)).run X.P m.w := by
            simp only [execOp, hop, resolve, Sem.run_bind, huf, Deferred.ofValue, Sem.run_pure, Result.andThen_ok, invoke, Array.empty_append]
          have hargs : RVs m (args'.toList.map (rho X.G sl) ++ cs.map V.c) (args'.map a.eval ++ carr) := by
            refine ⟨by simp [hl], fun j v hj => ?_⟩
            by_cases hlt : j < args'.size
            · rw [List.getElem?_append_left (by simpa using hlt), List.getElem?_map, Option.map_eq_some_iff] at hj
              obtain ⟨x, hx, rfl⟩ := hj
              refine ⟨a.eval x, ?_, hρ x⟩
              rw [Array.getElem?_append_left (by simpa using hlt)]
              simpa using ⟨x, by simpa using hx, rfl⟩
            · rw [List.getElem?_append_right (by simp; omega), List.getElem?_map, Option.map_eq_some_iff] at hj
              obtain ⟨c, hc, rfl⟩ := hj
              simp at hc
              refine ⟨us (j - args'.size), ?_, .c (hr _ c hc)⟩
              rw [Array.getElem?_append_right (by simp; omega)]
              simpa using hw _ c hc
          rw [hrun]
          rcases hcall m (args'.map a.eval ++ carr) hS hargs with ⟨u, w', h1, m', r, H', hmw, hK, hS', hE', hrv⟩ | ⟨h1, h2⟩
          · rw [h1, Oper.upon_value, ← hmw]
            exact hn r H' m' u hK hS' hE' hrv
          · rw [h1, Oper.upon_enter]
            refine h2.mono fun e w' ⟨u, he, m', r, H', hmw, hK, hS', hE', hrv⟩ => ?_
            subst he
            rw [← hmw]
            exact hn r H' m' u hK hS' hE' hrv
      | _ => simp [target] at ht
    · exact h.elim
  · split at h
    · rename_i v hv
      obtain ⟨u, m', hrun, hS', hE', hrv⟩ := evq_sound (o := o) hS hρ hv
      rw [hrun, Oper.upon_value]
      exact hn v H m' u h hS' hE' hrv
    · split at h
      · rename_i f hf
        obtain ⟨hφ, hK⟩ := h
        obtain ⟨n, m', hrun, hS', hE', hrv⟩ := eve_sound (o := o) hS hρ hf hφ
        rcases hrv with ⟨u, rfl, hrv⟩ | ⟨rfl, hv⟩
        · rw [hrun, Oper.upon_value]
          exact hn f.v f.H m' u hK hS' hE' hrv
        · rw [hrun, Oper.upon_skip]
          exact hn f.v f.H m' Go.undef hK hS' hE' (by rw [hv]; exact .any)
      · obtain ⟨nx, m', v, H', hrun, hS', hE', hK, hrv⟩ := h.2 m a.eval o rfl hS hρ
        rcases hrv with ⟨u, rfl, hrv⟩ | ⟨rfl, hv⟩
        · rw [hrun, Oper.upon_value]
          exact hn v H' m' u hK hS' hE' hrv
        · rw [hrun, Oper.upon_skip]
          exact hn v H' m' Go.undef hK hS' hE' (by rw [hv]; exact .any)

/-- Whether an operation is passed over, as the data says. -/
theorem vguard_sound {m : Mem} {n : Nat} {sl : Sl} {a : Act} (hs : SlotR m n sl a) {ops : Array Oper} {o : Oper} {A B : Prop} (h : vguard ops.toList sl o A B) :
    (Region.wanted o (yielded ops a.tmps) = true ∧ A) ∨ (Region.wanted o (yielded ops a.tmps) = false ∧ B) := by
  unfold vguard at h
  unfold Region.wanted
  cases hg : o.guard with
  | none => rw [hg] at h; exact .inl ⟨rfl, h⟩
  | some jw =>
    obtain ⟨j, want⟩ := jw
    rw [hg] at h
    simp only at h ⊢
    have hops : ops.toList[j]? = ops[j]? := by simp
    rw [hops] at h
    cases hd : (ops[j]?).bind (·.dst) with
    | none => rw [hd] at h; exact h.elim
    | some d =>
      rw [hd] at h
      simp only at h
      have hslot := hs.get d
      generalize hv : sl d = v at h hslot
      have hy : yielded ops a.tmps j = match a.tmps[d]? with | some (.bool b) => some b | _ => none := by
        unfold yielded; rw [hd]; rfl
      rw [hy]
      have hget : a.tmps.getD d Go.undef = match a.tmps[d]? with | some u => u | none => Go.undef := by
        rw [Array.getD_eq_getD_getElem?]; cases a.tmps[d]? <;> rfl
      cases v with
      | c x =>
        cases x with
        | v y =>
          cases y with
          | bool b =>
            simp only at h
            have hb : a.tmps[d]? = some (.bool b) := by
              have := hslot.val
              rw [hget] at this
              cases ha : a.tmps[d]? with
              | none => rw [ha] at this; cases this
              | some u => rw [ha] at this; simp only at this; rw [this]
            rw [hb]
            simp only
            by_cases hbw : b = want
            · rw [if_pos hbw] at h; exact .inl ⟨by simp [hbw], h⟩
            · rw [if_neg hbw] at h; exact .inr ⟨by simpa using hbw, h⟩
          | _ => exact h.elim
        | _ => exact h.elim
      | tup vs =>
        simp only at h
        refine .inr ⟨?_, h⟩
        rw [hget] at hslot
        cases ha : a.tmps[d]? with
        | none => rfl
        | some u =>
          rw [ha] at hslot
          simp only at hslot
          cases hslot with
          | tup => rfl
      | _ => exact h.elim

theorem vops_sound {n : Nat} {ops : Array Oper} {K : Sl → List Ob → Prop} (hd : dstOk n ops.toList = true) (hQ : ∀ a w, Rel X m0 n K a w → Q .normal a w) : ∀ (r : List Oper) (i : Nat) (m : Mem) (sl : Sl) (H : List Ob) (a : Act),
    ops.toList.drop i = r → SlotR m n sl a → Sim X.G m H → Ext m0 m → vops X ops.toList r K sl H → wpOps X.P ops Q (List.range' i r.length) a m.w
  | [], i, m, sl, H, a, hr, hs, hS, hE, h => hQ _ _ ⟨m, sl, H, rfl, hs, hS, hE, h⟩
  | o :: r, i, m, sl, H, a, hr, hs, hS, hE, h => by
    have hoi : ops[i]? = some o := by
      have : (ops.toList.drop i)[0]? = some o := by rw [hr]; rfl
      rw [List.getElem?_drop] at this
      simpa using this
    have hdo : ∀ d, o.dst = some d → d < n := dstOk_spec hd o (by
      have := List.mem_of_getElem? (l := ops.toList) (i := i) (a := o) (by simpa using hoi)
      exact this)
    have hr' : ops.toList.drop (i + 1) = r := by
      have : (ops.toList.drop i).drop 1 = r := by rw [hr]; rfl
      rw [List.drop_drop] at this
      exact this
    rw [List.length_cons, List.range'_succ, wpOps_cons]
    unfold wpOp
    rw [hoi]
    simp only
    rcases vguard_sound (ops := ops) hs h with ⟨hw, h⟩ | ⟨hw, h⟩
    · rw [hw]
      simp only [if_true]
      refine .inl (vop_sound (Q := Q) hs hS hE h fun v H' m' u hK hS' hE' hrv => ?_)
      exact vops_sound hd hQ r (i + 1) m' _ H' _ hr' ((hs.ext hE').put hdo hrv) hS' (hE.trans hE') hK
    · rw [hw]
      simp only [Bool.false_eq_true, if_false]
      exact vops_sound hd hQ r (i + 1) m _ H _ hr' (hs.put hdo RV.undef) hS hE h

theorem region_sound {n : Nat} {id : Nat} {ops : Array Oper} {K : Sl → List Ob → Prop} (hd : dstOk n ops.toList = true) (hQ : ∀ a w, Rel X m0 n K a w → Q .normal a w) {m : Mem} {sl : Sl} {H : List Ob} {a : Act} (hs : SlotR m n sl a) (hS : Sim X.G m H) (hE : Ext m0 m)
    (h : vops X ops.toList ops.toList K sl H) : (Code.region id ops false).wp X.P Q a m.w := by
  refine wp_region ?_
  have := vops_sound hd hQ ops.toList 0 m sl H a (by simp) hs hS hE h
  simpa [List.range_eq_range'] using this
end
end Go.VL
namespace Go.VL
open Go.RowKit

/-- The memory looked at anew, some slots forgotten. -/
def Turn (N0 : Nat) (sl : Sl) (H : List Ob) (sl' : Sl) (H' : List Ob) : Prop := ∃ g, Turns N0 H g H' ∧ ∀ t, TrV H g (sl t) (sl' t)

theorem SlotR.turn {G : Glob} {m0 m : Mem} {H H' : List Ob} {n : Nat} {sl sl' : Sl} {a : Act} (hs : SlotR m n sl a) (hS : Sim G m H) (hE : Ext m0 m) (hT : Turn m0.N sl H sl' H') :
    ∃ m', m'.w = m.w ∧ SlotR m' n sl' a ∧ Sim G m' H' ∧ Ext m0 m' := by
  obtain ⟨g, h1, h2⟩ := hT
  obtain ⟨h3, h4⟩ := hS.turn hE h1
  exact ⟨turned m H g, rfl, ⟨hs.size, hs.defers, fun t => (hs.get t).turn hS (h2 t)⟩, h3, h4⟩

abbrev VQ := Exit → Sl → List Ob → Prop

/-- What holds where control goes on behind a part. -/
def VQ.then (next : Sl → List Ob → Prop) (Q : VQ) : VQ
  | .normal, sl, H => next sl H
  | e, sl, H => Q e sl H
def VQ.block (id : Nat) (Q : VQ) : VQ
  | .exit id', sl, H => if id' = id then Q .normal sl H else Q (.exit id') sl H
  | e, sl, H => Q e sl H

/-- A rule for regions whose order is drawn. -/
abbrev DR := Nat → Array Oper → (Sl → List Ob → Prop) → Sl → List Ob → Prop

def vwp (X : Cx) (n N0 : Nat) (D : DR) : Code → VQ → Sl → List Ob → Prop
  | .skip, Q, sl, H => Q .normal sl H
  | .label _, Q, sl, H => Q .normal sl H
  | .region _ ops false, Q, sl, H => dstOk n ops.toList = true ∧ vops X ops.toList ops.toList (Q .normal) sl H
  | .region _ ops true, Q, sl, H => D n ops (Q .normal) sl H
  | .seq a b, Q, sl, H => vwp X n N0 D a (VQ.then (vwp X n N0 D b Q) Q) sl H
  | .cond c x y, Q, sl, H => match rho X.G sl c with
    | .c (.v (.bool b)) => if b then vwp X n N0 D x Q sl H else vwp X n N0 D y Q sl H
    | _ => False
  | .block id c, Q, sl, H => vwp X n N0 D c (VQ.block id Q) sl H
  | .loop c, Q, sl, H => ∃ I : Nat → Sl → List Ob → Prop, (∃ k sl0 H0, Turn N0 sl H sl0 H0 ∧ I k sl0 H0) ∧
      ∀ k sl H, I k sl H → vwp X n N0 D c (VQ.then (fun sl' H' => ∃ k' sl'' H'', Turn N0 sl' H' sl'' H'' ∧ I k' sl'' H'' ∧ k' < k) Q) sl H
  | .exit id, Q, sl, H => Q (.exit id) sl H
  | .ret, Q, sl, H => Q .ret sl H
  | _, _, _, _ => False

def DrawOk (X : Cx) (D : DR) : Prop :=
  ∀ (n : Nat) (id : Nat) (ops : Array Oper) (K : Sl → List Ob → Prop) (m0 m : Mem) (sl : Sl) (H : List Ob) (a : Act) (Q : Exit → Act → World → Prop), (∀ a w, Rel X m0 n K a w → Q .normal a w) →
    SlotR m n sl a → Sim X.G m H → Ext m0 m → D n ops K sl H → (Code.region id ops true).wp X.P Q a m.w

theorem wp_loop_n {P : Program} {Q : Exit → Act → World → Prop} {c : Code} (I : Nat → Act → World → Prop) (round : ∀ n a w, I n a w → c.wp P (Exit.then (fun a' w' => ∃ n', I n' a' w' ∧ n' < n) Q) a w) {n : Nat} {a : Act} {w : World} (h0 : I n a w) :
    (Code.loop c).wp P Q a w := by
  intro b k cs
  have key : ∀ n a w, I n a w → ∃ e a' w', Q e a' w' ∧ Arrives P (lone (b.at a (.code c :: .inLoop c :: k)) cs w) b k cs e a' w' := by
    intro n
    induction n using Nat.strongRecOn with
    | _ n ih =>
      intro a w hI
      obtain ⟨e, a₁, w₁, hq, harr⟩ := round n a w hI b (.inLoop c :: k) cs
      cases e with
      | normal =>
        obtain ⟨n', hI₁, hlt⟩ := hq
        obtain ⟨e₂, a₂, w₂, hq₂, harr₂⟩ := ih n' hlt a₁ w₁ hI₁
        exact ⟨e₂, a₂, w₂, hq₂, .of_steps (Steps.trans harr (.one step_inLoop)) harr₂⟩
      | exit id => exact ⟨_, a₁, w₁, hq, .pass (x := .inLoop c) rfl (fun _ _ => .inl (by simp)) harr⟩
      | goto l => exact ⟨_, a₁, w₁, hq, .pass (x := .inLoop c) rfl (fun _ _ => .inl (by simp)) harr⟩
      | ret => exact ⟨_, a₁, w₁, hq, .pass (x := .inLoop c) rfl (fun _ _ => .inl (by simp)) harr⟩
      | panic ch => exact ⟨_, a₁, w₁, hq, .pass (x := .inLoop c) rfl (fun _ _ => .inl (by simp)) harr⟩
      | outgrown => exact ⟨_, a₁, w₁, hq, .pass (x := .inLoop c) rfl (fun _ _ => .inl (by simp)) harr⟩
  obtain ⟨e, a', w', hq, harr⟩ := key n a w h0
  exact ⟨e, a', w', hq, .of_steps (.one step_loop) harr⟩

theorem vwp_sound {X : Cx} {D : DR} (hD : DrawOk X D) {n : Nat} {m0 : Mem} : ∀ (c : Code) (Q' : VQ) (Q : Exit → Act → World → Prop), (∀ e a w, Rel X m0 n (Q' e) a w → Q e a w) →
    ∀ (m : Mem) (sl : Sl) (H : List Ob) (a : Act), SlotR m n sl a → Sim X.G m H → Ext m0 m → vwp X n m0.N D c Q' sl H → c.wp X.P Q a m.w := by
  intro c
  induction c with
  | skip => intro Q' Q hQ m sl H a hs hS hE h; exact wp_skip (hQ _ _ _ ⟨m, sl, H, rfl, hs, hS, hE, h⟩)
  | label l => intro Q' Q hQ m sl H a hs hS hE h; exact wp_label (hQ _ _ _ ⟨m, sl, H, rfl, hs, hS, hE, h⟩)
  | region id ops draw =>
    intro Q' Q hQ m sl H a hs hS hE h
    cases draw with
    | false => exact region_sound h.1 (fun a w hr => hQ _ _ _ hr) hs hS hE h.2
    | true => exact hD n id ops _ m0 m sl H a Q (fun a w hr => hQ _ _ _ hr) hs hS hE h
  | seq x y ihx ihy =>
    intro Q' Q hQ m sl H a hs hS hE h
    refine wp_seq (ihx _ _ (fun e a' w' hr => ?_) m sl H a hs hS hE h)
    obtain ⟨m', sl', H', rfl, hs', hS', hE', hΦ⟩ := hr
    cases e with
    | normal => exact ihy Q' Q hQ m' sl' H' a' hs' hS' hE' hΦ
    | _ => exact hQ _ _ _ ⟨m', sl', H', rfl, hs', hS', hE', hΦ⟩
  | cond c x y ihx ihy =>
    intro Q' Q hQ m sl H a hs hS hE h
    have hc := rho_rel hS hs c
    simp only [vwp] at h
    split at h
    · rename_i b hb
      rw [hb] at hc
      refine wp_cond (t := b) hc.val ?_
      cases b with
      | true => exact ihx Q' Q hQ m sl H a hs hS hE h
      | false => exact ihy Q' Q hQ m sl H a hs hS hE h
    · exact h.elim
  | block id c ih =>
    intro Q' Q hQ m sl H a hs hS hE h
    refine wp_block (ih _ _ (fun e a' w' hr => ?_) m sl H a hs hS hE h)
    obtain ⟨m', sl', H', rfl, hs', hS', hE', hΦ⟩ := hr
    cases e with
    | exit id' =>
      simp only [VQ.block] at hΦ
      simp only [Exit.inBlock]
      by_cases hid : id' = id
      · rw [if_pos hid] at hΦ ⊢
        exact hQ _ _ _ ⟨m', sl', H', rfl, hs', hS', hE', hΦ⟩
      · rw [if_neg hid] at hΦ ⊢
        exact hQ _ _ _ ⟨m', sl', H', rfl, hs', hS', hE', hΦ⟩
    | _ => exact hQ _ _ _ ⟨m', sl', H', rfl, hs', hS', hE', hΦ⟩
  | loop c ih =>
    intro Q' Q hQ m sl H a hs hS hE h
    obtain ⟨I, ⟨k, sl0, H0, hw, hI⟩, hround⟩ := h
    obtain ⟨m1, hm1, hs1, hS1, hE1⟩ := hs.turn hS hE hw
    rw [← hm1]
    refine wp_loop_n (fun k a w => Rel X m0 n (I k) a w) (fun k a w hr => ?_) (n := k) ⟨m1, sl0, H0, rfl, hs1, hS1, hE1, hI⟩
    obtain ⟨m', sl', H', rfl, hs', hS', hE', hI'⟩ := hr
    refine ih _ _ (fun e a' w' hr => ?_) m' sl' H' a hs' hS' hE' (hround k sl' H' hI')
    obtain ⟨m2, sl2, H2, rfl, hs2, hS2, hE2, hΦ⟩ := hr
    cases e with
    | normal =>
      obtain ⟨k', sl3, H3, hw3, hI3, hlt⟩ := hΦ
      obtain ⟨m3, hm3, hs3, hS3, hE3⟩ := hs2.turn hS2 hE2 hw3
      exact ⟨k', ⟨m3, sl3, H3, hm3, hs3, hS3, hE3, hI3⟩, hlt⟩
    | _ => exact hQ _ _ _ ⟨m2, sl2, H2, rfl, hs2, hS2, hE2, hΦ⟩
  | exit id => intro Q' Q hQ m sl H a hs hS hE h; exact wp_exit (hQ _ _ _ ⟨m, sl, H, rfl, hs, hS, hE, h⟩)
  | ret => intro Q' Q hQ m sl H a hs hS hE h; exact wp_ret (hQ _ _ _ ⟨m, sl, H, rfl, hs, hS, hE, h⟩)
  | _ => intro Q' Q hQ m sl H a hs hS hE h; exact h.elim

/-! ### A function -/
def resL (X : Cx) (sl : Sl) (H : List Ob) : List ResultVar → Option (List V)
  | [] => some []
  | .tmp t :: r => (resL X sl H r).map (sl t :: ·)
  | .cell a t :: r => match evq X.lay H (rho X.G sl) (.load t (.tmp a)), resL X sl H r with
    | some v, some vs => some (v :: vs)
    | _, _ => none
/-- What a function answers. -/
def resV (X : Cx) (rs : List ResultVar) (sl : Sl) (H : List Ob) : Option V :=
  (resL X sl H rs).map fun vs => match vs with
    | [v] => v
    | vs => .tup vs

def retQ (X : Cx) (rs : List ResultVar) (Q : V → List Ob → Prop) : VQ
  | .normal, sl, H => ∃ r, resV X rs sl H = some r ∧ Q r H
  | .ret, sl, H => ∃ r, resV X rs sl H = some r ∧ Q r H
  | _, _, _ => False

def resOne (a : Act) : ResultVar → Sem Value
  | .tmp t => pure (a.tmps.getD t Go.undef)
  | .cell x t => do loadVar t (← asAddr (a.tmps.getD x Go.undef))

theorem load_sound {X : Cx} {m : Mem} {H : List Ob} (hS : Sim X.G m H) {t : TypeId} {ρ : Operand → V} {x : Operand} {v : V} {ux : Value} (hv : evq X.lay H ρ (.load t x) = some v) (hx : RV m (ρ x) ux) :
    ∃ u b off, ux = .pointer (some ⟨b, off, none⟩) ∧ (loadVar t ⟨b, off, none⟩).run X.P m.w = .ok u m.w ∧ RV m v u := by
  simp only [evq] at hv
  split at hv
  · rename_i L own cs off hL hx'
    rw [hx'] at hx
    split at hv
    · rename_i hl
      obtain ⟨b, base, hu, hF, hB, hc, -⟩ := hx.vwI
      obtain ⟨u, g1, g2⟩ := run_loadVar (X := X) hL (m := m) (b := b) (off := base + off) (cs := reowns own (sub cs off L.size)) (fun j c hj => by
        obtain ⟨c', hj', rfl⟩ := reowns_get hj
        obtain ⟨-, hg⟩ := sub_get hj'
        obtain ⟨u, q1, q2⟩ := hc _ _ hg
        exact ⟨u, by rw [Nat.add_assoc]; exact q1, q2.r⟩) (by rw [reowns_length]; exact sub_length hl) hv
      exact ⟨u, _, _, hu, g1, g2⟩
    · cases hv
  · rename_i L id off hL hx'
    rw [hx'] at hx
    split at hv
    · rename_i ob ho
      split at hv
      · rename_i hl
        obtain ⟨hu, -⟩ := hx.ptI
        obtain ⟨u, g1, g2⟩ := run_loadVar (X := X) hL (m := m) (b := (m.μ id).block) (off := (m.μ id).base + off) (cs := sub ob.cs off L.size) (fun j c hj => by
          obtain ⟨-, hg⟩ := sub_get hj
          obtain ⟨u, q1, q2⟩ := hS.cell ho hl.1 hg
          exact ⟨u, by rw [Nat.add_assoc]; exact q1, q2⟩) (sub_length hl.2) hv
        exact ⟨u, _, _, hu, g1, g2⟩
      · cases hv
    · cases hv
  · cases hv

theorem results_sound {X : Cx} {m : Mem} {sl : Sl} {H : List Ob} {n : Nat} {a : Act} (hs : SlotR m n sl a) (hS : Sim X.G m H) : ∀ (rs : List ResultVar) (vs : List V), resL X sl H rs = some vs →
    vs.length = rs.length ∧ ∀ (j : Nat) (v : V), vs[j]? = some v → ∃ r u, rs[j]? = some r ∧ (resOne a r).run X.P m.w = .ok u m.w ∧ RV m v u
  | [], vs, h => by
    simp only [resL, Option.some.injEq] at h
    subst h
    exact ⟨rfl, fun j v h => by simp at h⟩
  | .tmp t :: rs, vs, h => by
    simp only [resL] at h
    obtain ⟨vs', hvs, rfl⟩ := Option.map_eq_some_iff.1 h
    obtain ⟨h1, h2⟩ := results_sound hs hS rs vs' hvs
    refine ⟨by simp [h1], fun j v hj => ?_⟩
    cases j with
    | zero => simp at hj; subst hj; exact ⟨_, _, rfl, rfl, by simpa using hs.get t⟩
    | succ j => simpa using h2 j v (by simpa using hj)
  | .cell x t :: rs, vs, h => by
    simp only [resL] at h
    split at h
    · rename_i v vs' hv hvs
      simp only [Option.some.injEq] at h
      subst h
      obtain ⟨h1, h2⟩ := results_sound hs hS rs vs' hvs
      refine ⟨by simp [h1], fun j v' hj => ?_⟩
      cases j with
      | zero =>
        simp at hj
        subst hj
        obtain ⟨u, b, off, hu, g1, g2⟩ := load_sound (ux := a.tmps.getD x Go.undef) hS hv (hs.get x)
        refine ⟨_, u, rfl, ?_, g2⟩
        simp only [resOne, Sem.run_bind, hu, asAddr, Sem.run_pure, Result.andThen_ok, g1]
      | succ j => simpa using h2 j v' (by simpa using hj)
    · cases h

theorem resV_sound {X : Cx} {m : Mem} {sl : Sl} {H : List Ob} {n : Nat} {a : Act} (hs : SlotR m n sl a) (hS : Sim X.G m H) {fn : Func} {r : V} (h : resV X fn.results.toList sl H = some r) :
    ∃ u, (results fn a.tmps).run X.P m.w = .ok u m.w ∧ RV m r u := by
  obtain ⟨vs, hvs, rfl⟩ := Option.map_eq_some_iff.1 h
  obtain ⟨h1, h2⟩ := results_sound hs hS _ _ hvs
  obtain ⟨us, hul, hus⟩ := choose_list (cs := vs) (p := fun j v u => ∃ r, fn.results.toList[j]? = some r ∧ (resOne a r).run X.P m.w = .ok u m.w ∧ RV m v u) (fun j v hj => by
    obtain ⟨r, u, g1, g2, g3⟩ := h2 j v hj
    exact ⟨u, r, g1, g2, g3⟩)
  have hmap := run_mapM_list (P := X.P) (w := m.w) (g := resOne a) fn.results.toList us (by omega) (fun j u hj => by
    have hlt : j < vs.length := by rw [← hul]; exact (List.getElem?_eq_some_iff.1 hj).1
    obtain ⟨u', g0, r, g1, g2, g3⟩ := hus j _ (List.getElem?_eq_getElem hlt)
    rw [hj] at g0
    injection g0 with g0
    subst g0
    exact ⟨r, g1, g2⟩)
  have hres : results fn a.tmps = (do let vs ← fn.results.mapM (resOne a); pure (if h : vs.size = 1 then vs[0] else .tuple vs)) := by
    unfold results
    congr 1
  refine ⟨if h : us.toArray.size = 1 then us.toArray[0] else .tuple us.toArray, ?_, ?_⟩
  · rw [hres, Array.mapM_eq_mapM_toList]
    simp only [Sem.run_bind, Sem.run_map, hmap, Result.andThen_ok, Sem.run_pure]
  · match vs, us, hul, hus with
    | [v], [u], _, hus =>
      obtain ⟨u', g0, r, g1, g2, g3⟩ := hus 0 v rfl
      simp at g0
      subst g0
      simpa using g3
    | [], [], _, _ => exact .tup (fun _ => default) rfl (fun j v h => by simp at h) (fun j v h => by simp at h)
    | v :: v' :: vs, u :: u' :: us, hul, hus =>
      refine .tup (fun j => (u :: u' :: us).getD j default) (by simpa using hul) (fun j v hj => ?_) (fun j v hj => ?_)
      · obtain ⟨x, g0, r, g1, g2, g3⟩ := hus j v hj
        simp only [List.getD, g0, Option.getD_some]
        simpa using g0
      · obtain ⟨x, g0, r, g1, g2, g3⟩ := hus j v hj
        simpa [List.getD, g0] using g3

/-- A frame's first slots. -/
def slots (args : List V) : Sl := fun t => args.getD t .any

/-- A function by its body, in the midst of objects. -/
theorem CallC.of_body {X : Cx} {D : DR} (hD : DrawOk X D) {g : FuncId} {fn : Func} {c : Code} (hen : Enters X g) (hf : X.P.funcs[g]? = some fn) (hb : fn.body = some c) {args : List V} {H : List Ob} {Q : V → List Ob → Prop} {n : Nat} (hn : args.length + (fn.ntmps - args.length) = n)
    (h : vwp X n H.length D c (retQ X fn.results.toList Q) (slots args) H) : CallC X g args H Q := by
  intro m arr hS hr
  refine .inr ⟨hen _ _, calls_of_wp hf hb ?_⟩
  rw [← hS.N] at h
  refine vwp_sound hD (m0 := m) (n := n) c _ _ (fun e a w hrel => ?_) m _ H _ ⟨by simp [hr.1]; exact hn, rfl, fun t => ?_⟩ hS (Ext.refl m) h
  · obtain ⟨m', sl, H', rfl, hs, hS', hE, hΦ⟩ := hrel
    cases e <;> simp only [retQ] at hΦ <;> try exact hΦ.elim
    all_goals
      obtain ⟨r, hr, hQ⟩ := hΦ
      obtain ⟨u, h1, h2⟩ := resV_sound hs hS' hr
      exact ⟨hs.defers, u, h1, u, rfl, m', r, H', rfl, hQ, hS', hE, h2⟩
  · simp only [Array.getD_eq_getD_getElem?, slots, List.getD_eq_getElem?_getD]
    by_cases hlt : t < args.length
    · obtain ⟨u, h1, h2⟩ := hr.2 t _ (List.getElem?_eq_getElem hlt)
      rw [List.getElem?_eq_getElem hlt, Array.getElem?_append_left (by rw [hr.1]; exact hlt), h1]
      exact h2
    · rw [List.getElem?_eq_none (by omega)]
      exact .any
end Go.VL
namespace Go.VL
open Go.RowKit

/-- Frozen data, where more is frozen. -/
theorem RV.mono1 {m m' : Mem} (hw : m'.w = m.w) (hN : m.N = 0) (hB : m.B = m'.B) (hF : ∀ b, m.F b → m'.F b) (_hμ : ∀ i, i < m.N → m'.μ i = m.μ i) {v : V} {u : Value} (h : RV m v u) : RV m' v u := by
  have hR : ∀ {c : C} {u : Value}, R m c u → R m' c u := fun {c u} h => by
    induction h with
    | fz h => exact .fz (h.go (fun b _ j => by rw [hw]) (fun b hb _ => hF b hb) (fun _ => by rw [hB]; exact Nat.le_refl _))
    | pt h => omega
    | mu h => omega
    | mn h => omega
    | func us hl hw hr ih => exact .func us hl hw ih
  induction h with
  | c h => exact .c (hR h)
  | agg hl hr => exact .agg hl fun j c hj => let ⟨u, h1, h2⟩ := hr j c hj; ⟨u, h1, hR h2⟩
  | tup us hl hw _ ih => exact .tup us hl hw ih
  | any => exact .any

theorem PureC.of_call {X : Cx} {g : FuncId} {args : List V} {r : V} (h : CallC X g args [] (fun r0 H => TrV H [] r0 r)) : PureC X g args r := by
  intro w F μ arr hS hr
  refine (h _ arr hS hr).mono fun u w' ⟨m', r0, H', hmw, hfz, hS', hE, hrv⟩ => ?_
  subst hmw
  refine ⟨⟨hE.os, hE.tape, hE.output, hE.size, fun k hk => hE.keep k (.inr hk)⟩, ?_⟩
  have h1 := hrv.turn hS' hfz
  have hB : m'.B = w.heap.size := hE.B
  refine RV.mono1 (m := turned m' H' []) (m' := ⟨m'.w, fun b => F b ∨ (w.heap.size ≤ b ∧ b < m'.w.heap.size), w.heap.size, 0, μ⟩) rfl rfl hB (fun b hb => ?_) (fun i hi => absurd hi (Nat.not_lt_zero _)) h1
  rcases hb with hb | ⟨id, o, ho, hl, hg, -, rfl⟩
  · rcases hE.Fn b hb with h2 | h2
    · exact .inl h2
    · exact .inr ⟨h2, hS'.lo b hb⟩
  · obtain ⟨-, -, -, -, -, -, hBb⟩ := hS'.ob id o ho hl hg
    exact .inr ⟨by rw [← hB]; exact hBb, hS'.blk id (Mem.N_lt hS' ho) hg⟩

theorem PureC.of_body {X : Cx} {D : DR} (hD : DrawOk X D) {g : FuncId} {fn : Func} {c : Code} (hen : Enters X g) (hf : X.P.funcs[g]? = some fn) (hb : fn.body = some c) {args : List V} {r : V} {n : Nat} (hn : args.length + (fn.ntmps - args.length) = n)
    (h : vwp X n 0 D c (retQ X fn.results.toList (fun r0 H => TrV H [] r0 r)) (slots args) []) : PureC X g args r :=
  .of_call (.of_body hD hen hf hb hn h)
end Go.VL
namespace Go.VL
open Go.RowKit

/-- Does the operation look at the objects? -/
def sens : Op → Bool
  | .load _ _ => true
  | .slice _ _ _ _ _ => true
  | .call { callee := .value _, args := _, argTypes := _ } => true
  | _ => false

theorem parts_congr {ρ ρ' : Operand → V} : ∀ (ps : List (Nat × Operand)), (∀ x ∈ ps.map (·.2), ρ x = ρ' x) → (ps.map fun p => (p.1, ρ p.2)) = ps.map fun p => (p.1, ρ' p.2)
  | [], _ => rfl
  | p :: ps, h => by
    simp only [List.map_cons]
    rw [h p.2 (by simp), parts_congr ps fun x hx => h x (by simp only [List.map_cons, List.mem_cons]; exact .inr hx)]

theorem capsOf_congr {ρ ρ' : Operand → V} : ∀ (xs : List Operand), (∀ x ∈ xs, ρ x = ρ' x) → capsOf ρ xs = capsOf ρ' xs
  | [], _ => rfl
  | x :: xs, h => by
    simp only [capsOf]
    rw [h x (by simp), capsOf_congr xs fun y hy => h y (by simp [hy])]

theorem bnd_congr {ρ ρ' : Operand → V} {x : Option Operand} {d : Int} (h : ∀ y, x = some y → ρ y = ρ' y) : bnd ρ x d = bnd ρ' x d := by
  cases x with
  | none => rfl
  | some y => simp only [bnd]; rw [h y rfl]

theorem evq_congr {lay : TypeId → Option Lay} {H : List Ob} {ρ ρ' : Operand → V} (op : Op) (h : ∀ x ∈ op.operands, ρ x = ρ' x) : evq lay H ρ op = evq lay H ρ' op := by
  cases op <;> simp only [Op.operands] at h
  case build t ps =>
    simp only [evq]
    rw [parts_congr ps.toList fun x hx => h x (by simpa using hx)]
  case slice t x lo hi mx =>
    have hx := h x (by simp)
    have hlo : ∀ d, bnd ρ lo d = bnd ρ' lo d := fun d => bnd_congr fun y hy => h y (by subst hy; simp)
    have hhi : ∀ d, bnd ρ hi d = bnd ρ' hi d := fun d => bnd_congr fun y hy => h y (by subst hy; simp)
    cases mx
    · simp only [evq]; rw [hx]; simp only [hlo, hhi]
    · simp only [evq]
  case makeFunc f first caps =>
    cases f with
    | func g =>
      simp only [evq]
      rw [capsOf_congr caps.toList fun x hx => h x (by simp at hx ⊢; exact .inr hx)]
    | _ => rfl
  case call c =>
    obtain ⟨callee, args, tys⟩ := c
    have ha : ∀ x ∈ args.toList, ρ x = ρ' x := fun x hx => h x (by simp only [Call.operands]; simp at hx ⊢; exact .inr hx)
    cases callee with
    | builtin b =>
      cases b <;> simp only [evq]
      all_goals
        generalize args.toList = l at ha ⊢
        match l, ha with
        | [], _ => rfl
        | [x], ha =>
          have h1 : ρ x = ρ' x := ha x List.mem_cons_self
          first | rfl | simp only [h1] | (split <;> first | rfl | (rename_i q1 q2; simp only [List.cons.injEq] at q1; obtain ⟨rfl, -⟩ := q1; simp only [h1]) | simp_all)
        | [x, y], ha =>
          have h1 : ρ x = ρ' x := ha x List.mem_cons_self
          have h2 : ρ y = ρ' y := ha y (List.mem_cons_of_mem _ List.mem_cons_self)
          first | rfl | simp only [h1, h2] | (split <;> first | rfl | (rename_i q1 q2; simp only [List.cons.injEq] at q1; obtain ⟨rfl, rfl, -⟩ := q1; simp only [h1, h2]) | simp_all)
        | _ :: _ :: _ :: _, _ => rfl
    | _ => rfl
  all_goals (try simp only [evq]) <;> (try rfl)
  all_goals
    simp only [Array.mem_def, List.mem_cons, List.not_mem_nil, or_false, forall_eq_or_imp, forall_eq] at h
    first
      | (rw [h]; done)
      | (simp only [h]; done)

theorem evq_heap {lay : TypeId → Option Lay} {H H' : List Ob} {ρ : Operand → V} (op : Op) (h : sens op = false) : evq lay H ρ op = evq lay H' ρ op := by
  cases op <;> try rfl
  case load => cases h
  case slice => cases h
  case makeFunc f _ _ => cases f <;> rfl
  case call c =>
    obtain ⟨callee, args, tys⟩ := c
    cases callee with
    | builtin b => cases b <;> rfl
    | value f => rfl
    | invoke r m => rfl

theorem eve_congr {lay : TypeId → Option Lay} {H : List Ob} {ρ ρ' : Operand → V} (op : Op) (h : ∀ x ∈ op.operands, ρ x = ρ' x) : eve lay H ρ op = eve lay H ρ' op := by
  cases op <;> simp only [Op.operands] at h
  case buildSlice t n ps =>
    simp only [eve]
    rw [parts_congr ps.toList fun x hx => h x (by simpa using hx)]
  case call c =>
    obtain ⟨callee, args, tys⟩ := c
    have ha : ∀ x ∈ args.toList, ρ x = ρ' x := fun x hx => h x (by simp only [Call.operands]; simp at hx ⊢; exact .inr hx)
    cases callee with
    | builtin b =>
      cases b <;> simp only [eve]
      all_goals
        generalize args.toList = l at ha ⊢
        match l, ha with
        | [], _ => rfl
        | [x], ha =>
          have h1 : ρ x = ρ' x := ha x List.mem_cons_self
          first | rfl | simp only [h1] | (split <;> first | rfl | (rename_i q1 q2; simp only [List.cons.injEq] at q1; obtain ⟨rfl, -⟩ := q1; simp only [h1]) | simp_all)
        | [x, y], ha =>
          have h1 : ρ x = ρ' x := ha x List.mem_cons_self
          have h2 : ρ y = ρ' y := ha y (List.mem_cons_of_mem _ List.mem_cons_self)
          first | rfl | simp only [h1, h2] | (split <;> first | rfl | (rename_i q1 q2; simp only [List.cons.injEq] at q1; obtain ⟨rfl, rfl, -⟩ := q1; simp only [h1, h2]) | simp_all)
        | _ :: _ :: _ :: _, _ => rfl
    | _ => rfl
  all_goals (try simp only [eve]) <;> (try rfl)
  all_goals
    simp only [Array.mem_def, List.mem_cons, List.not_mem_nil, or_false, forall_eq_or_imp, forall_eq] at h
    first
      | (rw [h]; done)
      | (simp only [h]; done)

theorem callOf_congr {ρ ρ' : Operand → V} {op : Op} (h : ∀ x ∈ op.operands, ρ x = ρ' x) {f : Operand} {args : List Operand} (hc : callOf op = some (f, args)) : ρ f = ρ' f ∧ args.map ρ = args.map ρ' := by
  cases op <;> simp only [callOf] at hc <;> try (cases hc; done)
  rename_i c
  obtain ⟨callee, args', tys⟩ := c
  cases callee <;> simp only at hc <;> try (cases hc; done)
  simp only [Option.some.injEq, Prod.mk.injEq] at hc
  obtain ⟨rfl, rfl⟩ := hc
  simp only [Op.operands, Call.operands] at h
  exact ⟨h _ (by simp), List.map_congr_left fun x hx => h x (by simp at hx ⊢; exact .inr hx)⟩

def frzC : C → Bool
  | .pt _ _ => false
  | .mu _ _ _ _ => false
  | .fn _ _ => false
  | _ => true
theorem R.rf {m : Mem} {c : C} {u : Value} (hf : frzC c = true) {o : Bool} (ho : o = true → ownC c = true) (h : R m c u) : RF m o c u := by
  cases h with
  | fz h =>
    cases c with
    | v x => cases h with | v h => exact .v h
    | f k x => cases h with
      | fs h => exact .fs h
      | fn h => exact .fn h
    | any => cases h with | any h => exact .any h
    | sl b n k cs => exact RF.down (m := m) ho h
    | vw b cs off => exact RF.down (m := m) ho h
    | _ => cases hf
  | _ => cases hf

/-- A slice's literal, frozen at once. -/
def frz (lay : TypeId → Option Lay) (ρ : Operand → V) : Op → Option V
  | .buildSlice t n parts => match lay t with
    | some ⟨.slice e, _, _, _⟩ => match lay e with
      | some L => match fillC (fun i => some (i * L.size, L.size)) (zeros L n) (parts.toList.map fun p => (p.1, ρ p.2)) with
        | some cs => if 0 < L.size ∧ n * L.size ≤ 2 ^ 24 ∧ cs.all frzC = true then some (.c (.sl (cs.all ownC) n L.size cs)) else none
        | none => none
      | none => none
    | _ => none
  | _ => none

theorem frz_congr {lay : TypeId → Option Lay} {ρ ρ' : Operand → V} (op : Op) (h : ∀ x ∈ op.operands, ρ x = ρ' x) : frz lay ρ op = frz lay ρ' op := by
  cases op <;> simp only [Op.operands] at h <;> try rfl
  case buildSlice t n ps =>
    simp only [frz]
    rw [parts_congr ps.toList fun x hx => h x (by simpa using hx)]

theorem good_frz {X : Cx} {m : Mem} {H : List Ob} {ε : Operand → Value} {ρ : Operand → V} {o : Oper} {v : V} (hS : Sim X.G m H) (hρ : ∀ x, RV m (ρ x) (ε x)) (h : frz X.lay ρ o.op = some v) : Good X m H ε o v := by
  generalize hop : o.op = op at h
  cases op <;> simp only [frz] at h <;> try (cases h; done)
  rename_i t n parts
  split at h
  · rename_i e _ _ _ hL0
    have ht : X.P.underlying t = some (.slice e) := (X.ok t _ hL0).kind
    split at h
    · rename_i L hL
      split at h
      · rename_i cs hf
        split at h
        · rename_i hh
          obtain ⟨h0, h24, hfz⟩ := hh
          simp only [Option.some.injEq] at h; subst h
          obtain ⟨-, hp, i, z, g1, g2, g3, g4, g5, g6⟩ := X.ok e L hL
          have hs : L.zero.length = L.size := by rw [← g5]; simpa using g6
          obtain ⟨a1, a2⟩ := zeros_rel (m := m) hp hs h0 g5 n
          obtain ⟨arr', f1, f2, f3⟩ := fill_rel hρ parts.toList (zeros L n) cs _ a1 a2 hf
          have hlen : arr'.size = n * L.size ∧ cs.length = n * L.size := by
            have : ∀ (parts : List (Nat × V)) (cs cs' : List C) (place : Nat → Option (Nat × Nat)), fillC place cs parts = some cs' → cs'.length = cs.length := by
              intro parts
              induction parts with
              | nil => intro cs cs' place h; simp [fillC] at h; rw [h]
              | cons p parts ih =>
                intro cs cs' place h
                obtain ⟨i, v⟩ := p
                simp only [fillC] at h
                split at h
                · split at h
                  · rename_i hh
                    rw [ih _ _ _ h]
                    simp; omega
                  · cases h
                · cases h
            have h1 := this _ _ _ _ hf
            rw [zeros_length hs] at h1
            exact ⟨by rw [f2, h1], h1⟩
          have hrun : (execOp ε o).run X.P m.w = .ok (.value (.slice (some ⟨m.w.heap.size, 0, none⟩) n n)) { m.w with heap := m.w.heap.push (.cells arr' e) } := by
            simp only [execOp, hop, Instr.buildSlice, Sem.run_bind, run_underlying ht, Result.andThen_ok, sizeOf, typeInfo, program, Sem.run, g1, Sem.run_pure, g2]
            rw [if_neg (by omega)]
            by_cases hn : n * L.size = 0
            · have hn0 : n = 0 := by
                rcases Nat.mul_eq_zero.1 hn with h | h
                · exact h
                · omega
              subst hn0
              simp only [Nat.zero_mul, if_true, Array.toList_map]
              have : ((Array.range (0 * L.size)).map (z.cells[· % z.cells.size]!)) = (Array.range 0).map ((#[] : Array Value)[· % (#[] : Array Value).size]!) := by simp
              rw [this] at f1
              simp only [Sem.run_bind, Sem.run_pure, Result.andThen_ok, f1]
              simp [newRow, newObj, Sem.run]
            · simp only [hn, if_false, Sem.run_bind, zeroValue, typeInfo, program, Sem.run, g1, g4, Sem.run_pure, Result.andThen_ok, Array.toList_map, f1]
              simp [newRow, newObj, Sem.run]
          obtain ⟨q1, q2⟩ := hS.grow (w' := { m.w with heap := m.w.heap.push (.cells arr' e) }) ⟨rfl, rfl, rfl, by simp, fun b hb => by simp only [Array.getElem?_push]; rw [if_neg (by omega)]⟩
          obtain ⟨us, hul, hus⟩ := choose_list (cs := cs) (p := fun j c u => arr'[j]? = some u ∧ R m c u) f3
          refine ⟨_, _, hrun, q1, q2, .c (.fz (.sl (fun j => us.getD j default) (Nat.le_refl _) (by unfold maxLen; have : n ≤ n * L.size := Nat.le_mul_of_pos_right n h0; omega) hlen.2
            (fun hne => ⟨rfl, .inr ⟨Nat.le_refl _, by simp⟩, fun _ => hS.bs⟩) (fun j c hj => ?_) (fun j c hj => ?_)))⟩
          · have hlt := (List.getElem?_eq_some_iff.1 hj).1
            obtain ⟨u, h1, h2, h3⟩ := hus j c hj
            simp [List.getD, h1, World.cell?, h2]
          · obtain ⟨u, h1, h2, h3⟩ := hus j c hj
            have hm := List.mem_of_getElem? hj
            simpa [List.getD, h1, C.own] using (h3.ext q2).rf (List.all_eq_true.1 hfz c hm) (fun (ho : cs.all ownC = true) => List.all_eq_true.1 ho c hm)
        · cases h
      · cases h
    · cases h
  · cases h
end Go.VL
namespace Go.VL
open Go.RowKit

/-- One operation in the order that is told: its number, its kind (0: writes nothing; 1: writes; 2: a slice's literal, frozen at once), and which that look at the objects are asked again behind it. -/
structure En where
  i : Nat
  kind : Nat
  chk : List Nat

/-- What an operation comes to that looks at no object: by the model's own run. -/
def RawQ (X : Cx) (op : Op) (ρ : Operand → V) (v : V) : Prop :=
  ∀ (m : Mem) (H : List Ob) (ε : Operand → Value) (o : Oper), o.op = op → Sim X.G m H → (∀ x ∈ op.operands, RV m (ρ x) (ε x)) → Good X m H ε o v

/-- What holds of an operation that turns no object, and of its value. -/
def Qt (X : Cx) (kind : Nat) (H : List Ob) (ρ : Operand → V) (o : Op) (v : V) : Prop :=
  if kind = 2 then frz X.lay ρ o = some v else match callOf o with
    | some (f, args) => match target (ρ f) with
      | some (g, caps) => PCall X H g (args.map ρ ++ caps) v
      | none => False
    | none => evq X.lay H ρ o = some v ∨ RawQ X o ρ v
/-- .. told by the steps on data alone. -/
def Qt0 (X : Cx) (kind : Nat) (H : List Ob) (ρ : Operand → V) (o : Op) (v : V) : Prop :=
  if kind = 2 then frz X.lay ρ o = some v else match callOf o with
    | some (f, args) => match target (ρ f) with
      | some (g, caps) => PCall X H g (args.map ρ ++ caps) v
      | none => False
    | none => evq X.lay H ρ o = some v
theorem Qt0.qt {X : Cx} {kind : Nat} {H : List Ob} {ρ : Operand → V} {o : Op} {v : V} (h : Qt0 X kind H ρ o v) : Qt X kind H ρ o v := by
  unfold Qt0 at h
  unfold Qt
  split
  · rename_i hk; rw [if_pos hk] at h; exact h
  · rename_i hk
    rw [if_neg hk] at h
    split
    · rename_i f args hc
      rw [hc] at h
      exact h
    · rename_i hc
      rw [hc] at h
      exact .inl h

def vq (X : Cx) (kind : Nat) (o : Op) (ρ : Operand → V) (H : List Ob) (K : V → Prop) : Prop :=
  if kind = 2 then (match frz X.lay ρ o with
    | some v => K v
    | none => False) else match callOf o with
    | some (f, args) => match target (ρ f) with
      | some (g, caps) => ∃ r, PCall X H g (args.map ρ ++ caps) r ∧ K r
      | none => False
    | none => match evq X.lay H ρ o with
      | some v => K v
      | none => ∃ v, RawQ X o ρ v ∧ K v

theorem vq_qt {X : Cx} {kind : Nat} {o : Op} {ρ : Operand → V} {H : List Ob} {K : V → Prop} (h : vq X kind o ρ H K) : ∃ v, Qt X kind H ρ o v ∧ K v := by
  unfold vq at h
  split at h
  · rename_i hk
    split at h
    · rename_i v hv; exact ⟨v, by unfold Qt; rw [if_pos hk]; exact hv, h⟩
    · exact h.elim
  · rename_i hk
    split at h
    · rename_i f args hc
      split at h
      · rename_i g caps ht
        obtain ⟨r, h1, h2⟩ := h
        refine ⟨r, ?_, h2⟩
        unfold Qt
        rw [if_neg hk, hc]
        simp only [ht]
        exact h1
      · exact h.elim
    · rename_i hc
      split at h
      · rename_i v hv
        refine ⟨v, ?_, h⟩
        unfold Qt
        rw [if_neg hk, hc]
        exact .inl hv
      · obtain ⟨v, hv, h⟩ := h
        refine ⟨v, ?_, h⟩
        unfold Qt
        rw [if_neg hk, hc]
        exact .inr hv

abbrev Hist := List (Nat × Sl × V)

/-- Asked again among other objects, it says the same. -/
def again (X : Cx) (all : List Oper) (H : List Ob) (x : Nat × Sl × V) : Prop :=
  match all[x.1]? with
  | some o => Qt0 X 0 H (rho X.G x.2.1) o.op x.2.2
  | none => True
def againAll (X : Cx) (all : List Oper) (H : List Ob) (chk : List Nat) : Hist → Prop
  | [] => True
  | x :: r => (if chk.contains x.1 then again X all H x else True) ∧ againAll X all H chk r

theorem againAll_mem {X : Cx} {all : List Oper} {H : List Ob} {chk : List Nat} : ∀ {h : Hist}, againAll X all H chk h → ∀ x ∈ h, x.1 ∈ chk → again X all H x
  | [], _, x, hx, _ => by cases hx
  | y :: h, hh, x, hx, hc => by
    rcases List.mem_cons.1 hx with rfl | hx
    · have := hh.1
      rw [if_pos (by simpa using hc)] at this
      exact this
    · exact againAll_mem hh.2 x hx hc

/-- What holds of an operation that turns the objects: what it answers, and what they are behind it. -/
def Et (X : Cx) (H : List Ob) (ρ : Operand → V) (o : Op) (v : V) (H' : List Ob) : Prop :=
  (∃ f, eve X.lay H ρ o = some f ∧ f.φ ∧ f.v = v ∧ f.H = H') ∨ ∃ f args g caps, callOf o = some (f, args) ∧ target (ρ f) = some (g, caps) ∧ CallC X g (args.map ρ ++ caps) H fun v' H'' => v' = v ∧ H'' = H'

/-- The operations in the order that is told. -/
def vopsD (X : Cx) (all : List Oper) : List En → Hist → (Sl → List Ob → Prop) → Sl → List Ob → Prop
  | [], _, K, sl, H => K sl H
  | e :: r, hist, K, sl, H => match all[e.i]? with
    | none => False
    | some o => vguard all sl o
        (if e.kind = 1 then (∃ (v : V) (H' : List Ob), Et X H (rho X.G sl) o.op v H' ∧ againAll X all H' e.chk hist ∧ vopsD X all r hist K (putV sl o.dst v) H')
        else vq X e.kind o.op (rho X.G sl) H fun v => vopsD X all r (if e.kind = 0 && sens o.op then (e.i, sl, v) :: hist else hist) K (putV sl o.dst v) H)
        (vopsD X all r hist K (putV sl o.dst .undef) H)

/-! ### What the run that is told says, step by step -/
structure St where
  sl : Sl
  H : List Ob
  v : V
  ran : Bool

structure Step (X : Cx) (all : List Oper) (es : List En) (hist : Hist) (T : Nat → St) (p : Nat) (e : En) (o : Oper) : Prop where
  op : all[e.i]? = some o
  sl : (T (p + 1)).sl = putV (T p).sl o.dst (T p).v
  guard : vguard all (T p).sl o ((T p).ran = true) ((T p).ran = false)
  off : (T p).ran = false → (T p).v = .undef ∧ (T (p + 1)).H = (T p).H
  quiet : (T p).ran = true → e.kind ≠ 1 → Qt X e.kind (T p).H (rho X.G (T p).sl) o.op (T p).v ∧ (T (p + 1)).H = (T p).H
  eff : (T p).ran = true → e.kind = 1 → Et X (T p).H (rho X.G (T p).sl) o.op (T p).v (T (p + 1)).H
  re0 : (T p).ran = true → e.kind = 1 → ∀ x ∈ hist, x.1 ∈ e.chk → again X all (T (p + 1)).H x
  re : (T p).ran = true → e.kind = 1 → ∀ (q : Nat) (e' : En) (o' : Oper), q < p → es[q]? = some e' → all[e'.i]? = some o' → e'.kind = 0 → sens o'.op = true → (T q).ran = true → e'.i ∈ e.chk → again X all (T (p + 1)).H (e'.i, (T q).sl, (T q).v)

theorem vguard_or {all : List Oper} {sl : Sl} {o : Oper} {A B : Prop} (h : vguard all sl o A B) : (vguard all sl o True False ∧ A) ∨ (vguard all sl o False True ∧ B) := by
  unfold vguard at *
  split at h
  · exact .inl ⟨trivial, h⟩
  · split at h
    · rename_i d hd
      split at h
      · rename_i b hb
        split at h
        · rename_i he; exact .inl ⟨by simp only [if_pos he], h⟩
        · rename_i he; exact .inr ⟨by simp only [if_neg he], h⟩
      · exact .inr ⟨trivial, h⟩
      · exact h.elim
    · exact h.elim
theorem vguard_imp {all : List Oper} {sl : Sl} {o : Oper} {A B A' B' : Prop} (ha : A → A') (hb : B → B') (h : vguard all sl o A B) : vguard all sl o A' B' := by
  unfold vguard at *
  split at h
  · exact ha h
  · split at h
    · rename_i d hd
      split at h
      · rename_i b hb'
        split at h
        · rename_i he; simp only [if_pos he]; exact ha h
        · rename_i he; simp only [if_neg he]; exact hb h
      · exact hb h
      · exact h.elim
    · exact h.elim

theorem trace {X : Cx} {all : List Oper} {K : Sl → List Ob → Prop} : ∀ (r : List En) (hist : Hist) (sl : Sl) (H : List Ob), vopsD X all r hist K sl H →
    ∃ T : Nat → St, (T 0).sl = sl ∧ (T 0).H = H ∧ (∀ p e, r[p]? = some e → ∃ o, Step X all r hist T p e o) ∧ K (T r.length).sl (T r.length).H
  | [], hist, sl, H, h => ⟨fun _ => ⟨sl, H, .any, false⟩, rfl, rfl, fun p e he => by simp at he, h⟩
  | e :: r, hist, sl, H, h => by
    simp only [vopsD] at h
    split at h
    · exact h.elim
    · rename_i o ho
      -- what this step leaves
      have key : ∃ (v : V) (H' : List Ob) (ran : Bool) (hist' : Hist), vopsD X all r hist' K (putV sl o.dst v) H' ∧ vguard all sl o (ran = true) (ran = false) ∧ (ran = false → v = .undef ∧ H' = H) ∧
          (ran = true → e.kind ≠ 1 → Qt X e.kind H (rho X.G sl) o.op v ∧ H' = H) ∧ (ran = true → e.kind = 1 → Et X H (rho X.G sl) o.op v H') ∧
          (ran = true → e.kind = 1 → ∀ x ∈ hist, x.1 ∈ e.chk → again X all H' x) ∧ (∀ x ∈ hist, x ∈ hist') ∧ (ran = true → e.kind = 0 → sens o.op = true → (e.i, sl, v) ∈ hist') := by
        rcases vguard_or h with ⟨hg, h⟩ | ⟨hg, h⟩
        · split at h
          · rename_i hk
            obtain ⟨v, H', h1, h2, h3⟩ := h
            exact ⟨v, H', true, hist, h3, vguard_imp (fun _ => rfl) (fun h => h.elim) hg, fun h => (by cases h), fun _ h => absurd hk h, fun _ _ => h1, fun _ _ x hx hc => againAll_mem h2 x hx hc, fun x hx => hx, fun _ h => by omega⟩
          · rename_i hk
            obtain ⟨v, h1, h2⟩ := vq_qt h
            refine ⟨v, H, true, _, h2, vguard_imp (fun _ => rfl) (fun h => h.elim) hg, fun h => (by cases h), fun _ _ => ⟨h1, rfl⟩, fun _ h => absurd h hk, fun _ h => absurd h hk, fun x hx => ?_, fun _ h0 hs => ?_⟩
            · split
              · exact List.mem_cons_of_mem _ hx
              · exact hx
            · rw [if_pos (by simp [h0, hs])]
              exact List.mem_cons_self
        · exact ⟨.undef, H, false, hist, h, vguard_imp (fun h => h.elim) (fun _ => rfl) hg, fun _ => ⟨rfl, rfl⟩, fun h => (by cases h), fun h => (by cases h), fun h => (by cases h), fun x hx => hx, fun h => (by cases h)⟩
      obtain ⟨v, H', ran, hist', k0, k1, k2, k3, k4, k5, k6, k7⟩ := key
      obtain ⟨T, t1, t2, t3, t4⟩ := trace r hist' _ _ k0
      refine ⟨fun p => match p with | 0 => ⟨sl, H, v, ran⟩ | p + 1 => T p, rfl, rfl, fun p e' he' => ?_, t4⟩
      cases p with
      | zero =>
        simp only [List.getElem?_cons_zero, Option.some.injEq] at he'
        subst he'
        exact ⟨o, ho, t1, k1, fun h => ⟨(k2 h).1, t2.trans (k2 h).2⟩, fun h h' => ⟨(k3 h h').1, t2.trans (k3 h h').2⟩, fun h h' => by rw [t2]; exact k4 h h', fun h h' => by rw [t2]; exact k5 h h', fun _ _ q _ _ hq => absurd hq (Nat.not_lt_zero _)⟩
      | succ p =>
        simp only [List.getElem?_cons_succ] at he'
        obtain ⟨o', s⟩ := t3 p e' he'
        refine ⟨o', s.op, s.sl, s.guard, s.off, s.quiet, s.eff, fun h h' x hx hc => s.re0 h h' x (k6 x hx) hc, fun hran hone q e2 o2 hq he2 ho2 hk hs hr hc => ?_⟩
        cases q with
        | zero =>
          simp only [List.getElem?_cons_zero, Option.some.injEq] at he2
          subst he2
          have : o2 = o := by rw [ho] at ho2; exact (Option.some.inj ho2).symm
          subst this
          exact s.re0 hran hone _ (k7 hr hk hs) hc
        | succ q => exact s.re hran hone q e2 o2 (by omega) (by simpa using he2) ho2 hk hs hr hc

/-! ### What is asked of the order -/
def upDirect : List Edge → Nat
  | [] => 0
  | e :: r => if Region.binds .any e then 2 ^ e.on ||| upDirect r else upDirect r
def upMask (M : List Nat) : List Edge → Nat
  | [] => 0
  | e :: r => if Region.binds .any e then (2 ^ e.on ||| M.getD e.on 0) ||| upMask M r else upMask M r

def chkPair (M : List Nat) (ops : Array Oper) (e' e : En) (o' o : Oper) : Bool :=
  let b := (M.getD e.i 0).testBit e'.i
  (match o'.dst with
    | some d => (!(o.looksAt ops).contains d || b) && (o.dst != some d)
    | none => true) &&
  (match o.dst with
    | some d => !(o'.looksAt ops).contains d || b
    | none => true) &&
  (e.kind != 1 || ((e'.kind != 1 || b) && (e'.kind != 0 || !sens o'.op || b || e.chk.contains e'.i))) &&
  (e'.kind != 1 || e.kind != 0 || !sens o.op || b)

def chkOrd (M : List Nat) (ops : Array Oper) : List En → Nat → List En → Bool
  | _, mask, [] => mask == 2 ^ ops.size - 1
  | done, mask, e :: r => match ops[e.i]? with
    | none => false
    | some o => Nat.ble e.kind 2 && !mask.testBit e.i && (upDirect o.after.toList ||| mask == mask) && (M.getD e.i 0 ||| upMask M o.after.toList == upMask M o.after.toList) &&
        (done.all fun e' => match ops[e'.i]? with
          | some o' => chkPair M ops e' e o' o
          | none => false) && chkOrd M ops (e :: done) (mask ||| 2 ^ e.i) r

theorem testBit_upDirect {es : List Edge} {e : Edge} (he : e ∈ es) (hb : Region.binds .any e = true) : (upDirect es).testBit e.on = true := by
  induction es with
  | nil => cases he
  | cons x es ih =>
    simp only [upDirect]
    rcases List.mem_cons.1 he with rfl | he
    · rw [if_pos hb, Nat.testBit_or, Nat.testBit_two_pow_self, Bool.true_or]
    · split
      · rw [Nat.testBit_or, ih he, Bool.or_true]
      · exact ih he

theorem testBit_upMask {M : List Nat} {es : List Edge} {j : Nat} (h : (upMask M es).testBit j = true) : ∃ e ∈ es, Region.binds .any e = true ∧ (j = e.on ∨ (M.getD e.on 0).testBit j = true) := by
  induction es with
  | nil => simp [upMask] at h
  | cons x es ih =>
    simp only [upMask] at h
    split at h
    · rename_i hb
      rw [Nat.testBit_or, Nat.testBit_or, Bool.or_eq_true, Bool.or_eq_true] at h
      rcases h with (h | h) | h
      · rw [Nat.testBit_two_pow] at h
        exact ⟨x, List.mem_cons_self, hb, .inl (of_decide_eq_true h).symm⟩
      · exact ⟨x, List.mem_cons_self, hb, .inr h⟩
      · obtain ⟨e, h1, h2⟩ := ih h
        exact ⟨e, List.mem_cons_of_mem _ h1, h2⟩
    · obtain ⟨e, h1, h2⟩ := ih h
      exact ⟨e, List.mem_cons_of_mem _ h1, h2⟩

theorem testBit_of_or {a b j : Nat} (h : a ||| b = b) (ha : a.testBit j = true) : b.testBit j = true := by
  rw [← h, Nat.testBit_or, ha, Bool.true_or]

structure Ord1 (M : List Nat) (ops : Array Oper) (pre : En → Prop) (e : En) (o : Oper) : Prop where
  op : ops[e.i]? = some o
  kind : e.kind ≤ 2
  pair : ∀ e', pre e' → e'.i ≠ e.i ∧ ∃ o', ops[e'.i]? = some o' ∧ chkPair M ops e' e o' o = true
  dep : ∀ x ∈ o.after.toList, Region.binds .any x = true → ∃ e', pre e' ∧ e'.i = x.on
  mask : ∀ j, (M.getD e.i 0).testBit j = true → ∃ x ∈ o.after.toList, Region.binds .any x = true ∧ (j = x.on ∨ (M.getD x.on 0).testBit j = true)

theorem chkOrd_spec {M : List Nat} {ops : Array Oper} : ∀ (r done : List En) (mask : Nat), (∀ i, mask.testBit i = true ↔ ∃ e ∈ done, e.i = i) → chkOrd M ops done mask r = true →
    (∀ (p : Nat) (e : En), r[p]? = some e → ∃ o, Ord1 M ops (fun e' => e' ∈ done ∨ ∃ q, q < p ∧ r[q]? = some e') e o) ∧ ∀ i, i < ops.size → ∃ e, (e ∈ done ∨ e ∈ r) ∧ e.i = i
  | [], done, mask, hm, h => by
    refine ⟨fun p e he => by simp at he, fun i hi => ?_⟩
    simp only [chkOrd, beq_iff_eq] at h
    have : mask.testBit i = true := by rw [h, Nat.testBit_two_pow_sub_one]; simpa using hi
    obtain ⟨e, h1, h2⟩ := (hm i).1 this
    exact ⟨e, .inl h1, h2⟩
  | e :: r, done, mask, hm, h => by
    simp only [chkOrd] at h
    split at h
    · cases h
    · rename_i o ho
      simp only [Bool.and_eq_true, Bool.not_eq_true', beq_iff_eq] at h
      obtain ⟨⟨⟨⟨⟨h0, h1⟩, h2⟩, h3⟩, h4⟩, h5⟩ := h
      have hm' : ∀ i, (mask ||| 2 ^ e.i).testBit i = true ↔ ∃ e' ∈ e :: done, e'.i = i := fun i => by
        rw [Nat.testBit_or, Bool.or_eq_true, hm i, Nat.testBit_two_pow]
        simp only [decide_eq_true_eq, List.mem_cons, exists_eq_or_imp]
        exact Or.comm
      obtain ⟨k1, k2⟩ := chkOrd_spec r (e :: done) _ hm' h5
      refine ⟨fun p e' he' => ?_, fun i hi => ?_⟩
      · cases p with
        | zero =>
          simp only [List.getElem?_cons_zero, Option.some.injEq] at he'
          subst he'
          refine ⟨o, ho, Nat.le_of_ble_eq_true h0, fun e' he' => ?_, fun x hx hb => ?_, fun j hj => testBit_upMask (testBit_of_or h3 hj)⟩
          · have hd : e' ∈ done := he'.elim id fun ⟨q, hq, _⟩ => absurd hq (Nat.not_lt_zero _)
            refine ⟨fun heq => ?_, ?_⟩
            · have := (hm e.i).2 ⟨e', hd, heq⟩
              rw [h1] at this
              cases this
            · have := List.all_eq_true.1 h4 e' hd
              split at this
              · rename_i o' ho'; exact ⟨o', ho', this⟩
              · cases this
          · obtain ⟨e', g1, g2⟩ := (hm _).1 (testBit_of_or h2 (testBit_upDirect hx hb))
            exact ⟨e', .inl g1, g2⟩
        | succ p =>
          simp only [List.getElem?_cons_succ] at he'
          obtain ⟨o', s⟩ := k1 p e' he'
          refine ⟨o', s.op, s.kind, fun e2 h2 => s.pair e2 ?_, fun x hx hb => ?_, s.mask⟩
          · rcases h2 with h2 | ⟨q, hq, h2⟩
            · exact .inl (List.mem_cons_of_mem _ h2)
            · cases q with
              | zero => simp only [List.getElem?_cons_zero, Option.some.injEq] at h2; subst h2; exact .inl List.mem_cons_self
              | succ q => exact .inr ⟨q, by omega, by simpa using h2⟩
          · obtain ⟨e2, g1, g2⟩ := s.dep x hx hb
            refine ⟨e2, ?_, g2⟩
            rcases g1 with g1 | ⟨q, hq, g1⟩
            · rcases List.mem_cons.1 g1 with rfl | g1
              · exact .inr ⟨0, by omega, rfl⟩
              · exact .inl g1
            · exact .inr ⟨q + 1, by omega, by simpa using g1⟩
      · obtain ⟨e', g1, g2⟩ := k2 i hi
        refine ⟨e', ?_, g2⟩
        rcases g1 with g1 | g1
        · rcases List.mem_cons.1 g1 with rfl | g1
          · exact .inr List.mem_cons_self
          · exact .inl g1
        · exact .inr (List.mem_cons_of_mem _ g1)
end Go.VL
namespace Go.VL
open Go.RowKit

/-- The rule for regions whose order is drawn: an order, and what is asked of it. -/
def drawD (X : Cx) (n : Nat) (ops : Array Oper) (K : Sl → List Ob → Prop) (sl : Sl) (H : List Ob) : Prop :=
  ∃ (M : List Nat) (es : List En), dstOk n ops.toList = true ∧ chkOrd M ops [] 0 es = true ∧ vopsD X ops.toList es [] K sl H

section
variable {X : Cx} {m0 : Mem} {Q : Exit → Act → World → Prop}

theorem qt_sound {m : Mem} {sl : Sl} {H : List Ob} {n : Nat} {a : Act} (hs : SlotR m n sl a) (hS : Sim X.G m H) {kind : Nat} {o : Oper} {v : V} (h : Qt X kind H (rho X.G sl) o.op v) {next : Act → World → Prop}
    (hn : ∀ (m' : Mem) (u : Value), Sim X.G m' H → Ext m m' → RV m' v u → next (a.put o.dst u) m'.w) : o.wp X.P a m.w next Q := by
  have viaV : vop X false o.op (rho X.G sl) H (fun v' H' => v' = v ∧ H' = H) → o.wp X.P a m.w next Q := fun hv =>
    vop_sound (m0 := m) (Q := Q) hs hS (Ext.refl m) hv fun v' H' m' u hK hS' hE' hrv => by
      obtain ⟨rfl, rfl⟩ := hK
      exact hn m' u hS' hE' hrv
  unfold Qt at h
  split at h
  · obtain ⟨u, m', hrun, hS', hE', hrv⟩ := good_frz (o := o) hS (fun x => rho_rel hS hs x) h
    unfold Oper.wp
    rw [hrun, Oper.upon_value]
    exact hn m' u hS' hE' hrv
  · split at h
    · rename_i f args hc
      split at h
      · rename_i g caps ht
        refine viaV ?_
        unfold vop
        rw [hc]
        simp only [ht]
        exact CallC.of_pure h ⟨rfl, rfl⟩
      · exact h.elim
    · rename_i hc
      rcases h with h | h
      · refine viaV ?_
        unfold vop
        rw [hc]
        simp only [h]
        exact ⟨trivial, trivial⟩
      · obtain ⟨u, m', hrun, hS', hE', hrv⟩ := h m H _ o rfl hS (fun x _ => rho_rel hS hs x)
        unfold Oper.wp
        rw [hrun, Oper.upon_value]
        exact hn m' u hS' hE' hrv

theorem eff_sound {m : Mem} {sl : Sl} {H : List Ob} {n : Nat} {a : Act} (hs : SlotR m n sl a) (hS : Sim X.G m H) {o : Oper} {f : Eff} (hf : eve X.lay H (rho X.G sl) o.op = some f) (hφ : f.φ) {next : Act → World → Prop}
    (hn : ∀ (m' : Mem) (u : Value), Sim X.G m' f.H → Ext m m' → RV m' f.v u → next (a.put o.dst u) m'.w) : o.wp X.P a m.w next Q := by
  obtain ⟨n, m', hrun, hS', hE', hrv⟩ := eve_sound (o := o) hS (fun x => rho_rel hS hs x) hf hφ
  unfold Oper.wp
  rcases hrv with ⟨u, rfl, hrv⟩ | ⟨rfl, hv⟩
  · rw [hrun, Oper.upon_value]
    exact hn m' u hS' hE' hrv
  · rw [hrun, Oper.upon_skip]
    exact hn m' Go.undef hS' hE' (by rw [hv]; exact .any)

theorem et_sound {m : Mem} {sl : Sl} {H H' : List Ob} {v : V} {n : Nat} {a : Act} (hs : SlotR m n sl a) (hS : Sim X.G m H) {o : Oper} (h : Et X H (rho X.G sl) o.op v H') {next : Act → World → Prop}
    (hn : ∀ (m' : Mem) (u : Value), Sim X.G m' H' → Ext m m' → RV m' v u → next (a.put o.dst u) m'.w) : o.wp X.P a m.w next Q := by
  rcases h with ⟨f, hf, hφ, rfl, rfl⟩ | ⟨f, args, g, caps, hc, ht, hcall⟩
  · exact eff_sound hs hS hf hφ hn
  · refine vop_sound (m0 := m) (raw := false) (K := fun v' H'' => v' = v ∧ H'' = H') (Q := Q) hs hS (Ext.refl m) ?_ fun v' H'' m' u hK hS' hE' hrv => ?_
    · unfold vop
      rw [hc]
      simp only [ht]
      exact hcall
    · obtain ⟨rfl, rfl⟩ := hK
      exact hn m' u hS' hE' hrv
theorem Et.congr {H H' : List Ob} {ρ ρ' : Operand → V} {o : Op} {v : V} (h : ∀ x ∈ o.operands, ρ x = ρ' x) (hq : Et X H ρ o v H') : Et X H ρ' o v H' := by
  rcases hq with ⟨f, hf, h1⟩ | ⟨f, args, g, caps, hc, ht, hcall⟩
  · exact .inl ⟨f, by rw [← eve_congr o h]; exact hf, h1⟩
  · obtain ⟨h1, h2⟩ := callOf_congr h hc
    exact .inr ⟨f, args, g, caps, hc, by rw [← h1]; exact ht, by rw [← h2]; exact hcall⟩

theorem Qt.congr {kind : Nat} {H _H' : List Ob} {ρ ρ' : Operand → V} {o : Op} {v : V} (h : ∀ x ∈ o.operands, ρ x = ρ' x) (hq : Qt X kind H ρ o v) : Qt X kind H ρ' o v := by
  unfold Qt at *
  split
  · rename_i hk; rw [if_pos hk, frz_congr o h] at hq; exact hq
  · rename_i hk
    rw [if_neg hk] at hq
    split
    · rename_i f args hc
      rw [hc] at hq
      obtain ⟨h1, h2⟩ := callOf_congr h hc
      simp only [h1, h2] at hq
      exact hq
    · rename_i hc
      rw [hc] at hq
      simp only at hq ⊢
      rcases hq with hq | hq
      · exact .inl (by rw [← evq_congr o h]; exact hq)
      · exact .inr fun m H2 ε o2 ho hS hr => hq m H2 ε o2 ho hS fun x hx => by rw [h x hx]; exact hr x hx

theorem Qt.heap {kind : Nat} {H H' : List Ob} {ρ : Operand → V} {o : Op} {v : V} (hs : sens o = false) (hq : Qt X kind H ρ o v) : Qt X kind H' ρ o v := by
  unfold Qt at *
  split
  · rename_i hk; rw [if_pos hk] at hq; exact hq
  · rename_i hk
    rw [if_neg hk] at hq
    split
    · rename_i f args hc
      exfalso
      cases o <;> simp only [callOf] at hc <;> try (cases hc; done)
      rename_i c
      obtain ⟨callee, args', tys⟩ := c
      cases callee <;> simp only at hc <;> try (cases hc; done)
      cases hs
    · rename_i hc
      rw [hc] at hq
      simp only at hq ⊢
      rcases hq with hq | hq
      · exact .inl (by rw [evq_heap o hs (H' := H)]; exact hq)
      · exact .inr hq

theorem Qt.kind {k k' : Nat} {H : List Ob} {ρ : Operand → V} {o : Op} {v : V} (h1 : k ≠ 2) (h2 : k' ≠ 2) (hq : Qt X k H ρ o v) : Qt X k' H ρ o v := by
  unfold Qt at *
  rw [if_neg h1] at hq
  rw [if_neg h2]
  exact hq

/-- The run that is told, and its order. -/
structure Told (X : Cx) (ops : Array Oper) (M : List Nat) (es : List En) (sl0 : Sl) (T : Nat → St) : Prop where
  t0 : (T 0).sl = sl0
  step : ∀ (p : Nat) (e : En), es[p]? = some e → ∃ o, Step X ops.toList es [] T p e o
  ord : ∀ (p : Nat) (e : En), es[p]? = some e → ∃ o, Ord1 M ops (fun e' => ∃ q : Nat, q < p ∧ es[q]? = some e') e o
  all : ∀ i, i < ops.size → ∃ (p : Nat) (e : En), es[p]? = some e ∧ e.i = i

variable {ops : Array Oper} {M : List Nat} {es : List En} {sl0 : Sl} {T : Nat → St}

theorem Told.at (h : Told X ops M es sl0 T) {p : Nat} {e : En} (he : es[p]? = some e) : ∃ o, ops[e.i]? = some o ∧ Step X ops.toList es [] T p e o ∧ Ord1 M ops (fun e' => ∃ q : Nat, q < p ∧ es[q]? = some e') e o := by
  obtain ⟨o, h1⟩ := h.step p e he
  obtain ⟨o', h2⟩ := h.ord p e he
  have : o' = o := by
    have a1 := h1.op
    have a2 := h2.op
    simp only [Array.getElem?_toList] at a1
    rw [a2] at a1
    exact Option.some.inj a1
  subst this
  exact ⟨o', h2.op, h1, h2⟩

theorem Told.inj (h : Told X ops M es sl0 T) {p q : Nat} {e e' : En} (he : es[p]? = some e) (he' : es[q]? = some e') (hi : e.i = e'.i) : p = q := by
  rcases Nat.lt_trichotomy p q with hlt | rfl | hlt
  · obtain ⟨o, h1, h2, h3⟩ := h.at he'
    exact absurd hi (h3.pair e ⟨p, hlt, he⟩).1
  · rfl
  · obtain ⟨o, h1, h2, h3⟩ := h.at he
    exact absurd hi.symm (h3.pair e' ⟨q, hlt, he'⟩).1

/-- What is asked of two operations. -/
theorem Told.pair (h : Told X ops M es sl0 T) {p q : Nat} {e e' : En} {o o' : Oper} (hlt : q < p) (he : es[p]? = some e) (he' : es[q]? = some e') (ho : ops[e.i]? = some o) (ho' : ops[e'.i]? = some o') :
    (∀ d, o'.dst = some d → (d ∈ o.looksAt ops → (M.getD e.i 0).testBit e'.i = true) ∧ o.dst ≠ some d) ∧ (∀ d, o.dst = some d → d ∈ o'.looksAt ops → (M.getD e.i 0).testBit e'.i = true) ∧
    (e.kind = 1 → e'.kind = 1 → (M.getD e.i 0).testBit e'.i = true) ∧ (e.kind = 1 → e'.kind = 0 → sens o'.op = true → (M.getD e.i 0).testBit e'.i = true ∨ e'.i ∈ e.chk) ∧
    (e'.kind = 1 → e.kind = 0 → sens o.op = true → (M.getD e.i 0).testBit e'.i = true) := by
  obtain ⟨o2, h1, h2, h3⟩ := h.at he
  have : o2 = o := by rw [ho] at h1; exact (Option.some.inj h1).symm
  subst this
  obtain ⟨-, o3, k1, k2⟩ := h3.pair e' ⟨q, hlt, he'⟩
  have : o3 = o' := by rw [ho'] at k1; exact (Option.some.inj k1).symm
  subst this
  unfold chkPair at k2
  simp only [Bool.and_eq_true, Bool.or_eq_true, Bool.not_eq_true'] at k2
  obtain ⟨⟨⟨a1, a2⟩, a3⟩, a4⟩ := k2
  refine ⟨fun d hd => ?_, fun d hd hm => ?_, fun hk hk' => ?_, fun hk hk' hs => ?_, fun hk' hk hs => ?_⟩
  · rw [hd] at a1
    simp only [Bool.and_eq_true, Bool.or_eq_true, Bool.not_eq_true'] at a1
    refine ⟨fun hm => a1.1.resolve_left (by simpa using hm), fun hh => ?_⟩
    rw [hh] at a1
    simp at a1
  · rw [hd] at a2
    simp only [Bool.or_eq_true, Bool.not_eq_true'] at a2
    exact a2.resolve_left (by simpa using hm)
  · rcases a3 with a3 | a3
    · simp [hk] at a3
    · exact a3.1.resolve_left (by simp [hk'])
  · rcases a3 with a3 | a3
    · simp [hk] at a3
    · rcases a3.2 with ((a | a) | a) | a
      · simp [hk'] at a
      · simp [hs] at a
      · exact .inl a
      · exact .inr (by simpa using a)
  · rcases a4 with ((a | a) | a) | a
    · simp [hk'] at a
    · simp [hk] at a
    · simp [hs] at a
    · exact a

theorem Told.slot (h : Told X ops M es sl0 T) (t : Nat) : ∀ p, p ≤ es.length →
    (∀ (q : Nat) (e : En) (o : Oper), q < p → es[q]? = some e → ops[e.i]? = some o → o.dst = some t → (T p).sl t = (T q).v) ∧
    ((∀ (q : Nat) (e : En) (o : Oper), q < p → es[q]? = some e → ops[e.i]? = some o → o.dst ≠ some t) → (T p).sl t = sl0 t)
  | 0, _ => ⟨fun q _ _ hq => absurd hq (Nat.not_lt_zero _), fun _ => by rw [h.t0]⟩
  | p + 1, hp => by
    obtain ⟨i2, i3⟩ := h.slot t p (by omega)
    have he := List.getElem?_eq_getElem (l := es) (i := p) (by omega)
    obtain ⟨o, ho, hst, hor⟩ := h.at he
    rw [hst.sl]
    refine ⟨fun q e' o' hq he' ho' hd => ?_, fun hno => ?_⟩
    · rw [putV_get]
      by_cases hqp : q = p
      · subst hqp
        rw [he] at he'
        have := Option.some.inj he'
        subst this
        have : o = o' := by rw [ho] at ho'; exact Option.some.inj ho'
        subst this
        rw [if_pos hd]
      · have hqp' : q < p := by omega
        obtain ⟨a1, -⟩ := h.pair hqp' he he' ho ho'
        rw [if_neg (a1 t hd).2]
        exact i2 q e' o' hqp' he' ho' hd
    · rw [putV_get, if_neg (hno p _ o (Nat.lt_succ_self p) he ho)]
      exact i3 fun q e' o' hq => hno q e' o' (by omega)

theorem Told.heap (h : Told X ops M es sl0 T) {p p' : Nat} (hle : p ≤ p') (hp' : p' ≤ es.length) (hno : ∀ (r : Nat) (e : En), p ≤ r → r < p' → es[r]? = some e → e.kind ≠ 1) : (T p').H = (T p).H := by
  induction p' with
  | zero => have : p = 0 := by omega
            subst this; rfl
  | succ n ih =>
    by_cases heq : p = n + 1
    · subst heq; rfl
    · have he := List.getElem?_eq_getElem (l := es) (i := n) (by omega)
      obtain ⟨o, ho, hst, hor⟩ := h.at he
      rw [← ih (by omega) (by omega) fun r e hr hr' => hno r e hr (by omega)]
      cases hr : (T n).ran with
      | false => exact (hst.off hr).2
      | true => exact (hst.quiet hr (hno n _ (by omega) (by omega) he)).2

/-- What has come up, and what the slots and objects are then. -/
structure DInv (ops : Array Oper) (es : List En) (sl0 : Sl) (T : Nat → St) (L : Array Bool) (sl : Sl) (q : Nat) : Prop where
  size : L.size = ops.size
  wr : ∀ (p : Nat) (e : En) (o : Oper) (t : Nat), es[p]? = some e → ops[e.i]? = some o → L.getD e.i false = true → o.dst = some t → sl t = (T p).v
  nw : ∀ t : Nat, (∀ (p : Nat) (e : En) (o : Oper), es[p]? = some e → ops[e.i]? = some o → L.getD e.i false = true → o.dst ≠ some t) → sl t = sl0 t
  ql : q ≤ es.length
  q : ∀ (p : Nat) (e : En), es[p]? = some e → e.kind = 1 → (L.getD e.i false = true ↔ p < q)
  closed : ∀ (i : Nat) (o : Oper), ops[i]? = some o → L.getD i false = true → ∀ x ∈ o.after.toList, Region.binds .any x = true → L.getD x.on false = true

theorem DInv.mask {L : Array Bool} {sl : Sl} {q : Nat} (h : Told X ops M es sl0 T) (hI : DInv ops es sl0 T L sl q) : ∀ (p : Nat) (e : En) (o : Oper), es[p]? = some e → ops[e.i]? = some o →
    (∀ x ∈ o.after.toList, Region.binds .any x = true → L.getD x.on false = true) → ∀ j, (M.getD e.i 0).testBit j = true → L.getD j false = true := by
  intro p
  induction p using Nat.strongRecOn with
  | _ p ih =>
    intro e o he ho hd j hj
    obtain ⟨o', ho', hst, hor⟩ := h.at he
    have : o' = o := by rw [ho] at ho'; exact (Option.some.inj ho').symm
    subst this
    obtain ⟨x, hx, hb, hj⟩ := hor.mask j hj
    rcases hj with rfl | hj
    · exact hd x hx hb
    · obtain ⟨e', ⟨q', hq', he'⟩, hi⟩ := hor.dep x hx hb
      obtain ⟨o2, ho2, -, -⟩ := h.at he'
      refine ih q' hq' e' o2 he' ho2 (fun y hy hyb => hI.closed _ o2 ho2 ?_ y hy hyb) j (by rw [hi]; exact hj)
      rw [hi]
      exact hd x hx hb

theorem DInv.done {L : Array Bool} {sl : Sl} {q : Nat} (h : Told X ops M es sl0 T) (hI : DInv ops es sl0 T L sl q) (ha : ∀ (p : Nat) (e : En), es[p]? = some e → L.getD e.i false = true) :
    sl = (T es.length).sl ∧ (T q).H = (T es.length).H := by
  constructor
  · funext t
    obtain ⟨s2, s3⟩ := h.slot t es.length (Nat.le_refl _)
    by_cases hw : ∃ (p : Nat) (e : En) (o : Oper), es[p]? = some e ∧ ops[e.i]? = some o ∧ o.dst = some t
    · obtain ⟨p, e, o, h1, h2, h3⟩ := hw
      rw [hI.wr p e o t h1 h2 (ha p e h1) h3, s2 p e o (List.getElem?_eq_some_iff.1 h1).1 h1 h2 h3]
    · rw [hI.nw t fun p e o h1 h2 _ h3 => hw ⟨p, e, o, h1, h2, h3⟩, s3 fun p e o _ h1 h2 h3 => hw ⟨p, e, o, h1, h2, h3⟩]
  · refine (h.heap hI.ql (Nat.le_refl _) fun r e hr hr' he hk => ?_).symm
    have := (hI.q r e he hk).1 (ha r e he)
    omega
end
end Go.VL
