/- Calls by contract, on data; memory looked at anew. Over any program. -/
import Derived.Test.YtbejolinihbokaaV7
namespace Go.VL
open Go.RowKit

/-- Values of a list of slots. -/
def RVs (m : Mem) (vs : List V) (arr : Array Value) : Prop := arr.size = vs.length ∧ ∀ (j : Nat) (v : V), vs[j]? = some v → ∃ u, arr[j]? = some u ∧ RV m v u

def Enters (X : Cx) (g : FuncId) : Prop := ∀ (args : Array Value) (w : World), (callFunc g args).run X.P w = .ok (.enter g args) w

/-- A call answers at once, or its body is run. -/
def Goes (X : Cx) (g : FuncId) (arr : Array Value) (w : World) (Q : Value → World → Prop) : Prop :=
  (∃ u w', (callFunc g arr).run X.P w = .ok (.value u) w' ∧ Q u w') ∨ ((callFunc g arr).run X.P w = .ok (.enter g arr) w ∧ Calls X.P g arr w fun e w' => ∃ u, e = .returned u ∧ Q u w')
theorem Goes.mono {X : Cx} {g : FuncId} {arr : Array Value} {w : World} {Q Q' : Value → World → Prop} (h : Goes X g arr w Q) (hq : ∀ u w', Q u w' → Q' u w') : Goes X g arr w Q' := by
  rcases h with ⟨u, w', h1, h2⟩ | ⟨h1, h2⟩
  · exact .inl ⟨u, w', h1, hq u w' h2⟩
  · exact .inr ⟨h1, h2.mono fun e w' ⟨u, he, hu⟩ => ⟨u, he, hq u w' hu⟩⟩

/-- A call in the midst of objects: whatever comes behind it. -/
def CallC (X : Cx) (g : FuncId) (args : List V) (H : List Ob) (Q : V → List Ob → Prop) : Prop :=
  ∀ (m : Mem) (arr : Array Value), Sim X.G m H → RVs m args arr → Goes X g arr m.w fun u w' => ∃ (m' : Mem) (r : V) (H' : List Ob), m'.w = w' ∧ Q r H' ∧ Sim X.G m' H' ∧ Ext m m' ∧ RV m' r u

/-- A call on data alone: it answers r; it writes nothing that was there; what it makes is new. -/
def PureC (X : Cx) (g : FuncId) (args : List V) (r : V) : Prop :=
  ∀ (w : World) (F : Nat → Prop) (μ : Nat → Pl) (arr : Array Value), Sim X.G ⟨w, F, w.heap.size, 0, μ⟩ [] → RVs ⟨w, F, w.heap.size, 0, μ⟩ args arr →
    Goes X g arr w fun u w' => Below w.heap.size w w' ∧ RV ⟨w', fun b => F b ∨ (w.heap.size ≤ b ∧ b < w'.heap.size), w.heap.size, 0, μ⟩ r u

/-- A cell as frozen data, where the objects that are 'gone' are frozen; 'o': all of its memory is to be new. -/
inductive Dn (o : Bool) (H : List Ob) (gone : Nat → Prop) : C → C → Prop
  | v {x : Value} : Dn o H gone (.v x) (.v x)
  | f {k : FloatKind} {x : Option Nat} : Dn o H gone (.f k x) (.f k x)
  | any {c : C} : Dn o H gone c .any
  | sl {b b' : Bool} {n k : Nat} {cs : List C} (h : o = true → b = true) : Dn o H gone (.sl b n k cs) (.sl b' n k cs)
  | vw {b b' : Bool} {off : Nat} {cs : List C} (h : o = true → b = true) : Dn o H gone (.vw b cs off) (.vw b' cs off)
  | mu {b' : Bool} {id off n k : Nat} {ob : Ob} {cs' : List C} (ho : H[id]? = some ob) (hlive : ob.live = true) (hg : gone id) (hfit : off + n * k ≤ ob.cs.length) (hl : cs'.length = n * k)
      (hc : ∀ (j : Nat) (c c' : C), (sub ob.cs off (n * k))[j]? = some c → cs'[j]? = some c' → Dn o H gone c c') : Dn o H gone (.mu id off n k) (.sl b' n k cs')
  | pt {b' : Bool} {id off : Nat} {ob : Ob} {cs' : List C} (ho : H[id]? = some ob) (hlive : ob.live = true) (hg : gone id) (hl : cs'.length = ob.cs.length)
      (hc : ∀ (j : Nat) (c c' : C), ob.cs[j]? = some c → cs'[j]? = some c' → Dn o H gone c c') : Dn o H gone (.pt id off) (.vw b' cs' off)

theorem R.dn {G : Glob} {m m' : Mem} {H : List Ob} {o : Bool} {gone : Nat → Prop} (hS : Sim G m H) (hw : m'.w = m.w) (hF : ∀ b, m.F b → (o = true → m.B ≤ b) → m'.F b)
    (hG : ∀ (id : Nat) (ob : Ob), H[id]? = some ob → ob.live = true → (m.μ id).gh = false → gone id → m'.F (m.μ id).block) (hB : o = true → m'.B ≤ m.B) {c c' : C} (h : Dn o H gone c c') : ∀ {u : Value}, R m c u → RF m' o c' u := by
  have go : ∀ {c : C} {u : Value}, RF m o c u → RF m' o c u := fun h => h.go (fun b hb j => by rw [hw]) hF hB
  induction h with
  | v => intro u h; rw [h.val]; exact .v (by have := h.plain; rwa [h.val] at this)
  | f => intro u h; cases h with
    | fz h => cases h with
      | fs h => exact .fs h
      | fn h => exact .fn h
  | any => intro u h; exact .any h.plain
  | sl hb => intro u h; cases h with
    | fz h => exact (go (h.down hb)).flag
  | vw hb => intro u h; cases h with
    | fz h => exact (go (h.down hb)).flagv
  | @mu b' id off n k ob cs' ho hlive hg hfit hl _ ih =>
    intro u h
    rcases (RV.c h).muI with ⟨rfl, rfl, rfl, -, hgh⟩ | ⟨cap, rfl, hid, hn, hs, hm, hgh⟩
    · have : cs' = [] := List.eq_nil_of_length_eq_zero (by omega)
      subst this
      exact .nil
    · have hsl : (sub ob.cs off (n * k)).length = n * k := sub_length hfit
      obtain ⟨us, hul, hus⟩ := choose_list (cs := sub ob.cs off (n * k)) (p := fun j c u => m.w.cell? ⟨(m.μ id).block, (m.μ id).base + off + j, none⟩ = some u ∧ R m c u) (fun j c hj => by
        obtain ⟨-, hg⟩ := sub_get hj
        obtain ⟨u, h1, h2⟩ := hS.cell ho hlive hg
        exact ⟨u, by rw [Nat.add_assoc]; exact h1, h2⟩)
      obtain ⟨-, -, -, -, -, -, hBb⟩ := hS.ob id ob ho hlive hgh
      refine .sl (fun j => us.getD j default) hn hm hl (fun _ => ⟨rfl, hG id ob ho hlive hgh hg, fun h => Nat.le_trans (hB h) hBb⟩) (fun j c hj => ?_) (fun j c' hj => ?_)
      · have hlt := (List.getElem?_eq_some_iff.1 hj).1
        obtain ⟨u, h1, h2, h3⟩ := hus j _ (List.getElem?_eq_getElem (by omega))
        rw [hw]
        simpa [List.getD, h1] using h2
      · have hlt := (List.getElem?_eq_some_iff.1 hj).1
        obtain ⟨u, h1, h2, h3⟩ := hus j _ (List.getElem?_eq_getElem (by omega))
        have := ih j _ _ (List.getElem?_eq_getElem (by omega)) hj h3
        simpa [List.getD, h1] using this
  | @pt b' id off ob cs' ho hlive hg hl _ ih =>
    intro u h
    obtain ⟨rfl, hid, hgh⟩ := (RV.c h).ptI
    obtain ⟨us, hul, hus⟩ := choose_list (cs := ob.cs) (p := fun j c u => m.w.cell? ⟨(m.μ id).block, (m.μ id).base + j, none⟩ = some u ∧ R m c u) (fun j c hj => hS.cell ho hlive hj)
    obtain ⟨-, -, -, -, -, -, hBb⟩ := hS.ob id ob ho hlive hgh
    refine .vw (fun j => us.getD j default) ⟨hG id ob ho hlive hgh hg, fun h => Nat.le_trans (hB h) hBb⟩ (fun j c hj => ?_) (fun j c' hj => ?_)
    · have hlt := (List.getElem?_eq_some_iff.1 hj).1
      obtain ⟨u, h1, h2, h3⟩ := hus j _ (List.getElem?_eq_getElem (by omega))
      rw [hw]
      simpa [List.getD, h1] using h2
    · have hlt := (List.getElem?_eq_some_iff.1 hj).1
      obtain ⟨u, h1, h2, h3⟩ := hus j _ (List.getElem?_eq_getElem (by omega))
      have := ih j _ _ (List.getElem?_eq_getElem (by omega)) hj h3
      simpa [List.getD, h1] using this

/-- What a cell is seen as by a callee: frozen, for the time of the call. -/
inductive Vw (H : List Ob) : C → C → Prop
  | dn {c c' : C} (h : Dn false H (fun _ => True) c c') (ho : c'.own = false) : Vw H c c'
  | fn {g : FuncId} {cs cs' : List C} (hl : cs'.length = cs.length) (hc : ∀ (j : Nat) (c c' : C), cs[j]? = some c → cs'[j]? = some c' → Vw H c c') : Vw H (.fn g cs) (.fn g cs')

/-- The block of a live object, or one that is frozen. -/
def seen (m : Mem) (H : List Ob) (b : Nat) : Prop := m.F b ∨ ∃ (id : Nat) (o : Ob), H[id]? = some o ∧ o.live = true ∧ (m.μ id).gh = false ∧ (m.μ id).block = b

/-- The memory as a callee sees it. -/
def within (m : Mem) (H : List Ob) : Mem := ⟨m.w, seen m H, m.w.heap.size, 0, m.μ⟩

theorem R.view {G : Glob} {m : Mem} {H : List Ob} (hS : Sim G m H) {c c' : C} (hv : Vw H c c') : ∀ {u : Value}, R m c u → R (within m H) c' u := by
  induction hv with
  | dn h ho =>
    intro u hr
    refine .fz ?_
    rw [ho]
    exact hr.dn hS (m' := within m H) rfl (fun b hb _ => Or.inl hb) (fun id ob h1 h2 h3 _ => Or.inr ⟨id, ob, h1, h2, h3, rfl⟩) (fun h => by cases h) h
  | fn hl _ ih =>
    intro u h
    cases h with
    | fz h => cases h
    | func us hl' hw hr =>
      refine .func us (by omega) (fun j c' hj => ?_) (fun j c' hj => ?_)
      · have hlt := (List.getElem?_eq_some_iff.1 hj).1
        exact hw j _ (List.getElem?_eq_getElem (by omega))
      · have hlt := (List.getElem?_eq_some_iff.1 hj).1
        exact ih j _ _ (List.getElem?_eq_getElem (by omega)) hj (hr j _ (List.getElem?_eq_getElem (by omega)))

/-- A slot, seen so. -/
inductive VwV (H : List Ob) : V → V → Prop
  | c {x y : C} (h : Vw H x y) : VwV H (.c x) (.c y)
  | agg {cs cs' : List C} (hl : cs'.length = cs.length) (hc : ∀ (j : Nat) (c c' : C), cs[j]? = some c → cs'[j]? = some c' → Vw H c c') : VwV H (.agg cs) (.agg cs')
  | any {v : V} : VwV H v .any

theorem RV.view {G : Glob} {m : Mem} {H : List Ob} (hS : Sim G m H) {c c' : V} (hv : VwV H c c') {u : Value} (h : RV m c u) : RV (within m H) c' u := by
  cases hv with
  | c hv => exact .c (h.cell.view hS hv)
  | agg hl hc =>
    obtain ⟨arr, rfl, h1, h2⟩ := h.aggI
    refine .agg (by omega) fun j c' hj => ?_
    have hlt := (List.getElem?_eq_some_iff.1 hj).1
    obtain ⟨u, g1, g2⟩ := h2 j _ (List.getElem?_eq_getElem (by omega))
    exact ⟨u, g1, g2.view hS (hc j _ _ (List.getElem?_eq_getElem (by omega)) hj)⟩
  | any => exact .any

/-- All of a value's memory is new. -/
def ownC : C → Bool
  | .v _ => true
  | .f _ _ => true
  | .any => true
  | .sl b _ _ _ => b
  | .vw b _ _ => b
  | _ => false
def ownV1 : V → Bool
  | .c x => ownC x
  | .agg cs => cs.all ownC
  | .any => true
  | .tup _ => false
def ownV : V → Bool
  | .tup vs => vs.all ownV1
  | v => ownV1 v

theorem R.own {m m' : Mem} (hw : m'.w = m.w) (hB : m'.B ≤ m.B) (hF : ∀ b, m.F b → m.B ≤ b → m'.F b) {c : C} (h : ownC c = true) {u : Value} (hr : R m c u) : R m' c u := by
  cases hr with
  | fz hr =>
    cases c with
    | v x => cases hr with | v h => exact .v h
    | f k x => cases hr with
      | fs h1 => exact .fs h1
      | fn h1 => exact .fn h1
    | any => cases hr with | any h => exact .any h
    | sl b n k cs =>
      have hb : b = true := h
      subst hb
      exact .fz (RF.go (o := true) (fun b _ j => by rw [hw]) (fun b h1 h2 => hF b h1 (h2 rfl)) (fun _ => hB) hr)
    | vw b cs off =>
      have hb : b = true := h
      subst hb
      exact .fz (RF.go (o := true) (fun b _ j => by rw [hw]) (fun b h1 h2 => hF b h1 (h2 rfl)) (fun _ => hB) hr)
    | _ => cases h
  | _ => cases h
theorem RV.own1 {m m' : Mem} (hw : m'.w = m.w) (hB : m'.B ≤ m.B) (hF : ∀ b, m.F b → m.B ≤ b → m'.F b) {v : V} (h : ownV1 v = true) {u : Value} (hr : RV m v u) : RV m' v u := by
  cases v with
  | c x => exact .c (hr.cell.own hw hB hF h)
  | agg cs =>
    obtain ⟨arr, rfl, h1, h2⟩ := hr.aggI
    exact .agg h1 fun j c hj => let ⟨u, g1, g2⟩ := h2 j c hj; ⟨u, g1, g2.own hw hB hF (List.all_eq_true.1 h c (List.mem_of_getElem? hj))⟩
  | any => exact .any
  | tup vs => cases h
theorem RV.own {m m' : Mem} (hw : m'.w = m.w) (hB : m'.B ≤ m.B) (hF : ∀ b, m.F b → m.B ≤ b → m'.F b) {v : V} (h : ownV v = true) {u : Value} (hr : RV m v u) : RV m' v u := by
  cases v with
  | tup vs =>
    cases hr with
    | tup us hl hw' hr => exact .tup us hl hw' fun j v hj => (hr j v hj).own1 hw hB hF (List.all_eq_true.1 h v (List.mem_of_getElem? hj))
  | c x => exact RV.own1 (v := .c x) hw hB hF h hr
  | agg cs => exact RV.own1 (v := .agg cs) hw hB hF h hr
  | any => exact .any

/-- The views of a call's arguments. -/
def Views (H : List Ob) (args args' : List V) : Prop := args'.length = args.length ∧ ∀ (j : Nat) (v v' : V), args[j]? = some v → args'[j]? = some v' → VwV H v v'
theorem Views.nil {H : List Ob} : Views H [] [] := ⟨rfl, fun j v v' h => by simp at h⟩
theorem Views.cons {H : List Ob} {v v' : V} {vs vs' : List V} (h : VwV H v v') (hs : Views H vs vs') : Views H (v :: vs) (v' :: vs') := by
  refine ⟨by simp [hs.1], fun j x x' hj hj' => ?_⟩
  cases j with
  | zero => simp at hj hj'; subst hj hj'; exact h
  | succ j => exact hs.2 j x x' (by simpa using hj) (by simpa using hj')

theorem RVs.view {G : Glob} {m : Mem} {H : List Ob} (hS : Sim G m H) {args args' : List V} (hv : Views H args args') {arr : Array Value} (h : RVs m args arr) : RVs (within m H) args' arr := by
  refine ⟨by rw [h.1, hv.1], fun j v' hj => ?_⟩
  have hlt := (List.getElem?_eq_some_iff.1 hj).1
  have hlt' : j < args.length := by rw [← hv.1]; exact hlt
  obtain ⟨u, h1, h2⟩ := h.2 j _ (List.getElem?_eq_getElem hlt')
  exact ⟨u, h1, h2.view hS (hv.2 j _ _ (List.getElem?_eq_getElem hlt') hj)⟩

/-- A call on data, in the midst of objects: they stay as they are. -/
def PCall (X : Cx) (H : List Ob) (g : FuncId) (args : List V) (r : V) : Prop := ∃ args', Views H args args' ∧ PureC X g args' r ∧ ownV r = true

theorem CallC.of_pure {X : Cx} {H : List Ob} {g : FuncId} {args : List V} {r : V} (h : PCall X H g args r) {Q : V → List Ob → Prop} (hQ : Q r H) : CallC X g args H Q := by
  obtain ⟨args', hv, hp, ho⟩ := h
  intro m arr hS hr
  have hS0 : Sim X.G (within m H) [] := by
    refine ⟨rfl, fun b hb => ?_, Nat.le_refl _, fun id hid => absurd hid (Nat.not_lt_zero _), fun id o ho => by simp at ho, fun id o ho => by simp at ho, fun i j oi oj hi => by simp at hi, fun g hg => ?_⟩
    · rcases hb with hb | ⟨id, o, ho, hl, hg, rfl⟩
      · exact hS.lo b hb
      · exact hS.blk id (Mem.N_lt hS ho) hg
    · obtain ⟨h1, h2⟩ := hS.gl g hg
      exact ⟨.inl h1, h2⟩
  refine (hp m.w (seen m H) m.μ arr hS0 (hr.view hS hv)).mono fun u w' ⟨hb, hru⟩ => ?_
  obtain ⟨g1, g2⟩ := hS.grow hb
  have hfin := RV.own (m := ⟨w', fun b => seen m H b ∨ (m.w.heap.size ≤ b ∧ b < w'.heap.size), m.w.heap.size, 0, m.μ⟩) (m' := { m with w := w', F := fun b => m.F b ∨ (m.w.heap.size ≤ b ∧ b < w'.heap.size) }) rfl hS.bs (fun b hF hB => ?_) ho hru
  · exact ⟨_, r, H, rfl, hQ, g1, g2, hfin⟩
  simp only at hF hB ⊢
  rcases hF with hF | hF
  · rcases hF with hF | ⟨id, o, ho', hl, hg, rfl⟩
    · exact .inl hF
    · exact absurd (hS.blk id (Mem.N_lt hS ho') hg) (by omega)
  · exact .inr hF

/-! ### Looking at the memory anew: objects numbered anew, some frozen, the nil slice taken for an object -/
/-- 'g': for each new object the old one, or none: the nil slice. -/
inductive Tr (H : List Ob) (g : List (Option Nat)) : C → C → Prop
  | dn {c c' : C} (h : Dn true H (fun id => ∀ i : Nat, g[i]? ≠ some (some id)) c c') : Tr H g c c'
  | sl {b b' : Bool} {n k : Nat} {cs : List C} (h : b' = true → b = true) : Tr H g (.sl b n k cs) (.sl b' n k cs)
  | vw {b b' : Bool} {off : Nat} {cs : List C} (h : b' = true → b = true) : Tr H g (.vw b cs off) (.vw b' cs off)
  | pt {id off i : Nat} (h : g[i]? = some (some id)) : Tr H g (.pt id off) (.pt i off)
  | mu {id off n k i : Nat} (h : g[i]? = some (some id)) : Tr H g (.mu id off n k) (.mu i off n k)
  | nil {i k : Nat} (h : g[i]? = some none) : Tr H g (.v (.slice none 0 0)) (.mu i 0 0 k)
  | fn {f : FuncId} {cs cs' : List C} (hl : cs'.length = cs.length) (hc : ∀ (j : Nat) (c c' : C), cs[j]? = some c → cs'[j]? = some c' → Tr H g c c') : Tr H g (.fn f cs) (.fn f cs')

inductive TrV (H : List Ob) (g : List (Option Nat)) : V → V → Prop
  | c {x y : C} (h : Tr H g x y) : TrV H g (.c x) (.c y)
  | agg {cs cs' : List C} (hl : cs'.length = cs.length) (hc : ∀ (j : Nat) (c c' : C), cs[j]? = some c → cs'[j]? = some c' → Tr H g c c') : TrV H g (.agg cs) (.agg cs')
  | tup {vs vs' : List V} (hl : vs'.length = vs.length) (hc : ∀ (j : Nat) (v v' : V), vs[j]? = some v → vs'[j]? = some v' → TrV H g v v') : TrV H g (.tup vs) (.tup vs')
  | any {v : V} : TrV H g v .any

def μturn (m : Mem) (g : List (Option Nat)) (i : Nat) : Pl := match g[i]? with
  | some (some id) => m.μ id
  | _ => ⟨0, 0, 0, true⟩

/-- The memory, looked at anew. -/
def turned (m : Mem) (H : List Ob) (g : List (Option Nat)) : Mem :=
  ⟨m.w, fun b => m.F b ∨ ∃ (id : Nat) (o : Ob), H[id]? = some o ∧ o.live = true ∧ (m.μ id).gh = false ∧ (∀ i : Nat, g[i]? ≠ some (some id)) ∧ (m.μ id).block = b, m.B, g.length, μturn m g⟩

theorem R.turn {G : Glob} {m : Mem} {H : List Ob} (hS : Sim G m H) {g : List (Option Nat)} {c c' : C} (h : Tr H g c c') : ∀ {u : Value}, R m c u → R (turned m H g) c' u := by
  have go : ∀ {o : Bool} {c : C} {u : Value}, RF m o c u → RF (turned m H g) o c u := fun h => RF.go (m := m) (m' := turned m H g) (fun b _ j => rfl) (fun b hb _ => Or.inl hb) (fun _ => Nat.le_refl _) h
  have hlt : ∀ {i : Nat} {x : Option Nat}, g[i]? = some x → i < g.length := fun h => (List.getElem?_eq_some_iff.1 h).1
  induction h with
  | dn h =>
    intro u hr
    exact .fz ((hr.dn hS (m' := turned m H g) rfl (fun b hb _ => .inl hb) (fun id ob h1 h2 h3 h4 => .inr ⟨id, ob, h1, h2, h3, h4, rfl⟩) (fun _ => Nat.le_refl _) h).down (fun _ => rfl))
  | sl hb => intro u hr; cases hr with
    | fz hr => exact .fz (go (hr.down hb)).flag
  | vw hb => intro u hr; cases hr with
    | fz hr => exact .fz (go (hr.down hb)).flagv
  | @pt id off i h =>
    intro u hr
    obtain ⟨rfl, hid, hg⟩ := (RV.c hr).ptI
    have hμ : μturn m g i = m.μ id := by unfold μturn; rw [h]
    have := R.pt (m := turned m H g) (id := i) (off := off) (hlt h) (by show (μturn m g i).gh = false; rw [hμ]; exact hg)
    simpa [turned, hμ] using this
  | @mu id off n k i h =>
    intro u hr
    have hμ : μturn m g i = m.μ id := by unfold μturn; rw [h]
    rcases (RV.c hr).muI with ⟨rfl, rfl, rfl, hid, hg⟩ | ⟨cap, rfl, hid, hn, hs, hm, hg⟩
    · exact .mn (hlt h) (by show (μturn m g i).gh = true; rw [hμ]; exact hg)
    · have := R.mu (m := turned m H g) (id := i) (off := off) (n := n) (k := k) (cap := cap) (hlt h) (by show (μturn m g i).gh = false; rw [hμ]; exact hg) hn (by show (μturn m g i).base + off + cap * k ≤ (μturn m g i).size; rw [hμ]; exact hs) hm
      simpa [turned, hμ] using this
  | @nil i k h =>
    intro u hr
    rw [hr.val]
    exact .mn (hlt h) (by show (μturn m g i).gh = true; unfold μturn; rw [h])
  | fn hl _ ih =>
    intro u h
    cases h with
    | fz h => cases h
    | func us hl' hw hr =>
      refine .func us (by omega) (fun j c' hj => ?_) (fun j c' hj => ?_)
      · have hlt := (List.getElem?_eq_some_iff.1 hj).1
        exact hw j _ (List.getElem?_eq_getElem (by omega))
      · have hlt := (List.getElem?_eq_some_iff.1 hj).1
        exact ih j _ _ (List.getElem?_eq_getElem (by omega)) hj (hr j _ (List.getElem?_eq_getElem (by omega)))

theorem RV.turn {G : Glob} {m : Mem} {H : List Ob} (hS : Sim G m H) {g : List (Option Nat)} {v v' : V} (h : TrV H g v v') : ∀ {u : Value}, RV m v u → RV (turned m H g) v' u := by
  induction h with
  | c h => intro u hr; exact .c (hr.cell.turn hS h)
  | agg hl hc =>
    intro u hr
    obtain ⟨arr, rfl, h1, h2⟩ := hr.aggI
    refine .agg (by omega) fun j c' hj => ?_
    have hlt := (List.getElem?_eq_some_iff.1 hj).1
    obtain ⟨u, g1, g2⟩ := h2 j _ (List.getElem?_eq_getElem (by omega))
    exact ⟨u, g1, g2.turn hS (hc j _ _ (List.getElem?_eq_getElem (by omega)) hj)⟩
  | tup hl hc ih =>
    intro u hr
    cases hr with
    | tup us hl' hw' hr =>
      refine .tup us (by omega) (fun j v hj => ?_) (fun j v hj => ?_)
      · have hlt := (List.getElem?_eq_some_iff.1 hj).1
        exact hw' j _ (List.getElem?_eq_getElem (by omega))
      · have hlt := (List.getElem?_eq_some_iff.1 hj).1
        exact ih j _ _ (List.getElem?_eq_getElem (by omega)) hj (hr j _ (List.getElem?_eq_getElem (by omega)))
  | any => intro u hr; exact .any

/-- What is asked of the objects: the first N0 stay; each other one is an old one, or the nil slice. -/
structure Turns (N0 : Nat) (H : List Ob) (g : List (Option Nat)) (H' : List Ob) : Prop where
  len : g.length = H'.length
  fix : ∀ i, i < N0 → g[i]? = some (some i)
  ob : ∀ (i id : Nat) (o' : Ob), H'[i]? = some o' → o'.live = true → g[i]? = some (some id) → ∃ o, H[id]? = some o ∧ o.live = true ∧ o.t = o'.t ∧ o'.cs.length ≤ o.cs.length ∧ ∀ (j : Nat) (c c' : C), o.cs[j]? = some c → o'.cs[j]? = some c' → Tr H g c c'
  nil : ∀ (i : Nat) (o' : Ob), H'[i]? = some o' → o'.live = true → g[i]? = some none → o'.cs = []
  nd : ∀ (i j id : Nat), g[i]? = some (some id) → g[j]? = some (some id) → i = j
  old : ∀ (i id : Nat), g[i]? = some (some id) → id < H.length

theorem Sim.turn {G : Glob} {m0 m : Mem} {H H' : List Ob} {g : List (Option Nat)} (hS : Sim G m H) (hE : Ext m0 m) (hT : Turns m0.N H g H') : Sim G (turned m H g) H' ∧ Ext m0 (turned m H g) := by
  have hμ : ∀ {i id : Nat}, g[i]? = some (some id) → (turned m H g).μ i = m.μ id := fun {i id} h => by show μturn m g i = m.μ id; unfold μturn; rw [h]
  have hreal : ∀ {i : Nat}, ((turned m H g).μ i).gh = false → ∃ id, g[i]? = some (some id) := fun {i} h => by
    have h' : (μturn m g i).gh = false := h
    unfold μturn at h'
    cases hgi : g[i]? with
    | none => rw [hgi] at h'; cases h'
    | some x =>
      cases x with
      | none => rw [hgi] at h'; cases h'
      | some id => exact ⟨id, rfl⟩
  refine ⟨⟨hT.len, fun b hb => ?_, hS.bs, fun i hi hg => ?_, fun i o' ho' hl' hg => ?_, fun i o' ho' hl' hg => ?_, fun i j oi oj hi hj l1 l2 q1 q2 hne => ?_, fun x hx => ?_⟩, ⟨hE.os, hE.tape, hE.output, hE.size, hE.keep, fun b hb => .inl (hE.F b hb), hE.B, ?_, fun i hi => ?_, fun b hb => ?_⟩⟩
  · rcases hb with hb | ⟨id, o, h1, h2, h3, h4, rfl⟩
    · exact hS.lo b hb
    · exact hS.blk id (Mem.N_lt hS h1) h3
  · obtain ⟨id, hid⟩ := hreal hg
    rw [hμ hid] at hg ⊢
    exact hS.blk id (by rw [hS.N]; exact hT.old i id hid) hg
  · obtain ⟨id, hid⟩ := hreal hg
    rw [hμ hid] at hg ⊢
    obtain ⟨o, h1, h2, h3, h4, h5⟩ := hT.ob i id o' ho' hl' hid
    obtain ⟨arr, k1, k2, k3, k4, k5, k6⟩ := hS.ob id o h1 h2 hg
    refine ⟨arr, by rw [← h3]; exact k1, k2, by omega, fun j c' hj => ?_, ?_, k6⟩
    · have hlt := (List.getElem?_eq_some_iff.1 hj).1
      obtain ⟨u, hu, hr⟩ := k4 j _ (List.getElem?_eq_getElem (by omega))
      exact ⟨u, hu, hr.turn hS (h5 j _ c' (List.getElem?_eq_getElem (by omega)) hj)⟩
    · rintro (hF | ⟨id2, o2, a1, a2, a3, a4, a5⟩)
      · exact k5 hF
      · by_cases he : id2 = id
        · subst he; exact a4 i hid
        · exact hS.inj id2 id o2 o a1 h1 a2 h2 a3 hg he a5
  · cases hgi : g[i]? with
    | none =>
      have := (List.getElem?_eq_some_iff.1 ho').1
      rw [← hT.len] at this
      rw [List.getElem?_eq_getElem this] at hgi
      cases hgi
    | some x =>
      cases x with
      | none => exact hT.nil i o' ho' hl' hgi
      | some id =>
        rw [hμ hgi] at hg
        obtain ⟨o, h1, h2, h3, h4, h5⟩ := hT.ob i id o' ho' hl' hgi
        have := hS.gho id o h1 h2 hg
        rw [this] at h4
        exact List.eq_nil_of_length_eq_zero (by simpa using h4)
  · obtain ⟨id, hid⟩ := hreal q1
    obtain ⟨jd, hjd⟩ := hreal q2
    rw [hμ hid] at q1 ⊢
    rw [hμ hjd] at q2 ⊢
    obtain ⟨o, h1, h2, -⟩ := hT.ob i id oi hi l1 hid
    obtain ⟨o2, h3, h4, -⟩ := hT.ob j jd oj hj l2 hjd
    refine hS.inj id jd o o2 h1 h3 h2 h4 q1 q2 fun he => hne ?_
    subst he
    exact hT.nd i j id hid hjd
  · obtain ⟨h1, h2⟩ := hS.gl x hx
    exact ⟨.inl h1, h2⟩
  · show m0.N ≤ g.length
    by_cases h0 : m0.N = 0
    · omega
    · have := hT.fix (m0.N - 1) (by omega)
      have := (List.getElem?_eq_some_iff.1 this).1
      omega
  · rw [hμ (hT.fix i hi)]
    exact hE.μ i hi
  · rcases hb with hb | ⟨id, o, h1, h2, h3, h4, rfl⟩
    · exact hE.Fn b hb
    · obtain ⟨-, -, -, -, -, -, k6⟩ := hS.ob id o h1 h2 h3
      exact .inr (by rw [← hE.B]; exact k6)
end Go.VL
