/- Calls that answer live slices, and calls that write into one. Over any program. -/
import Derived.Test.YtbejolinihbokaaV27
namespace Go.VL
open Go.RowKit

theorem CallC.mono {X : Cx} {g : FuncId} {args : List V} {H : List Ob} {Q Q' : V → List Ob → Prop} (h : CallC X g args H Q) (hq : ∀ r H', Q r H' → Q' r H') : CallC X g args H Q' := fun m arr hS hr =>
  (h m arr hS hr).mono fun _u _w' ⟨m', r, H', h1, h2, h3⟩ => ⟨m', r, H', h1, hq r H' h2, h3⟩
/-- A call on data alone that answers r, with the live objects H1. -/
def LiveC (X : Cx) (g : FuncId) (args : List V) (r : V) (H1 : List Ob) : Prop := CallC X g args [] fun r' H' => r' = r ∧ H' = H1
/-- What is answered, looked at anew. -/
def LAns (r : V) (H1 : List Ob) (r0 : V) (H : List Ob) : Prop := ∃ g, Turns 0 H g H1 ∧ TrV H g r0 r
theorem CallC.turned {X : Cx} {g : FuncId} {args : List V} {H0 : List Ob} {P : V → List Ob → Prop} {N : Nat} (hN : H0.length = N) (h : CallC X g args H0 fun r0 H => ∃ gg H1 r1, Turns N H gg H1 ∧ TrV H gg r0 r1 ∧ P r1 H1) : CallC X g args H0 P := fun m arr hS hr => by
  refine (h m arr hS hr).mono fun u w' ⟨m', r0, H', h1, ⟨gg, H1, r1, hT, hv, hP⟩, hS', hE, hrv⟩ => ?_
  have hT' : Turns m.N H' gg H1 := by rw [hS.N, hN]; exact hT
  obtain ⟨k1, k2⟩ := hS'.turn hE hT'
  exact ⟨VL.turned m' H' gg, r1, H1, h1, hP, k1, k2, hrv.turn hS' hv⟩
theorem LiveC.of {X : Cx} {g : FuncId} {args : List V} {r : V} {H1 : List Ob} (h : CallC X g args [] (fun r0 H => LAns r H1 r0 H)) : LiveC X g args r H1 :=
  CallC.turned (N := 0) rfl (h.mono fun _r0 _H ⟨gg, h1, h2⟩ => ⟨gg, H1, r, h1, h2, rfl, rfl⟩)
theorem LiveC.of_body {X : Cx} {D : DR} (hD : DrawOk X D) {g : FuncId} {fn : Func} {c : Code} (hen : Enters X g) (hf : X.P.funcs[g]? = some fn) (hb : fn.body = some c) {args : List V} {r : V} {H1 : List Ob} {n : Nat} (hn : args.length + (fn.ntmps - args.length) = n)
    (h : vwp X n 0 D c (retQ X fn.results.toList (fun r0 H => LAns r H1 r0 H)) (slots args) []) : LiveC X g args r H1 :=
  .of (.of_body hD hen hf hb hn h)
/-- Live answers, frozen. -/
theorem LiveC.pure {X : Cx} {g : FuncId} {args : List V} {r r' : V} {H1 : List Ob} (h : LiveC X g args r H1) (hr : TrV H1 [] r r') : PureC X g args r' :=
  .of_call (h.mono fun r0 H ⟨h1, h2⟩ => by rw [h1, h2]; exact hr)
theorem l_ans {r0 r : V} {H H1 : List Ob} (g : List (Option Nat)) (hn : nodupO g = true) (hlt : (g.all fun x => match x with | some i => Nat.blt i H.length | none => true) = true) (ho : TurnO H g g H1) (hr : TrV H g r0 r) : LAns r H1 r0 H := by
  obtain ⟨gg, hT, -⟩ := turn (N0 := 0) (sl := fun _ => .any) (l := []) g hn rfl hlt ho trivial
  obtain ⟨h1, h2, h3⟩ := ho.spec
  refine ⟨g, ⟨h1, fun i hi => absurd hi (Nat.not_lt_zero _), fun i id o' hi hl hg => ?_, fun i o' hi hl hg => h3 i o' hi hg, nodupO_spec hn, fun i id hi => ?_⟩, hr⟩
  · obtain ⟨cs, k1, k2⟩ := h2 i id o' hi hg
    obtain ⟨k3, k4⟩ := k2.spec
    exact ⟨_, k1, rfl, rfl, Nat.le_of_eq k3, k4⟩
  · have := List.all_eq_true.1 hlt _ (List.mem_of_getElem? hi)
    exact Nat.le_of_ble_eq_true this

/-- A cell of an answer: data of its own, or one of the answer's objects. -/
def ansC : C → Bool
  | .mu _ _ _ _ => true
  | .pt _ _ => true
  | c => ownC c
def ansV1 : V → Bool
  | .c x => ansC x
  | .agg cs => cs.all ansC
  | .any => true
  | .tup _ => false
def ansV : V → Bool
  | .tup vs => vs.all ansV1
  | v => ansV1 v
/-- Objects numbered on from N. -/
def shC (N : Nat) : C → C
  | .mu id off n k => .mu (N + id) off n k
  | .pt id off => .pt (N + id) off
  | c => c
def shV1 (N : Nat) : V → V
  | .c x => .c (shC N x)
  | .agg cs => .agg (cs.map (shC N))
  | v => v
def shV (N : Nat) : V → V
  | .tup vs => .tup (vs.map (shV1 N))
  | v => shV1 N v

section
variable {m m' : Mem} {N : Nat} (hw : m'.w = m.w) (hB : m'.B ≤ m.B) (hF : ∀ b, m.F b → m.B ≤ b → m'.F b) (hN : m'.N = N + m.N) (hμ : ∀ i, m'.μ (N + i) = m.μ i)
include hw hB hF hN hμ
theorem R.shift {c : C} (h : ansC c = true) {u : Value} (hr : R m c u) : R m' (shC N c) u := by
  cases c with
  | mu id off n k =>
    rcases (RV.c hr).muI with ⟨rfl, rfl, rfl, hid, hg⟩ | ⟨cap, rfl, hid, hn, hs, hm, hg⟩
    · exact .mn (by omega) (by rw [hμ]; exact hg)
    · have := R.mu (m := m') (id := N + id) (off := off) (n := n) (k := k) (cap := cap) (by omega) (by rw [hμ]; exact hg) hn (by rw [hμ]; exact hs) hm
      rw [hμ] at this
      exact this
  | pt id off =>
    obtain ⟨rfl, hid, hg⟩ := (RV.c hr).ptI
    have := R.pt (m := m') (id := N + id) (off := off) (by omega) (by rw [hμ]; exact hg)
    rw [hμ] at this
    exact this
  | v x => exact R.own (c := .v x) hw hB hF h hr
  | f k x => exact R.own (c := .f k x) hw hB hF h hr
  | sl b n k cs => exact R.own (c := .sl b n k cs) hw hB hF h hr
  | vw b cs off => exact R.own (c := .vw b cs off) hw hB hF h hr
  | fn f cs => exact R.own (c := .fn f cs) hw hB hF h hr
  | any => exact R.own (c := .any) hw hB hF h hr
theorem RV.shift1 {v : V} (h : ansV1 v = true) {u : Value} (hr : RV m v u) : RV m' (shV1 N v) u := by
  cases v with
  | c x => exact .c (hr.cell.shift hw hB hF hN hμ h)
  | agg cs =>
    obtain ⟨arr, rfl, h1, h2⟩ := hr.aggI
    refine .agg (by simpa using h1) fun j c hj => ?_
    rw [List.getElem?_map, Option.map_eq_some_iff] at hj
    obtain ⟨c', hj, rfl⟩ := hj
    obtain ⟨u, g1, g2⟩ := h2 j c' hj
    exact ⟨u, g1, g2.shift hw hB hF hN hμ (List.all_eq_true.1 h c' (List.mem_of_getElem? hj))⟩
  | any => exact .any
  | tup vs => cases h
theorem RV.shift {v : V} (h : ansV v = true) {u : Value} (hr : RV m v u) : RV m' (shV N v) u := by
  cases v with
  | tup vs =>
    cases hr with
    | tup us hl hw' hr =>
      refine .tup us (by simpa using hl) (fun j v hj => ?_) fun j v hj => ?_
      · rw [List.getElem?_map, Option.map_eq_some_iff] at hj
        obtain ⟨v', hj, rfl⟩ := hj
        exact hw' j v' hj
      · rw [List.getElem?_map, Option.map_eq_some_iff] at hj
        obtain ⟨v', hj, rfl⟩ := hj
        exact (hr j v' hj).shift1 hw hB hF hN hμ (List.all_eq_true.1 h v' (List.mem_of_getElem? hj))
  | c x => exact RV.shift1 hw hB hF hN hμ (v := .c x) h hr
  | agg cs => exact RV.shift1 hw hB hF hN hμ (v := .agg cs) h hr
  | any => exact .any
end

theorem Sim.within {G : Glob} {m : Mem} {H : List Ob} (hS : Sim G m H) : Sim G (within m H) [] := by
  refine ⟨rfl, fun b hb => ?_, Nat.le_refl _, fun id hid => absurd hid (Nat.not_lt_zero _), fun id o ho => by simp at ho, fun id o ho => by simp at ho, fun i j oi oj hi => by simp at hi, fun g hg => ?_⟩
  · rcases hb with hb | ⟨id, o, ho, hl, hg, rfl⟩
    · exact hS.lo b hb
    · exact hS.blk id (Mem.N_lt hS ho) hg
  · obtain ⟨h1, h2⟩ := hS.gl g hg
    exact ⟨.inl h1, h2⟩

/-- A call that answers live objects, in the midst of others. -/
theorem CallC.of_live {X : Cx} {H : List Ob} {g : FuncId} {args args' : List V} {r : V} {H1 : List Ob} (hp : LiveC X g args' r H1) (hv : Views H args args') (ha : ansV r = true) (hc : ∀ o ∈ H1, ∀ c ∈ o.cs, ansC c = true) {Q : V → List Ob → Prop} (hQ : Q (shV H.length r) (H ++ H1.map fun o => ⟨o.cs.map (shC H.length), o.t, o.live⟩)) : CallC X g args H Q := by
  intro m arr hS hr
  refine (hp (within m H) arr hS.within (hr.view hS hv)).mono fun u w' ⟨m1, r', H', hmw, ⟨e1, e2⟩, hS1, hE1, hru⟩ => ?_
  subst e1 e2 hmw
  have hBs : m1.B = m.w.heap.size := hE1.B
  have hkeep : ∀ b, b < m.w.heap.size → m1.w.heap[b]? = m.w.heap[b]? := fun b hb => hE1.keep b (.inr hb)
  let m2 : Mem := ⟨m1.w, fun b => m.F b ∨ (m1.F b ∧ m.w.heap.size ≤ b), m.B, m.N + m1.N, fun i => if i < m.N then m.μ i else m1.μ (i - m.N)⟩
  have hμ1 : ∀ i, i < m.N → m2.μ i = m.μ i := fun i hi => if_pos hi
  have hμ2 : ∀ i, m2.μ (m.N + i) = m1.μ i := fun i => by
    show (if m.N + i < m.N then m.μ (m.N + i) else m1.μ (m.N + i - m.N)) = _
    rw [if_neg (by omega), Nat.add_sub_cancel_left]
  have hE : Ext m m2 := ⟨hE1.os, hE1.tape, hE1.output, hE1.size, fun b hb => hkeep b (hb.elim (hS.lo b) (fun h => Nat.lt_of_lt_of_le h hS.bs)), fun b hb => .inl hb, rfl, Nat.le_add_right _ _, hμ1, fun b hb => hb.imp id fun h => Nat.le_trans hS.bs h.2⟩
  have hsh : ∀ {c : C}, ansC c = true → ∀ {u : Value}, R m1 c u → R m2 (shC m.N c) u := fun hc => R.shift (m := m1) (m' := m2) rfl (by show m.B ≤ m1.B; rw [hBs]; exact hS.bs) (fun b h1 h2 => .inr ⟨h1, by rw [← hBs]; exact h2⟩) rfl hμ2 hc
  have hnb : ∀ (j : Nat) (o : Ob), H'[j]? = some o → o.live = true → (m1.μ j).gh = false → m.w.heap.size ≤ (m1.μ j).block := fun j o hj hl hg => by
    obtain ⟨-, -, -, -, -, -, h6⟩ := hS1.ob j o hj hl hg
    rw [← hBs]; exact h6
  have hget : ∀ {id : Nat} {o : Ob}, (H ++ H'.map fun o => (⟨o.cs.map (shC H.length), o.t, o.live⟩ : Ob))[id]? = some o → (id < m.N ∧ H[id]? = some o) ∨ ∃ j o', id = m.N + j ∧ H'[j]? = some o' ∧ o = ⟨o'.cs.map (shC m.N), o'.t, o'.live⟩ := fun {id o} h => by
    rw [hS.N]
    by_cases hlt : id < H.length
    · rw [List.getElem?_append_left hlt] at h
      exact .inl ⟨hlt, h⟩
    · rw [List.getElem?_append_right (by omega), List.getElem?_map, Option.map_eq_some_iff] at h
      obtain ⟨o', h1, rfl⟩ := h
      exact .inr ⟨id - H.length, o', by omega, h1, rfl⟩
  refine ⟨m2, _, _, rfl, hQ, ⟨?_, fun b hb => ?_, Nat.le_trans hS.bs hE1.size, fun id hid hg => ?_, fun id o ho hl hg => ?_, fun id o ho hl hg => ?_, fun i j oi oj hi hj l1 l2 q1 q2 hne => ?_, fun x hx => ?_⟩, hE, ?_⟩
  · show m.N + m1.N = _
    rw [hS.N, hS1.N, List.length_append, List.length_map]
  · rcases hb with hb | hb
    · exact Nat.lt_of_lt_of_le (hS.lo b hb) hE1.size
    · exact hS1.lo b hb.1
  · by_cases hlt : id < m.N
    · rw [hμ1 id hlt] at hg ⊢
      exact Nat.lt_of_lt_of_le (hS.blk id hlt hg) hE1.size
    · obtain ⟨j, rfl⟩ : ∃ j, id = m.N + j := ⟨id - m.N, by omega⟩
      rw [hμ2] at hg ⊢
      exact hS1.blk j (by have : m.N + j < m.N + m1.N := hid; omega) hg
  · rcases hget ho with ⟨hlt, ho2⟩ | ⟨j, o', rfl, ho2, rfl⟩
    · rw [hμ1 id hlt] at hg ⊢
      obtain ⟨arr, h1, h2, h3, h4, h5, h6⟩ := hS.ob id o ho2 hl hg
      have hblk := hS.blk id hlt hg
      refine ⟨arr, h1.eq (hkeep _ hblk), h2, h3, fun j c hj => ?_, ?_, h6⟩
      · obtain ⟨u, hu, hr⟩ := h4 j c hj
        exact ⟨u, hu, hr.ext hE⟩
      · rintro (hF | hF)
        · exact h5 hF
        · exact absurd hF.2 (by omega)
    · rw [hμ2] at hg ⊢
      obtain ⟨arr, h1, h2, h3, h4, h5, h6⟩ := hS1.ob j o' ho2 hl hg
      have hlo := hnb j o' ho2 hl hg
      refine ⟨arr, h1, h2, by simpa using h3, fun i c hi => ?_, ?_, Nat.le_trans hS.bs hlo⟩
      · rw [List.getElem?_map, Option.map_eq_some_iff] at hi
        obtain ⟨c', hi, rfl⟩ := hi
        obtain ⟨u, hu, hr⟩ := h4 i c' hi
        exact ⟨u, hu, hsh (hc o' (List.mem_of_getElem? ho2) c' (List.mem_of_getElem? hi)) hr⟩
      · rintro (hF | hF)
        · have := hS.lo _ hF; omega
        · exact h5 hF.1
  · rcases hget ho with ⟨hlt, ho2⟩ | ⟨j, o', rfl, ho2, rfl⟩
    · rw [hμ1 id hlt] at hg
      exact hS.gho id o ho2 hl hg
    · rw [hμ2] at hg
      have := hS1.gho j o' ho2 hl hg
      simp [this]
  · rcases hget hi with ⟨hlt, hi2⟩ | ⟨a, oa, rfl, hi2, rfl⟩ <;> rcases hget hj with ⟨hlt2, hj2⟩ | ⟨b, ob, rfl, hj2, rfl⟩
    · rw [hμ1 i hlt] at q1 ⊢; rw [hμ1 j hlt2] at q2 ⊢
      exact hS.inj i j oi oj hi2 hj2 l1 l2 q1 q2 hne
    · rw [hμ1 i hlt] at q1 ⊢; rw [hμ2] at q2 ⊢
      have h1 := hS.blk i hlt q1
      have h2 := hnb b ob hj2 l2 q2
      omega
    · rw [hμ2] at q1 ⊢; rw [hμ1 j hlt2] at q2 ⊢
      have h1 := hS.blk j hlt2 q2
      have h2 := hnb a oa hi2 l1 q1
      omega
    · rw [hμ2] at q1 q2 ⊢; rw [hμ2]
      exact hS1.inj a b oa ob hi2 hj2 l1 l2 q1 q2 (by omega)
  · obtain ⟨h1, h2⟩ := hS.gl x hx
    exact ⟨.inl h1, fun j y hj => ⟨(hE.cell (a := ⟨x.1, j, none⟩) h1).trans (h2.1 j y hj).1, (h2.1 j y hj).2⟩, h2.2.keep (hE.keep x.1 (.inl h1))⟩
  · rw [← hS.N]
    exact RV.shift (m := m1) (m' := m2) rfl (by show m.B ≤ m1.B; rw [hBs]; exact hS.bs) (fun b h1 h2 => .inr ⟨h1, by rw [← hBs]; exact h2⟩) rfl hμ2 ha hru

/-- A call that writes into the one object that it is given. -/
def MarkC (X : Cx) (g : FuncId) (n k : Nat) (t : TypeId) (cs : List C) (x : Value) (y : Value) (cs' : List C) : Prop :=
  CallC X g [.c (.mu 0 0 n k), .c (.v x)] [⟨cs, t, true⟩] fun r H => r = .c (.v y) ∧ H = [⟨cs', t, true⟩]
def MAns (t : TypeId) (y : Value) (cs' : List C) (r : V) (H : List Ob) : Prop := r = .c (.v y) ∧ ∃ H2, H = ⟨cs', t, true⟩ :: H2
theorem MarkC.of_body {X : Cx} {D : DR} (hD : DrawOk X D) {g : FuncId} {fn : Func} {c : Code} (hen : Enters X g) (hf : X.P.funcs[g]? = some fn) (hb : fn.body = some c) {n k : Nat} {t : TypeId} {cs cs' : List C} {x y : Value} (hsc : ∀ c ∈ cs', sc c = true) {q : Nat} (hn : 2 + (fn.ntmps - 2) = q)
    (h : vwp X q 1 D c (retQ X fn.results.toList (fun r H => MAns t y cs' r H)) (slots [.c (.mu 0 0 n k), .c (.v x)]) [⟨cs, t, true⟩]) : MarkC X g n k t cs x y cs' := by
  refine CallC.turned (N := 1) rfl (CallC.mono (CallC.of_body hD hen hf hb hn h) fun r0 H ⟨h1, H2, h2⟩ => ⟨[some 0], [⟨cs', t, true⟩], .c (.v y), ?_, by rw [h1]; exact tr_v, rfl, rfl⟩)
  subst h2
  obtain ⟨g, hT, -⟩ := turn (N0 := 1) (sl := fun _ => .any) (l := []) (H := ⟨cs', t, true⟩ :: H2) (H' := [⟨cs', t, true⟩]) [some 0] rfl rfl (by simp) ⟨⟨cs', rfl, .stay fun c hc => by
    have := hsc c hc
    cases c <;> first | rfl | cases this⟩, trivial⟩ trivial
  have hg : g = [some 0] := by
    have h1 := hT.len
    have h2 := hT.fix 0 (by omega)
    match g, h1 with
    | [a], _ => simp at h2; rw [h2]
  rw [hg] at hT
  exact hT
theorem R.sc {m m' : Mem} {c : C} (h : sc c = true) {u : Value} (hr : R m c u) : R m' c u := by
  cases hr with
  | fz hr =>
    cases c with
    | v x => cases hr with | v h => exact .v h
    | f k x => cases hr with
      | fs h1 => exact .fs h1
      | fn h1 => exact .fn h1
    | _ => cases h
  | _ => cases h
theorem CallC.of_mark {X : Cx} {H : List Ob} {g : FuncId} {id n k : Nat} {t : TypeId} {cs cs' : List C} {x y : Value} (hp : MarkC X g n k t cs x y cs') (ho : H[id]? = some ⟨cs, t, true⟩) (h1 : ∀ c ∈ cs, sc c = true) (h2 : ∀ c ∈ cs', sc c = true) (_hx : VL.plain x = true) {Q : V → List Ob → Prop} (hQ : Q (.c (.v y)) (H.set id ⟨cs', t, true⟩)) : CallC X g [.c (.mu id 0 n k), .c (.v x)] H Q := by
  intro m arr hS hr
  have hidN := Mem.N_lt hS ho
  let m1 : Mem := ⟨m.w, fun b => m.F b ∨ ∃ (i : Nat) (o : Ob), H[i]? = some o ∧ o.live = true ∧ (m.μ i).gh = false ∧ i ≠ id ∧ (m.μ i).block = b, m.B, 1, fun _ => m.μ id⟩
  have hS1 : Sim X.G m1 [⟨cs, t, true⟩] := by
    refine ⟨rfl, fun b hb => ?_, hS.bs, fun i _ hg => hS.blk id hidN hg, fun i o hi hl hg => ?_, fun i o hi hl hg => ?_, fun i j oi oj hi hj l1 l2 q1 q2 hne => ?_, fun z hz => ?_⟩
    · rcases hb with hb | ⟨i, o, a1, a2, a3, a4, rfl⟩
      · exact hS.lo b hb
      · exact hS.blk i (Mem.N_lt hS a1) a3
    · have hi0 : i = 0 := by have := (List.getElem?_eq_some_iff.1 hi).1; simpa using this
      subst hi0
      simp at hi
      subst hi
      obtain ⟨arr, k1, k2, k3, k4, k5, k6⟩ := hS.ob id _ ho rfl hg
      refine ⟨arr, k1, k2, k3, fun j c hj => ?_, ?_, k6⟩
      · obtain ⟨u, hu, hr⟩ := k4 j c hj
        exact ⟨u, hu, hr.sc (h1 c (List.mem_of_getElem? hj))⟩
      · rintro (hF | ⟨i, o, a1, a2, a3, a4, a5⟩)
        · exact k5 hF
        · exact hS.inj i id o _ a1 ho a2 rfl a3 hg a4 a5
    · have hi0 : i = 0 := by have := (List.getElem?_eq_some_iff.1 hi).1; simpa using this
      subst hi0
      simp at hi
      subst hi
      exact hS.gho id _ ho rfl hg
    · have a1 := (List.getElem?_eq_some_iff.1 hi).1
      have a2 := (List.getElem?_eq_some_iff.1 hj).1
      simp at a1 a2
      omega
    · obtain ⟨a1, a2⟩ := hS.gl z hz
      exact ⟨.inl a1, a2⟩
  have hr1 : RVs m1 [.c (.mu 0 0 n k), .c (.v x)] arr := by
    refine ⟨hr.1, fun j v hj => ?_⟩
    match j with
    | 0 =>
      simp at hj
      subst hj
      obtain ⟨u, a1, a2⟩ := hr.2 0 _ rfl
      refine ⟨u, a1, .c ?_⟩
      rcases a2.muI with ⟨rfl, rfl, -, b2, b3⟩ | ⟨cap, rfl, b2, b3, b4, b5, b6⟩
      · exact .mn (m := m1) (show (0 : Nat) < 1 by omega) b3
      · exact R.mu (m := m1) (id := 0) (off := 0) (show (0 : Nat) < 1 by omega) b6 b3 b4 b5
    | 1 =>
      simp at hj
      subst hj
      obtain ⟨u, a1, a2⟩ := hr.2 1 _ rfl
      exact ⟨u, a1, .c (a2.cell.sc rfl)⟩
    | j + 2 => simp at hj
  refine (hp m1 arr hS1 hr1).mono fun u w' ⟨m2, r', H', hmw, ⟨e1, e2⟩, hS2, hE2, hru⟩ => ?_
  subst e1 e2 hmw
  have hμ0 : m2.μ 0 = m.μ id := hE2.μ 0 (show (0 : Nat) < 1 by omega)
  let m' : Mem := ⟨m2.w, m.F, m.B, m.N, m.μ⟩
  have hE : Ext m m' := ⟨hE2.os, hE2.tape, hE2.output, hE2.size, fun b hb => hE2.keep b (hb.imp .inl fun h => h), fun b hb => hb, rfl, Nat.le_refl _, fun _ _ => rfl, fun b hb => .inl hb⟩
  have hget : ∀ {i : Nat} {o : Ob}, (H.set id ⟨cs', t, true⟩)[i]? = some o → (i = id ∧ o = ⟨cs', t, true⟩) ∨ (i ≠ id ∧ H[i]? = some o) := fun {i o} h => by
    by_cases he : i = id
    · subst he
      rw [List.getElem?_set_self (by have := (List.getElem?_eq_some_iff.1 ho).1; exact this)] at h
      simp at h
      exact .inl ⟨rfl, h.symm⟩
    · rw [List.getElem?_set_ne (fun h => he h.symm)] at h
      exact .inr ⟨he, h⟩
  have hob : ∀ {i : Nat} {o : Ob}, (H.set id ⟨cs', t, true⟩)[i]? = some o → o.live = true → ∃ o', H[i]? = some o' ∧ o'.live = true := fun {i o} h hl => by
    rcases hget h with ⟨rfl, rfl⟩ | ⟨-, h⟩
    · exact ⟨_, ho, rfl⟩
    · exact ⟨o, h, hl⟩
  refine ⟨m', _, _, rfl, hQ, ⟨?_, fun b hb => Nat.lt_of_lt_of_le (hS.lo b hb) hE2.size, Nat.le_trans hS.bs hE2.size, fun i hi hg => Nat.lt_of_lt_of_le (hS.blk i hi hg) hE2.size, fun i o hi hl hg => ?_, fun i o hi hl hg => ?_, fun i j oi oj hi hj l1 l2 q1 q2 hne => ?_, fun z hz => ?_⟩, hE, ?_⟩
  · show m.N = _
    rw [hS.N, List.length_set]
  · rcases hget hi with ⟨rfl, rfl⟩ | ⟨hne, hi2⟩
    · have hg2 : (m2.μ 0).gh = false := by rw [hμ0]; exact hg
      obtain ⟨arr, k1, k2, k3, k4, k5, k6⟩ := hS2.ob 0 _ rfl rfl hg2
      rw [hμ0] at k1 k2 k3 k4
      refine ⟨arr, k1, k2, k3, fun j c hj => ?_, ?_, ?_⟩
      · obtain ⟨u, hu, hr⟩ := k4 j c hj
        exact ⟨u, hu, hr.sc (h2 c (List.mem_of_getElem? hj))⟩
      · obtain ⟨-, -, -, -, -, k5, -⟩ := hS.ob i _ ho rfl hg
        exact k5
      · obtain ⟨-, -, -, -, -, -, k6⟩ := hS.ob i _ ho rfl hg
        exact k6
    · obtain ⟨arr, k1, k2, k3, k4, k5, k6⟩ := hS.ob i o hi2 hl hg
      refine ⟨arr, k1.eq (hE2.keep _ (.inl (.inr ⟨i, o, hi2, hl, hg, hne, rfl⟩))), k2, k3, fun j c hj => ?_, k5, k6⟩
      obtain ⟨u, hu, hr⟩ := k4 j c hj
      exact ⟨u, hu, hr.ext hE⟩
  · rcases hget hi with ⟨rfl, rfl⟩ | ⟨hne, hi2⟩
    · exact hS2.gho 0 _ rfl rfl (by rw [hμ0]; exact hg)
    · exact hS.gho i o hi2 hl hg
  · obtain ⟨o1, a1, a2⟩ := hob hi l1
    obtain ⟨o2, b1, b2⟩ := hob hj l2
    exact hS.inj i j o1 o2 a1 b1 a2 b2 q1 q2 hne
  · obtain ⟨a1, a2⟩ := hS.gl z hz
    exact ⟨a1, fun j y hj => ⟨(hE.cell (a := ⟨z.1, j, none⟩) a1).trans (a2.1 j y hj).1, (a2.1 j y hj).2⟩, a2.2.keep (hE.keep z.1 (.inl a1))⟩
  · exact .c (hru.cell.sc rfl)

section
variable {X : Cx} {all r : List Oper} {K : Sl → List Ob → Prop} {sl : Sl} {H : List Ob} {d : Tmp} {ty : TypeId} {ps : String} {af : Array Edge}
/-- A call that answers live objects. -/
theorem v_live {f : Operand} {args : Array Operand} {tys : Array TypeId} {g : FuncId} {caps : List C} {args' : List V} {res res' : V} {H1 H' : List Ob} {N : Nat} (hp : LiveC X g args' res H1) (hN : H.length = N) (ha : ansV res = true) (hc : ∀ o ∈ H1, ∀ c ∈ o.cs, ansC c = true) (hres : shV N res = res') (hH : (H ++ H1.map fun o => ⟨o.cs.map (shC N), o.t, o.live⟩) = H')
    (hf : rho X.G sl f = .c (.fn g caps)) {as : List V} (has : args.toList.map (rho X.G sl) ++ caps.map .c = as) (hv : Views H as args') (h : vops X all r K (upd sl d res') H') : vops X all (⟨some d, .call ⟨.value f, args, tys⟩, ty, ps, af, none⟩ :: r) K sl H := by
  subst has hN hres hH
  simp only [vops, vguard, vop, callOf, hf, target, putV]
  exact CallC.of_live hp hv ha hc h
/-- A call that writes into one live object. -/
theorem v_mark {f : Operand} {args : Array Operand} {tys : Array TypeId} {g : FuncId} {id n k : Nat} {t : TypeId} {cs cs' : List C} {x y : Value} {H' : List Ob} (hp : MarkC X g n k t cs x y cs') (ho : H[id]? = some ⟨cs, t, true⟩) (h1 : ∀ c ∈ cs, sc c = true) (h2 : ∀ c ∈ cs', sc c = true) (hx : VL.plain x = true) (hH : H.set id ⟨cs', t, true⟩ = H')
    (hf : rho X.G sl f = .c (.fn g [])) (has : args.toList.map (rho X.G sl) = [.c (.mu id 0 n k), .c (.v x)]) (h : vops X all r K (upd sl d (.c (.v y))) H') : vops X all (⟨some d, .call ⟨.value f, args, tys⟩, ty, ps, af, none⟩ :: r) K sl H := by
  subst hH
  simp only [vops, vguard, vop, callOf, hf, target, putV, has, List.map_nil, List.append_nil]
  exact CallC.of_mark hp ho h1 h2 hx h
end
/-- Plain cells stay plain. -/
theorem sh_sc {N : Nat} {cs : List C} (h : ∀ c ∈ cs, sc c = true) : cs.map (shC N) = cs := by
  refine List.map_congr_left (fun c hc => ?_) |>.trans (List.map_id' _)
  have := h c hc
  cases c <;> first | rfl | cases this
theorem ans_sc {cs : List C} (h : ∀ c ∈ cs, sc c = true) : ∀ c ∈ cs, ansC c = true := fun c hc => by
  have := h c hc
  cases c <;> first | rfl | cases this
end Go.VL
