/- Texts of one proof, put together: V71, V72, X0, T1, T2, T3, T7, T8, T9, T10, T11, T12, T13. -/
import Derived.Test.YtblmipdcifaamaaM2
import Derived.Test.YtblmipdcifaamaaProg
namespace Go.VL
open Go.RowKit
def chkPair2 (x0 y0 : Nat) (M : List Nat) (ops : Array Oper) (e' e : En) (o' o : Oper) : Bool :=
  let b := (M.getD e.i 0).testBit e'.i
  (match o'.dst with
    | some d => (!(o.looksAt ops).contains d || b) && (o.dst != some d)
    | none => true) &&
  (match o.dst with
    | some d => !(o'.looksAt ops).contains d || b
    | none => true) &&
  (e.kind != 1 || ((e'.kind != 1 || b || (e.i == y0 && e'.i == x0)) && (e'.kind != 0 || !sens o'.op || b || e.chk.contains e'.i))) &&
  (e'.kind != 1 || e.kind != 0 || !sens o.op || b)

def chkOrd2 (x0 y0 : Nat) (M : List Nat) (ops : Array Oper) : List En → Nat → List En → Bool
  | _, mask, [] => mask == 2 ^ ops.size - 1
  | done, mask, e :: r => match ops[e.i]? with
    | none => false
    | some o => Nat.ble e.kind 2 && !mask.testBit e.i && (upDirect o.after.toList ||| mask == mask) && (M.getD e.i 0 ||| upMask M o.after.toList == upMask M o.after.toList) &&
        (done.all fun e' => match ops[e'.i]? with
          | some o' => chkPair2 x0 y0 M ops e' e o' o
          | none => false) && chkOrd2 x0 y0 M ops (e :: done) (mask ||| 2 ^ e.i) r

structure Ord2 (x0 y0 : Nat) (M : List Nat) (ops : Array Oper) (pre : En → Prop) (e : En) (o : Oper) : Prop where
  op : ops[e.i]? = some o
  kind : e.kind ≤ 2
  pair : ∀ e', pre e' → e'.i ≠ e.i ∧ ∃ o', ops[e'.i]? = some o' ∧ chkPair2 x0 y0 M ops e' e o' o = true
  dep : ∀ x ∈ o.after.toList, Region.binds .any x = true → ∃ e', pre e' ∧ e'.i = x.on
  mask : ∀ j, (M.getD e.i 0).testBit j = true → ∃ x ∈ o.after.toList, Region.binds .any x = true ∧ (j = x.on ∨ (M.getD x.on 0).testBit j = true)

theorem chkOrd2_spec {x0 y0 : Nat} {M : List Nat} {ops : Array Oper} : ∀ (r done : List En) (mask : Nat), (∀ i, mask.testBit i = true ↔ ∃ e ∈ done, e.i = i) → chkOrd2 x0 y0 M ops done mask r = true →
    (∀ (p : Nat) (e : En), r[p]? = some e → ∃ o, Ord2 x0 y0 M ops (fun e' => e' ∈ done ∨ ∃ q, q < p ∧ r[q]? = some e') e o) ∧ ∀ i, i < ops.size → ∃ e, (e ∈ done ∨ e ∈ r) ∧ e.i = i
  | [], done, mask, hm, h => by
    refine ⟨fun p e he => by simp at he, fun i hi => ?_⟩
    simp only [chkOrd2, beq_iff_eq] at h
    have : mask.testBit i = true := by rw [h, Nat.testBit_two_pow_sub_one]; simpa using hi
    obtain ⟨e, h1, h2⟩ := (hm i).1 this
    exact ⟨e, .inl h1, h2⟩
  | e :: r, done, mask, hm, h => by
    simp only [chkOrd2] at h
    split at h
    · cases h
    · rename_i o ho
      simp only [Bool.and_eq_true, Bool.not_eq_true', beq_iff_eq] at h
      obtain ⟨⟨⟨⟨⟨h0, h1⟩, h2⟩, h3⟩, h4⟩, h5⟩ := h
      have hm' : ∀ i, (mask ||| 2 ^ e.i).testBit i = true ↔ ∃ e' ∈ e :: done, e'.i = i := fun i => by
        rw [Nat.testBit_or, Bool.or_eq_true, hm i, Nat.testBit_two_pow]
        simp only [decide_eq_true_eq, List.mem_cons, exists_eq_or_imp]
        exact Or.comm
      obtain ⟨k1, k2⟩ := chkOrd2_spec r (e :: done) _ hm' h5
      refine ⟨fun p e' he' => ?_, fun i hi => ?_⟩
      · cases p with
        | zero =>
          simp only [List.getElem?_cons_zero, Option.some.injEq] at he'
          subst he'
          refine ⟨o, ho, Nat.le_of_ble_eq_true h0, fun e' he' => ?_, fun x hx hb => ?_, fun j hj => testBit_upMask (testBit_of_or h3 hj)⟩
          · have hd : e' ∈ done := he'.elim id fun ⟨q, hq, _⟩ => absurd hq (Nat.not_lt_zero _)
            refine ⟨fun heq => ?_, ?_⟩
            · have := (hm e.i).2 ⟨e', hd, heq⟩
              rw [h1] at this
              cases this
            · have := List.all_eq_true.1 h4 e' hd
              split at this
              · rename_i o' ho'; exact ⟨o', ho', this⟩
              · cases this
          · obtain ⟨e', g1, g2⟩ := (hm _).1 (testBit_of_or h2 (testBit_upDirect hx hb))
            exact ⟨e', .inl g1, g2⟩
        | succ p =>
          simp only [List.getElem?_cons_succ] at he'
          obtain ⟨o', s⟩ := k1 p e' he'
          refine ⟨o', s.op, s.kind, fun e2 h2 => s.pair e2 ?_, fun x hx hb => ?_, s.mask⟩
          · rcases h2 with h2 | ⟨q, hq, h2⟩
            · exact .inl (List.mem_cons_of_mem _ h2)
            · cases q with
              | zero => simp only [List.getElem?_cons_zero, Option.some.injEq] at h2; subst h2; exact .inl List.mem_cons_self
              | succ q => exact .inr ⟨q, by omega, by simpa using h2⟩
          · obtain ⟨e2, g1, g2⟩ := s.dep x hx hb
            refine ⟨e2, ?_, g2⟩
            rcases g1 with g1 | ⟨q, hq, g1⟩
            · rcases List.mem_cons.1 g1 with rfl | g1
              · exact .inr ⟨0, by omega, rfl⟩
              · exact .inl g1
            · exact .inr ⟨q + 1, by omega, by simpa using g1⟩
      · obtain ⟨e', g1, g2⟩ := k2 i hi
        refine ⟨e', ?_, g2⟩
        rcases g1 with g1 | g1
        · rcases List.mem_cons.1 g1 with rfl | g1
          · exact .inr List.mem_cons_self
          · exact .inl g1
        · exact .inr (List.mem_cons_of_mem _ g1)
section
variable {X : Cx} {m0 : Mem} {Q : Exit → Act → World → Prop}
/-- The run that is told, and its order. -/
structure Told2 (x0 y0 : Nat) (X : Cx) (ops : Array Oper) (M : List Nat) (es : List En) (sl0 : Sl) (T : Nat → St) : Prop where
  t0 : (T 0).sl = sl0
  step : ∀ (p : Nat) (e : En), es[p]? = some e → ∃ o, Step X ops.toList es [] T p e o
  ord : ∀ (p : Nat) (e : En), es[p]? = some e → ∃ o, Ord2 x0 y0 M ops (fun e' => ∃ q : Nat, q < p ∧ es[q]? = some e') e o
  all : ∀ i, i < ops.size → ∃ (p : Nat) (e : En), es[p]? = some e ∧ e.i = i

variable {x0 y0 : Nat} {ops : Array Oper} {M : List Nat} {es : List En} {sl0 : Sl} {T : Nat → St}

theorem Told2.at (h : Told2 x0 y0 X ops M es sl0 T) {p : Nat} {e : En} (he : es[p]? = some e) : ∃ o, ops[e.i]? = some o ∧ Step X ops.toList es [] T p e o ∧ Ord2 x0 y0 M ops (fun e' => ∃ q : Nat, q < p ∧ es[q]? = some e') e o := by
  obtain ⟨o, h1⟩ := h.step p e he
  obtain ⟨o', h2⟩ := h.ord p e he
  have : o' = o := by
    have a1 := h1.op
    have a2 := h2.op
    simp only [Array.getElem?_toList] at a1
    rw [a2] at a1
    exact Option.some.inj a1
  subst this
  exact ⟨o', h2.op, h1, h2⟩

theorem Told2.inj (h : Told2 x0 y0 X ops M es sl0 T) {p q : Nat} {e e' : En} (he : es[p]? = some e) (he' : es[q]? = some e') (hi : e.i = e'.i) : p = q := by
  rcases Nat.lt_trichotomy p q with hlt | rfl | hlt
  · obtain ⟨o, h1, h2, h3⟩ := h.at he'
    exact absurd hi (h3.pair e ⟨p, hlt, he⟩).1
  · rfl
  · obtain ⟨o, h1, h2, h3⟩ := h.at he
    exact absurd hi.symm (h3.pair e' ⟨q, hlt, he'⟩).1

/-- What is asked of two operations. -/
theorem Told2.pair (h : Told2 x0 y0 X ops M es sl0 T) {p q : Nat} {e e' : En} {o o' : Oper} (hlt : q < p) (he : es[p]? = some e) (he' : es[q]? = some e') (ho : ops[e.i]? = some o) (ho' : ops[e'.i]? = some o') :
    (∀ d, o'.dst = some d → (d ∈ o.looksAt ops → (M.getD e.i 0).testBit e'.i = true) ∧ o.dst ≠ some d) ∧ (∀ d, o.dst = some d → d ∈ o'.looksAt ops → (M.getD e.i 0).testBit e'.i = true) ∧
    (e.kind = 1 → e'.kind = 1 → (M.getD e.i 0).testBit e'.i = true ∨ (e.i = y0 ∧ e'.i = x0)) ∧ (e.kind = 1 → e'.kind = 0 → sens o'.op = true → (M.getD e.i 0).testBit e'.i = true ∨ e'.i ∈ e.chk) ∧
    (e'.kind = 1 → e.kind = 0 → sens o.op = true → (M.getD e.i 0).testBit e'.i = true) := by
  obtain ⟨o2, h1, h2, h3⟩ := h.at he
  have : o2 = o := by rw [ho] at h1; exact (Option.some.inj h1).symm
  subst this
  obtain ⟨-, o3, k1, k2⟩ := h3.pair e' ⟨q, hlt, he'⟩
  have : o3 = o' := by rw [ho'] at k1; exact (Option.some.inj k1).symm
  subst this
  unfold chkPair2 at k2
  simp only [Bool.and_eq_true, Bool.or_eq_true, Bool.not_eq_true', beq_iff_eq] at k2
  obtain ⟨⟨⟨a1, a2⟩, a3⟩, a4⟩ := k2
  refine ⟨fun d hd => ?_, fun d hd hm => ?_, fun hk hk' => ?_, fun hk hk' hs => ?_, fun hk' hk hs => ?_⟩
  · rw [hd] at a1
    simp only [Bool.and_eq_true, Bool.or_eq_true, Bool.not_eq_true'] at a1
    refine ⟨fun hm => a1.1.resolve_left (by simpa using hm), fun hh => ?_⟩
    rw [hh] at a1
    simp at a1
  · rw [hd] at a2
    simp only [Bool.or_eq_true, Bool.not_eq_true'] at a2
    exact a2.resolve_left (by simpa using hm)
  · rcases a3 with a3 | a3
    · simp [hk] at a3
    · rcases a3.1 with (a | a) | a
      · simp [hk'] at a
      · exact .inl a
      · exact .inr (by simpa using a)
  · rcases a3 with a3 | a3
    · simp [hk] at a3
    · rcases a3.2 with ((a | a) | a) | a
      · simp [hk'] at a
      · simp [hs] at a
      · exact .inl a
      · exact .inr (by simpa using a)
  · rcases a4 with ((a | a) | a) | a
    · simp [hk'] at a
    · simp [hk] at a
    · simp [hs] at a
    · exact a

theorem Told2.slot (h : Told2 x0 y0 X ops M es sl0 T) (t : Nat) : ∀ p, p ≤ es.length →
    (∀ (q : Nat) (e : En) (o : Oper), q < p → es[q]? = some e → ops[e.i]? = some o → o.dst = some t → (T p).sl t = (T q).v) ∧
    ((∀ (q : Nat) (e : En) (o : Oper), q < p → es[q]? = some e → ops[e.i]? = some o → o.dst ≠ some t) → (T p).sl t = sl0 t)
  | 0, _ => ⟨fun q _ _ hq => absurd hq (Nat.not_lt_zero _), fun _ => by rw [h.t0]⟩
  | p + 1, hp => by
    obtain ⟨i2, i3⟩ := h.slot t p (by omega)
    have he := List.getElem?_eq_getElem (l := es) (i := p) (by omega)
    obtain ⟨o, ho, hst, hor⟩ := h.at he
    rw [hst.sl]
    refine ⟨fun q e' o' hq he' ho' hd => ?_, fun hno => ?_⟩
    · rw [putV_get]
      by_cases hqp : q = p
      · subst hqp
        rw [he] at he'
        have := Option.some.inj he'
        subst this
        have : o = o' := by rw [ho] at ho'; exact Option.some.inj ho'
        subst this
        rw [if_pos hd]
      · have hqp' : q < p := by omega
        obtain ⟨a1, -⟩ := h.pair hqp' he he' ho ho'
        rw [if_neg (a1 t hd).2]
        exact i2 q e' o' hqp' he' ho' hd
    · rw [putV_get, if_neg (hno p _ o (Nat.lt_succ_self p) he ho)]
      exact i3 fun q e' o' hq => hno q e' o' (by omega)

theorem Told2.heap (h : Told2 x0 y0 X ops M es sl0 T) {p p' : Nat} (hle : p ≤ p') (hp' : p' ≤ es.length) (hno : ∀ (r : Nat) (e : En), p ≤ r → r < p' → es[r]? = some e → e.kind ≠ 1) : (T p').H = (T p).H := by
  induction p' with
  | zero => have : p = 0 := by omega
            subst this; rfl
  | succ n ih =>
    by_cases heq : p = n + 1
    · subst heq; rfl
    · have he := List.getElem?_eq_getElem (l := es) (i := n) (by omega)
      obtain ⟨o, ho, hst, hor⟩ := h.at he
      rw [← ih (by omega) (by omega) fun r e hr hr' => hno r e hr (by omega)]
      cases hr : (T n).ran with
      | false => exact (hst.off hr).2
      | true => exact (hst.quiet hr (hno n _ (by omega) (by omega) he)).2

theorem DInv.mask2 {L : Array Bool} {sl : Sl} {q : Nat} (h : Told2 x0 y0 X ops M es sl0 T) (hI : DInv ops es sl0 T L sl q) : ∀ (p : Nat) (e : En) (o : Oper), es[p]? = some e → ops[e.i]? = some o →
    (∀ x ∈ o.after.toList, Region.binds .any x = true → L.getD x.on false = true) → ∀ j, (M.getD e.i 0).testBit j = true → L.getD j false = true := by
  intro p
  induction p using Nat.strongRecOn with
  | _ p ih =>
    intro e o he ho hd j hj
    obtain ⟨o', ho', hst, hor⟩ := h.at he
    have : o' = o := by rw [ho] at ho'; exact (Option.some.inj ho').symm
    subst this
    obtain ⟨x, hx, hb, hj⟩ := hor.mask j hj
    rcases hj with rfl | hj
    · exact hd x hx hb
    · obtain ⟨e', ⟨q', hq', he'⟩, hi⟩ := hor.dep x hx hb
      obtain ⟨o2, ho2, -, -⟩ := h.at he'
      refine ih q' hq' e' o2 he' ho2 (fun y hy hyb => hI.closed _ o2 ho2 ?_ y hy hyb) j (by rw [hi]; exact hj)
      rw [hi]
      exact hd x hx hb

theorem DInv.done2 {L : Array Bool} {sl : Sl} {q : Nat} (h : Told2 x0 y0 X ops M es sl0 T) (hI : DInv ops es sl0 T L sl q) (ha : ∀ (p : Nat) (e : En), es[p]? = some e → L.getD e.i false = true) :
    sl = (T es.length).sl ∧ (T q).H = (T es.length).H := by
  constructor
  · funext t
    obtain ⟨s2, s3⟩ := h.slot t es.length (Nat.le_refl _)
    by_cases hw : ∃ (p : Nat) (e : En) (o : Oper), es[p]? = some e ∧ ops[e.i]? = some o ∧ o.dst = some t
    · obtain ⟨p, e, o, h1, h2, h3⟩ := hw
      rw [hI.wr p e o t h1 h2 (ha p e h1) h3, s2 p e o (List.getElem?_eq_some_iff.1 h1).1 h1 h2 h3]
    · rw [hI.nw t fun p e o h1 h2 _ h3 => hw ⟨p, e, o, h1, h2, h3⟩, s3 fun p e o _ h1 h2 h3 => hw ⟨p, e, o, h1, h2, h3⟩]
  · refine (h.heap hI.ql (Nat.le_refl _) fun r e hr hr' he hk => ?_).symm
    have := (hI.q r e he hk).1 (ha r e he)
    omega
end
section
variable {X : Cx} {m0 : Mem} {Q : Exit → Act → World → Prop} {x0 y0 : Nat} {ops : Array Oper} {M : List Nat} {es : List En} {sl0 : Sl} {T : Nat → St} {K : Sl → List Ob → Prop}
/-- When nothing can come up, everything has. -/
theorem DInv.all2 {L : Array Bool} {sl : Sl} {q : Nat} (h : Told2 x0 y0 X ops M es sl0 T) (hI : DInv ops es sl0 T L sl q) (hr : Region.ready .any ops L = []) : ∀ (p : Nat) (e : En), es[p]? = some e → L.getD e.i false = true := by
  intro p
  induction p using Nat.strongRecOn with
  | _ p ih =>
    intro e he
    obtain ⟨o, ho, hst, hor⟩ := h.at he
    have hlt : e.i < ops.size := (Array.getElem?_eq_some_iff.1 ho).1
    cases hL : L.getD e.i false with
    | true => rfl
    | false =>
      have : e.i ∈ Region.ready .any ops L := mem_ready.2 ⟨by rw [getD_tf hI.size hlt]; exact hL, o, ho, fun x hx hb => by
        obtain ⟨e', ⟨q', hq', he'⟩, hi⟩ := hor.dep x (by simpa using hx) hb
        rw [← hi]
        exact ih q' hq' e' he'⟩
      rw [hr] at this
      cases this

theorem draw_step2 {n : Nat} (hd : dstOk n ops.toList = true) (h : Told2 x0 y0 X ops M es sl0 T) {L : Array Bool} {sl : Sl} {q : Nat} {m : Mem} {a : Act} (hI : DInv ops es sl0 T L sl q) (hs : SlotR m n sl a) (hS : Sim X.G m (T q).H) (hE : Ext m0 m) (hy1 : L.getD y0 false = true → L.getD x0 false = true) {i : Nat} (hi : i ∈ Region.ready .any ops L) (hy2 : i = y0 → L.getD x0 false = true)
    (C : Act → World → Prop) (hC : ∀ (sl' : Sl) (q' : Nat) (m' : Mem) (a' : Act), DInv ops es sl0 T (L.setIfInBounds i true) sl' q' → SlotR m' n sl' a' → Sim X.G m' (T q').H → Ext m0 m' → C a' m'.w) : wpOp X.P ops Q i C a m.w := by
  obtain ⟨h0, o, ho, hdep⟩ := mem_ready.1 hi
  have hilt : i < ops.size := (Array.getElem?_eq_some_iff.1 ho).1
  have hun : L.getD i false = false := by rw [← getD_tf hI.size hilt]; exact h0
  have hiL : i < L.size := by rw [hI.size]; exact hilt
  obtain ⟨p, e, he, hei⟩ := h.all i hilt
  subst hei
  have hdo : ∀ d, o.dst = some d → d < n := dstOk_spec hd o (List.mem_of_getElem? (l := ops.toList) (i := e.i) (by simpa using ho))
  have hplt : p < es.length := (List.getElem?_eq_some_iff.1 he).1
  obtain ⟨o', ho', hst, hor⟩ := h.at he
  have : o' = o := by rw [ho] at ho'; exact (Option.some.inj ho').symm
  subst this
  have hdep' : ∀ x ∈ o'.after.toList, Region.binds .any x = true → L.getD x.on false = true := fun x hx hb => hdep x (by simpa using hx) hb
  have hbef := hI.mask2 h p e o' he ho hdep'
  -- what comes later in the order that is told, and has come up, does not wait for this one
  have hnot : ∀ (r : Nat) (e' : En), es[r]? = some e' → L.getD e'.i false = true → (M.getD e'.i 0).testBit e.i = false := fun r e' he' hl => by
    cases hb : (M.getD e'.i 0).testBit e.i with
    | false => rfl
    | true =>
      obtain ⟨o2, ho2, -, -⟩ := h.at he'
      have := hI.mask2 h r e' o2 he' ho2 (fun x hx hb => hI.closed _ o2 ho2 hl x hx hb) e.i hb
      rw [hun] at this
      cases this
  -- the slots that are looked at hold what they are told to
  have agree : ∀ t ∈ o'.looksAt ops, sl t = (T p).sl t := fun t ht => by
    obtain ⟨s2, s3⟩ := h.slot t p (by omega)
    by_cases hw : ∃ (r : Nat) (e2 : En) (o2 : Oper), r < p ∧ es[r]? = some e2 ∧ ops[e2.i]? = some o2 ∧ o2.dst = some t
    · obtain ⟨r, e2, o2, hr, h1, h2, h3⟩ := hw
      have hb := ((h.pair hr he h1 ho h2).1 t h3).1 ht
      rw [s2 r e2 o2 hr h1 h2 h3, hI.wr r e2 o2 t h1 h2 (hbef _ hb) h3]
    · rw [s3 fun r e2 o2 hr h1 h2 h3 => hw ⟨r, e2, o2, hr, h1, h2, h3⟩]
      refine hI.nw t fun r e2 o2 h1 h2 hl h3 => ?_
      have hpr : p < r := by
        rcases Nat.lt_trichotomy r p with hlt | rfl | hlt
        · exact absurd ⟨r, e2, o2, hlt, h1, h2, h3⟩ hw
        · rw [he] at h1
          have := Option.some.inj h1
          subst this
          rw [hun] at hl
          cases hl
        · exact hlt
      have hb := (h.pair hpr h1 he h2 ho).2.1 t h3 ht
      rw [hnot r e2 h1 hl] at hb
      cases hb
  have agreeρ : ∀ x ∈ o'.op.operands, rho X.G (T p).sl x = rho X.G sl x := fun x hx => by
    cases x with
    | tmp t =>
      simp only [rho]
      exact (agree t (by
        unfold Oper.looksAt
        refine List.mem_append_left _ (List.mem_filterMap.2 ⟨.tmp t, by simpa using hx, rfl⟩))).symm
    | _ => rfl
  have hguard : vguard ops.toList sl o' ((T p).ran = true) ((T p).ran = false) := by
    refine vguard_congr (fun j w d hg hd => ?_) hst.guard
    refine agree d ?_
    unfold Oper.looksAt
    refine List.mem_append_right _ ?_
    rw [hg]
    simp only [Array.getElem?_toList] at hd
    simp [hd]
  -- which of those that write have come up
  have effp : e.kind = 1 → ∀ (r : Nat) (e' : En), es[r]? = some e' → e'.kind = 1 → (L.getD e'.i false = true ↔ r < p) := fun hk r e' he' hk' => by
    obtain ⟨o2, ho2, -, -⟩ := h.at he'
    constructor
    · intro hl
      rcases Nat.lt_trichotomy r p with hlt | rfl | hlt
      · exact hlt
      · rw [he] at he'
        have := Option.some.inj he'
        subst this
        rw [hun] at hl
        cases hl
      · rcases (h.pair hlt he' he ho2 ho).2.2.1 hk' hk with hb | ⟨hb1, hb2⟩
        · rw [hnot r e' he' hl] at hb
          cases hb
        · have := hy1 (hb1 ▸ hl)
          rw [← hb2, hun] at this
          cases this
    · intro hlt
      rcases (h.pair hlt he he' ho ho2).2.2.1 hk hk' with hb | ⟨hb1, hb2⟩
      · exact hbef _ hb
      · rw [hb2]
        exact hy2 hb1
  -- where this one leads
  let q' := if e.kind = 1 then p + 1 else q
  have hq' : q' ≤ es.length := by
    simp only [q']
    split
    · omega
    · exact hI.ql
  have hHq' : e.kind ≠ 1 → q' = q := fun hk => if_neg hk
  have hnext : ∀ (v : V), v = (T p).v → DInv ops es sl0 T (L.setIfInBounds e.i true) (putV sl o'.dst v) q' := fun v hv => by
    have hget : ∀ i, (L.setIfInBounds e.i true).getD i false = if i = e.i then true else L.getD i false := fun i => by
      by_cases hie : e.i = i
      · subst hie
        rw [if_pos rfl]
        simp [Array.getElem?_setIfInBounds_self_of_lt hiL]
      · rw [if_neg (fun h => hie h.symm)]
        simp [Array.getElem?_setIfInBounds_ne hie]
    refine ⟨by simp [hI.size], fun r e2 o2 t h1 h2 hl h3 => ?_, fun t hno => ?_, hq', fun r e2 h1 hk => ?_, fun i o2 h1 hl x hx hb => ?_⟩
    · rw [hget] at hl
      rw [putV_get]
      by_cases hie : e2.i = e.i
      · have : r = p := h.inj h1 he hie
        subst this
        rw [he] at h1
        have := Option.some.inj h1
        subst this
        have : o2 = o' := by rw [ho] at h2; exact (Option.some.inj h2).symm
        subst this
        rw [if_pos h3]
        exact hv
      · rw [if_neg hie] at hl
        have hne : o'.dst ≠ some t := fun hd => by
          rcases Nat.lt_trichotomy r p with hlt | rfl | hlt
          · exact ((h.pair hlt he h1 ho h2).1 t h3).2 hd
          · rw [he] at h1
            have := Option.some.inj h1
            subst this
            exact hie rfl
          · exact ((h.pair hlt h1 he h2 ho).1 t hd).2 h3
        rw [if_neg hne]
        exact hI.wr r e2 o2 t h1 h2 hl h3
    · rw [putV_get, if_neg (hno p e o' he ho (by rw [hget, if_pos rfl]))]
      refine hI.nw t fun r e2 o2 h1 h2 hl => hno r e2 o2 h1 h2 ?_
      rw [hget]
      split
      · rfl
      · exact hl
    · rw [hget]
      by_cases hie : e2.i = e.i
      · have : r = p := h.inj h1 he hie
        subst this
        rw [he] at h1
        have := Option.some.inj h1
        subst this
        simp only [if_true, q', if_pos hk, true_iff]
        omega
      · rw [if_neg hie]
        have hrp : r ≠ p := fun hh => by
          subst hh
          rw [he] at h1
          have := Option.some.inj h1
          subst this
          exact hie rfl
        simp only [q']
        split
        · rename_i hk'
          rw [effp hk' r e2 h1 hk]
          omega
        · exact hI.q r e2 h1 hk
    · rw [hget] at hl ⊢
      split
      · rfl
      · by_cases hie : i = e.i
        · subst hie
          have : o2 = o' := by rw [ho] at h1; exact (Option.some.inj h1).symm
          subst this
          exact hdep' x hx hb
        · rw [if_neg hie] at hl
          exact hI.closed i o2 h1 hl x hx hb
  have go : ∀ (m' : Mem) (v : V) (u : Value), v = (T p).v → Sim X.G m' (T q').H → Ext m m' → RV m' v u → C (a.put o'.dst u) m'.w := fun m' v u hv hS' hE' hrv =>
    hC _ q' m' _ (hnext v hv) ((hs.ext hE').put hdo hrv) hS' (hE.trans hE')
  -- the objects as this one finds them
  have hHp : e.kind = 1 → (T q).H = (T p).H := fun hk => by
    have hno : ∀ (r : Nat) (e' : En), es[r]? = some e' → e'.kind = 1 → (r < q ↔ r < p) := fun r e' he' hk' => by
      rw [← hI.q r e' he' hk', effp hk r e' he' hk']
    rcases Nat.le_total q p with hle | hle
    · exact (h.heap hle (by omega) fun r e' hr hr' he' hk' => by have := hno r e' he' hk'; omega).symm
    · exact h.heap hle hI.ql fun r e' hr hr' he' hk' => by have := hno r e' he' hk'; omega
  unfold wpOp
  rw [ho]
  simp only
  rcases vguard_sound (ops := ops) hs hguard with ⟨hw, hran⟩ | ⟨hw, hran⟩
  · rw [hw]
    simp only [if_true]
    refine .inl ?_
    by_cases hk : e.kind = 1
    · have hf := (hst.eff hran hk).congr agreeρ
      rw [← hHp hk] at hf
      refine et_sound (Q := Q) hs hS hf fun m' u hS' hE' hrv => go m' _ u rfl ?_ hE' hrv
      have : q' = p + 1 := if_pos hk
      rw [this]
      exact hS'
    · obtain ⟨hq, hH⟩ := hst.quiet hran hk
      have hqq : Qt X e.kind (T q).H (rho X.G (T p).sl) o'.op (T p).v := by
        cases hse : sens o'.op with
        | false => exact hq.heap hse
        | true =>
          by_cases hk0 : e.kind = 0
          · -- no write before it is still to come
            have hbefore : ∀ (r : Nat) (e' : En), r < p → es[r]? = some e' → e'.kind = 1 → r < q := fun r e' hr he' hk' => by
              obtain ⟨o2, ho2, -, -⟩ := h.at he'
              exact (hI.q r e' he' hk').1 (hbef _ ((h.pair hr he he' ho ho2).2.2.2.2 hk' hk0 hse))
            rcases Nat.le_total q p with hle | hle
            · rw [← h.heap hle (by omega) fun r e' hr hr' he' hk' => by have := hbefore r e' hr' he' hk'; omega]
              exact hq
            · have key : ∀ r, p ≤ r → r ≤ q → Qt X e.kind (T r).H (rho X.G (T p).sl) o'.op (T p).v := by
                intro r hr
                induction r with
                | zero => intro _; have : p = 0 := by omega
                          subst this; exact hq
                | succ n ihn =>
                  intro hnq
                  by_cases hpn : p = n + 1
                  · subst hpn; exact hq
                  · have hprev := ihn (by omega) (by omega)
                    have hql := hI.ql
                    have hen := List.getElem?_eq_getElem (l := es) (i := n) (by omega)
                    obtain ⟨o2, ho2, hst2, hor2⟩ := h.at hen
                    by_cases hk2 : es[n].kind = 1
                    · cases hr2 : (T n).ran with
                      | false => rw [(hst2.off hr2).2]; exact hprev
                      | true =>
                        have hnp : p < n := by
                          rcases Nat.lt_or_ge p n with hlt | hge
                          · exact hlt
                          · have : n = p := by omega
                            subst this
                            rw [he] at hen
                            have := Option.some.inj hen
                            rw [← this] at hk2
                            omega
                        have hl : L.getD es[n].i false = true := (hI.q n _ hen hk2).2 (by omega)
                        have hchk := (h.pair hnp hen he ho2 ho).2.2.2.1 hk2 hk0 hse
                        rw [hnot n _ hen hl] at hchk
                        have hc := hchk.resolve_left (by simp)
                        have ag := hst2.re hr2 hk2 p e o' hnp he (by simpa using ho) hk0 hse hran hc
                        unfold again at ag
                        simp only [Array.getElem?_toList, ho] at ag
                        exact ag.qt.kind (by omega) (by omega)
                    · cases hr2 : (T n).ran with
                      | false => rw [(hst2.off hr2).2]; exact hprev
                      | true => rw [(hst2.quiet hr2 hk2).2]; exact hprev
              exact key q hle (Nat.le_refl _)
          · -- a slice's literal looks at nothing
            unfold Qt at hq ⊢
            by_cases hk2 : e.kind = 2
            · rw [if_pos hk2] at hq ⊢; exact hq
            · exfalso
              have := hor.kind; omega
      refine qt_sound (Q := Q) hs hS (hqq.congr (_H' := (T q).H) agreeρ) fun m' u hS' hE' hrv => go m' _ u rfl ?_ hE' hrv
      rw [hHq' hk]
      exact hS'
  · rw [hw]
    simp only [Bool.false_eq_true, if_false]
    obtain ⟨hv, hH⟩ := hst.off hran
    refine go m .undef Go.undef hv.symm ?_ (Ext.refl m) RV.undef
    by_cases hk : e.kind = 1
    · have : q' = p + 1 := if_pos hk
      rw [this, hH, ← hHp hk]
      exact hS
    · rw [hHq' hk]
      exact hS

/-- .. all of it, one of the two being done. -/
theorem draw_main2 {n : Nat} (hd : dstOk n ops.toList = true) (h : Told2 x0 y0 X ops M es sl0 T) (hK : K (T es.length).sl (T es.length).H) (hQ : ∀ a w, Rel X m0 n K a w → Q .normal a w) : ∀ (fuel : Nat) (L : Array Bool) (sl : Sl) (q : Nat) (m : Mem) (a : Act),
    DInv ops es sl0 T L sl q → L.getD x0 false = true → SlotR m n sl a → Sim X.G m (T q).H → Ext m0 m → cnt ops L ≤ fuel → wpAny X.P .any ops Q fuel L a m.w := by
  have fin : ∀ (L : Array Bool) (sl : Sl) (q : Nat) (m : Mem) (a : Act), DInv ops es sl0 T L sl q → SlotR m n sl a → Sim X.G m (T q).H → Ext m0 m → Region.ready .any ops L = [] → Q .normal a m.w := fun L sl q m a hI hs hS hE hr => by
    obtain ⟨h1, h2⟩ := hI.done2 h (hI.all2 h hr)
    exact hQ a m.w ⟨m, sl, (T q).H, rfl, hs, hS, hE, by rw [h1, h2]; exact hK⟩
  intro fuel
  induction fuel with
  | zero =>
    intro L sl q m a hI hX hs hS hE hc
    have hr : Region.ready .any ops L = [] := by
      refine List.eq_nil_iff_forall_not_mem.2 fun i hi => ?_
      obtain ⟨h0, o, ho, -⟩ := mem_ready.1 hi
      have := cnt_set (ops := ops) (L := L) (Array.getElem?_eq_some_iff.1 ho).1 h0
      omega
    exact ⟨hr, fin L sl q m a hI hs hS hE hr⟩
  | succ fuel ih =>
    intro L sl q m a hI hX hs hS hE hc
    refine ⟨fun hr => fin L sl q m a hI hs hS hE hr, fun i hi => ?_⟩
    refine draw_step2 hd h hI hs hS hE (fun _ => hX) hi (fun _ => hX) _ fun sl' q' m' a' hI' hs' hS' hE' => ?_
    obtain ⟨h0, o, ho, -⟩ := mem_ready.1 hi
    have hlt := (Array.getElem?_eq_some_iff.1 ho).1
    refine ih _ sl' q' m' a' hI' ?_ hs' hS' hE' (by have := cnt_set (ops := ops) (L := L) hlt h0; omega)
    by_cases hx : i = x0
    · subst hx
      have : i < L.size := by rw [hI.size]; exact hlt
      simp [Array.getElem?_setIfInBounds_self_of_lt this]
    · simpa [Array.getElem?_setIfInBounds_ne hx] using hX
end
section
variable {X : Cx} {m0 : Mem} {Q : Exit → Act → World → Prop} {ops : Array Oper} {M : List Nat} {sl0 : Sl} {K : Sl → List Ob → Prop}
theorem draw_two {n a b : Nat} {es0 rA rB : List En} {eA eB : En} {TA TB : Nat → St} (hd : dstOk n ops.toList = true) (hA : Told2 a b X ops M (es0 ++ eA :: rA) sl0 TA) (hB : Told2 b a X ops M (es0 ++ eB :: rB) sl0 TB) (hab : a ≠ b)
    (heA : eA.i = a ∧ eA.kind = 1) (heB : eB.i = b ∧ eB.kind = 1) (hT : ∀ p, p < es0.length → TA p = TB p) (hTH : (TA es0.length).H = (TB es0.length).H)
    (h0 : ∀ e ∈ es0, e.i ≠ a ∧ e.i ≠ b) (hrA : ∀ e ∈ rA, e.i = b ∨ (M.getD e.i 0).testBit a = true ∨ (M.getD e.i 0).testBit b = true) (hrB : ∀ e ∈ rB, e.i = a ∨ (M.getD e.i 0).testBit a = true ∨ (M.getD e.i 0).testBit b = true)
    (hKA : K (TA (es0 ++ eA :: rA).length).sl (TA (es0 ++ eA :: rA).length).H) (hKB : K (TB (es0 ++ eB :: rB).length).sl (TB (es0 ++ eB :: rB).length).H) (hQ : ∀ a w, Rel X m0 n K a w → Q .normal a w) : ∀ (fuel : Nat) (L : Array Bool) (sl : Sl) (q : Nat) (m : Mem) (ac : Act),
    DInv ops (es0 ++ eA :: rA) sl0 TA L sl q → L.getD a false = false → L.getD b false = false → SlotR m n sl ac → Sim X.G m (TA q).H → Ext m0 m → cnt ops L ≤ fuel → wpAny X.P .any ops Q fuel L ac m.w := by
  -- what is there while neither has come up
  have early : ∀ {L : Array Bool} {sl : Sl} {q : Nat} {x y : Nat} {T : Nat → St} {e1 : En} {r : List En}, Told2 x y X ops M (es0 ++ e1 :: r) sl0 T → DInv ops (es0 ++ e1 :: r) sl0 T L sl q → L.getD a false = false → L.getD b false = false → (e1.i = a ∨ e1.i = b) → (∀ e ∈ r, e.i = a ∨ e.i = b ∨ (M.getD e.i 0).testBit a = true ∨ (M.getD e.i 0).testBit b = true) →
      ∀ (p : Nat) (e : En), (es0 ++ e1 :: r)[p]? = some e → L.getD e.i false = true → p < es0.length := by
    intro L sl q x y T e1 r hT' hI ha hb h1 hr p e he hl
    rcases Nat.lt_or_ge p es0.length with hlt | hge
    · exact hlt
    · exfalso
      rw [List.getElem?_append_right hge] at he
      obtain ⟨o, ho, -, -⟩ := hT'.at (show (es0 ++ e1 :: r)[p]? = some e by rw [List.getElem?_append_right hge]; exact he)
      have hm := hI.mask2 hT' p e o (by rw [List.getElem?_append_right hge]; exact he) ho (fun x hx hb => hI.closed _ o ho hl x hx hb)
      have hcase : e.i = a ∨ e.i = b ∨ (M.getD e.i 0).testBit a = true ∨ (M.getD e.i 0).testBit b = true := by
        rcases List.mem_cons.1 (List.mem_of_getElem? he) with rfl | hmem
        · rcases h1 with h1 | h1
          · exact .inl h1
          · exact .inr (.inl h1)
        · exact hr e hmem
      rcases hcase with h2 | h2 | h2 | h2
      · rw [h2, ha] at hl; cases hl
      · rw [h2, hb] at hl; cases hl
      · rw [hm a h2] at ha; cases ha
      · rw [hm b h2] at hb; cases hb
  have hrA' : ∀ e ∈ rA, e.i = a ∨ e.i = b ∨ (M.getD e.i 0).testBit a = true ∨ (M.getD e.i 0).testBit b = true := fun e he => .inr (hrA e he)
  have hrB' : ∀ e ∈ rB, e.i = a ∨ e.i = b ∨ (M.getD e.i 0).testBit a = true ∨ (M.getD e.i 0).testBit b = true := fun e he => (hrB e he).elim .inl fun h => .inr (.inr h)
  have qle : ∀ {L : Array Bool} {sl : Sl} {q : Nat}, DInv ops (es0 ++ eA :: rA) sl0 TA L sl q → L.getD a false = false → q ≤ es0.length := by
    intro L sl q hI ha
    have h1 : (es0 ++ eA :: rA)[es0.length]? = some eA := by rw [List.getElem?_append_right (Nat.le_refl _), Nat.sub_self]; rfl
    rcases Nat.lt_or_ge es0.length q with h2 | h2
    · have := (hI.q _ eA h1 heA.2).2 h2
      rw [heA.1, ha] at this
      cases this
    · exact h2
  have same : ∀ p, p < es0.length → (es0 ++ eA :: rA)[p]? = (es0 ++ eB :: rB)[p]? := fun p hp => by rw [List.getElem?_append_left hp, List.getElem?_append_left hp]
  -- told for the other one first
  have swap : ∀ {L : Array Bool} {sl : Sl} {q : Nat}, DInv ops (es0 ++ eA :: rA) sl0 TA L sl q → L.getD a false = false → L.getD b false = false → DInv ops (es0 ++ eB :: rB) sl0 TB L sl q := by
    intro L sl q hI ha hb
    have hq := qle hI ha
    have lateB : ∀ (p : Nat) (e : En), (es0 ++ eB :: rB)[p]? = some e → L.getD e.i false = true → p < es0.length := by
      intro p e he hl
      rcases Nat.lt_or_ge p es0.length with hlt | hge
      · exact hlt
      · exfalso
        -- the operation stands somewhere in the first order, too
        obtain ⟨o, ho, -, -⟩ := hB.at he
        obtain ⟨p', e', he', hi'⟩ := hA.all e.i (Array.getElem?_eq_some_iff.1 ho).1
        have hp' := early hA hI ha hb (.inl heA.1) hrA' p' e' he' (by rw [hi']; exact hl)
        have he2 : (es0 ++ eB :: rB)[p']? = some e' := by rw [← same p' hp']; exact he'
        have := hB.inj he2 he hi'
        omega
    refine ⟨hI.size, fun p e o t he ho hl hdt => ?_, fun t hno => hI.nw t fun p e o he ho hl => ?_, ?_, fun p e he hk => ?_, hI.closed⟩
    · have hp := lateB p e he hl
      rw [← hT p hp]
      exact hI.wr p e o t (by rw [same p hp]; exact he) ho hl hdt
    · have hp := early hA hI ha hb (.inl heA.1) hrA' p e he hl
      exact hno p e o (by rw [← same p hp]; exact he) ho hl
    · rw [List.length_append]; omega
    · rcases Nat.lt_or_ge p es0.length with hp | hp
      · exact hI.q p e (by rw [same p hp]; exact he) hk
      · constructor
        · intro hl
          have := lateB p e he hl
          omega
        · intro h2
          omega
  intro fuel
  induction fuel with
  | zero =>
    intro L sl q m ac hI ha hb hs hS hE hc
    exfalso
    obtain ⟨o, ho, -, -⟩ := hA.at (show (es0 ++ eA :: rA)[es0.length]? = some eA by rw [List.getElem?_append_right (Nat.le_refl _), Nat.sub_self]; rfl)
    have hlt := (Array.getElem?_eq_some_iff.1 ho).1
    have := cnt_set (ops := ops) (L := L) hlt (by rw [getD_tf hI.size hlt, heA.1]; exact ha)
    omega
  | succ fuel ih =>
    intro L sl q m ac hI ha hb hs hS hE hc
    refine ⟨fun hr => ?_, fun i hi => ?_⟩
    · exfalso
      have := hI.all2 hA hr es0.length eA (by rw [List.getElem?_append_right (Nat.le_refl _), Nat.sub_self]; rfl)
      rw [heA.1, ha] at this
      cases this
    · obtain ⟨h00, o, ho, -⟩ := mem_ready.1 hi
      have hlt := (Array.getElem?_eq_some_iff.1 ho).1
      have hsz : i < L.size := by rw [hI.size]; exact hlt
      have hcn : cnt ops (L.setIfInBounds i true) ≤ fuel := by have := cnt_set (ops := ops) (L := L) hlt h00; omega
      have hset : (L.setIfInBounds i true).getD i false = true := by simp [Array.getElem?_setIfInBounds_self_of_lt hsz]
      by_cases hia : i = a
      · subst hia
        exact draw_step2 hd hA hI hs hS hE (fun h => by rw [hb] at h; cases h) hi (fun h => absurd h hab) _ fun sl' q' m' a' hI' hs' hS' hE' => draw_main2 hd hA hKA hQ fuel _ sl' q' m' a' hI' hset hs' hS' hE' hcn
      · by_cases hib : i = b
        · subst hib
          have hq := qle hI ha
          have hI2 := swap hI ha hb
          have hS2 : Sim X.G m (TB q).H := by
            rcases Nat.lt_or_eq_of_le hq with h3 | rfl
            · rw [← hT q h3]; exact hS
            · rw [← hTH]; exact hS
          exact draw_step2 hd hB hI2 hs hS2 hE (fun h => by rw [ha] at h; cases h) hi (fun h => absurd h.symm hab) _ fun sl' q' m' a' hI' hs' hS' hE' => draw_main2 hd hB hKB hQ fuel _ sl' q' m' a' hI' hset hs' hS' hE' hcn
        · refine draw_step2 hd hA hI hs hS hE (fun h => by rw [hb] at h; cases h) hi (fun h => absurd h hib) _ fun sl' q' m' a' hI' hs' hS' hE' => ih _ sl' q' m' a' hI' ?_ ?_ hs' hS' hE' hcn
          · simpa [Array.getElem?_setIfInBounds_ne hia] using ha
          · simpa [Array.getElem?_setIfInBounds_ne hib] using hb
end
/-- The operations up to the two, in the order that is told; then either one first. -/
def vopsD2 (X : Cx) (all : List Oper) (rA rB : List En) : List En → Hist → (Sl → List Ob → Prop) → Sl → List Ob → Prop
  | [], hist, K, sl, H => vopsD X all rA hist K sl H ∧ vopsD X all rB hist K sl H
  | e :: r, hist, K, sl, H => match all[e.i]? with
    | none => False
    | some o => vguard all sl o
        (if e.kind = 1 then (∃ (v : V) (H' : List Ob), Et X H (rho X.G sl) o.op v H' ∧ againAll X all H' e.chk hist ∧ vopsD2 X all rA rB r hist K (putV sl o.dst v) H')
        else vq X e.kind o.op (rho X.G sl) H fun v => vopsD2 X all rA rB r (if e.kind = 0 && sens o.op then (e.i, sl, v) :: hist else hist) K (putV sl o.dst v) H)
        (vopsD2 X all rA rB r hist K (putV sl o.dst .undef) H)
theorem trace2 {X : Cx} {all : List Oper} {K : Sl → List Ob → Prop} {rA rB : List En} : ∀ (r : List En) (hist : Hist) (sl : Sl) (H : List Ob), vopsD2 X all rA rB r hist K sl H →
    ∃ TA TB : Nat → St, ((TA 0).sl = sl ∧ (TA 0).H = H ∧ (∀ p e, (r ++ rA)[p]? = some e → ∃ o, Step X all (r ++ rA) hist TA p e o) ∧ K (TA (r ++ rA).length).sl (TA (r ++ rA).length).H) ∧
      ((TB 0).sl = sl ∧ (TB 0).H = H ∧ (∀ p e, (r ++ rB)[p]? = some e → ∃ o, Step X all (r ++ rB) hist TB p e o) ∧ K (TB (r ++ rB).length).sl (TB (r ++ rB).length).H) ∧ (∀ p, p < r.length → TA p = TB p) ∧ (TA r.length).sl = (TB r.length).sl ∧ (TA r.length).H = (TB r.length).H
  | [], hist, sl, H, h => by
    obtain ⟨TA, a1, a2, a3, a4⟩ := trace rA hist sl H h.1
    obtain ⟨TB, b1, b2, b3, b4⟩ := trace rB hist sl H h.2
    exact ⟨TA, TB, ⟨a1, a2, a3, a4⟩, ⟨b1, b2, b3, b4⟩, fun p hp => absurd hp (Nat.not_lt_zero _), a1.trans b1.symm, a2.trans b2.symm⟩
  | e :: r, hist, sl, H, h => by
    simp only [vopsD2] at h
    split at h
    · exact h.elim
    · rename_i o ho
      have key : ∃ (v : V) (H' : List Ob) (ran : Bool) (hist' : Hist), vopsD2 X all rA rB r hist' K (putV sl o.dst v) H' ∧ vguard all sl o (ran = true) (ran = false) ∧ (ran = false → v = .undef ∧ H' = H) ∧
          (ran = true → e.kind ≠ 1 → Qt X e.kind H (rho X.G sl) o.op v ∧ H' = H) ∧ (ran = true → e.kind = 1 → Et X H (rho X.G sl) o.op v H') ∧
          (ran = true → e.kind = 1 → ∀ x ∈ hist, x.1 ∈ e.chk → again X all H' x) ∧ (∀ x ∈ hist, x ∈ hist') ∧ (ran = true → e.kind = 0 → sens o.op = true → (e.i, sl, v) ∈ hist') := by
        rcases vguard_or h with ⟨hg, h⟩ | ⟨hg, h⟩
        · split at h
          · rename_i hk
            obtain ⟨v, H', h1, h2, h3⟩ := h
            exact ⟨v, H', true, hist, h3, vguard_imp (fun _ => rfl) (fun h => h.elim) hg, fun h => (by cases h), fun _ h => absurd hk h, fun _ _ => h1, fun _ _ x hx hc => againAll_mem h2 x hx hc, fun x hx => hx, fun _ h => by omega⟩
          · rename_i hk
            obtain ⟨v, h1, h2⟩ := vq_qt h
            refine ⟨v, H, true, _, h2, vguard_imp (fun _ => rfl) (fun h => h.elim) hg, fun h => (by cases h), fun _ _ => ⟨h1, rfl⟩, fun _ h => absurd h hk, fun _ h => absurd h hk, fun x hx => ?_, fun _ h0 hs => ?_⟩
            · split
              · exact List.mem_cons_of_mem _ hx
              · exact hx
            · rw [if_pos (by simp [h0, hs])]
              exact List.mem_cons_self
        · exact ⟨.undef, H, false, hist, h, vguard_imp (fun h => h.elim) (fun _ => rfl) hg, fun _ => ⟨rfl, rfl⟩, fun h => (by cases h), fun h => (by cases h), fun h => (by cases h), fun x hx => hx, fun h => (by cases h)⟩
      obtain ⟨v, H', ran, hist', k0, k1, k2, k3, k4, k5, k6, k7⟩ := key
      obtain ⟨TA, TB, ⟨t1, t2, t3, t4⟩, ⟨u1, u2, u3, u4⟩, w1, w2, w3⟩ := trace2 r hist' _ _ k0
      have mk : ∀ (rX : List En) (T : Nat → St), (T 0).sl = putV sl o.dst v → (T 0).H = H' → (∀ p e, (r ++ rX)[p]? = some e → ∃ o, Step X all (r ++ rX) hist' T p e o) →
          ∀ p e', (e :: r ++ rX)[p]? = some e' → ∃ o, Step X all (e :: r ++ rX) hist (fun p => match p with | 0 => ⟨sl, H, v, ran⟩ | p + 1 => T p) p e' o := by
        intro rX T t1 t2 t3 p e' he'
        cases p with
        | zero =>
          simp only [List.cons_append, List.getElem?_cons_zero, Option.some.injEq] at he'
          subst he'
          exact ⟨o, ho, t1, k1, fun h => ⟨(k2 h).1, t2.trans (k2 h).2⟩, fun h h' => ⟨(k3 h h').1, t2.trans (k3 h h').2⟩, fun h h' => by rw [t2]; exact k4 h h', fun h h' => by rw [t2]; exact k5 h h', fun _ _ q _ _ hq => absurd hq (Nat.not_lt_zero _)⟩
        | succ p =>
          simp only [List.cons_append, List.getElem?_cons_succ] at he'
          obtain ⟨o', s⟩ := t3 p e' he'
          refine ⟨o', s.op, s.sl, s.guard, s.off, s.quiet, s.eff, fun h h' x hx hc => s.re0 h h' x (k6 x hx) hc, fun hran hone q e2 o2 hq he2 ho2 hk hs hr hc => ?_⟩
          cases q with
          | zero =>
            simp only [List.cons_append, List.getElem?_cons_zero, Option.some.injEq] at he2
            subst he2
            have : o2 = o := by rw [ho] at ho2; exact (Option.some.inj ho2).symm
            subst this
            exact s.re0 hran hone _ (k7 hr hk hs) hc
          | succ q => exact s.re hran hone q e2 o2 (by omega) (by simpa using he2) ho2 hk hs hr hc
      exact ⟨_, _, ⟨rfl, rfl, mk rA TA t1 t2 t3, t4⟩, ⟨rfl, rfl, mk rB TB u1 u2 u3, u4⟩, fun p hp => by
        cases p with
        | zero => rfl
        | succ p => exact w1 p (by simpa using hp), w2, w3⟩
def chkTwo (M : List Nat) (es0 rA rB : List En) (a b : Nat) : Bool :=
  (a != b) && es0.all (fun e => e.i != a && e.i != b) && rA.all (fun e => e.i == b || (M.getD e.i 0).testBit a || (M.getD e.i 0).testBit b) && rB.all (fun e => e.i == a || (M.getD e.i 0).testBit a || (M.getD e.i 0).testBit b)
/-- The rule for regions whose order is drawn, two of whose operations may come up in either order. -/
def drawD2 (X : Cx) (n : Nat) (ops : Array Oper) (K : Sl → List Ob → Prop) (sl : Sl) (H : List Ob) : Prop :=
  drawD X n ops K sl H ∨ ∃ (M : List Nat) (es0 rA rB : List En) (eA eB : En), dstOk n ops.toList = true ∧ eA.kind = 1 ∧ eB.kind = 1 ∧ chkTwo M es0 rA rB eA.i eB.i = true ∧ chkOrd2 eA.i eB.i M ops [] 0 (es0 ++ eA :: rA) = true ∧ chkOrd2 eB.i eA.i M ops [] 0 (es0 ++ eB :: rB) = true ∧ vopsD2 X ops.toList (eA :: rA) (eB :: rB) es0 [] K sl H
theorem told2_of {X : Cx} {ops : Array Oper} {M : List Nat} {es : List En} {x0 y0 : Nat} {sl : Sl} {T : Nat → St} (hchk : chkOrd2 x0 y0 M ops [] 0 es = true) (t0 : (T 0).sl = sl) (t2 : ∀ p e, es[p]? = some e → ∃ o, Step X ops.toList es [] T p e o) : Told2 x0 y0 X ops M es sl T := by
  obtain ⟨o1, o2⟩ := chkOrd2_spec es [] 0 (fun i => by simp) hchk
  exact ⟨t0, t2, fun p e he => by
    obtain ⟨o, q⟩ := o1 p e he
    exact ⟨o, q.op, q.kind, fun e' he' => q.pair e' (.inr he'), fun x hx hb => by
      obtain ⟨e', g1, g2⟩ := q.dep x hx hb
      exact ⟨e', g1.resolve_left (by simp), g2⟩, q.mask⟩, fun i hi => by
    obtain ⟨e, g1, g2⟩ := o2 i hi
    obtain ⟨p, hp⟩ := List.getElem?_of_mem (g1.resolve_left (by simp))
    exact ⟨p, e, hp, g2⟩⟩
theorem drawD2_ok (X : Cx) : DrawOk X (drawD2 X) := by
  intro n id ops K m0 m sl H ac Q hQ hs hS hE h
  rcases h with h | ⟨M, es0, rA, rB, eA, eB, hd, hkA, hkB, hch, hcA, hcB, hv⟩
  · exact drawD_ok X n id ops K m0 m sl H ac Q hQ hs hS hE h
  obtain ⟨TA, TB, ⟨a1, a2, a3, a4⟩, ⟨b1, b2, b3, b4⟩, w1, w2, w3⟩ := trace2 es0 [] sl H hv
  unfold chkTwo at hch
  simp only [Bool.and_eq_true, bne_iff_ne, ne_eq, List.all_eq_true, Bool.or_eq_true, beq_iff_eq] at hch
  obtain ⟨⟨⟨c1, c2⟩, c3⟩, c4⟩ := hch
  have hTA := told2_of hcA a1 a3
  have hTB := told2_of hcB b1 b3
  have hres : ∀ p, p < es0.length → TA p = TB p := w1
  obtain ⟨g1, g2⟩ := hS.same (w' := { m.w with drawn := m.w.drawn + 1 }) rfl rfl rfl rfl
  have hnone : ∀ i, (Array.replicate ops.size false).getD i false = false := fun i => by
    simp only [Array.getD_eq_getD_getElem?, Array.getElem?_replicate]
    split <;> rfl
  have hnone' : ∀ i, (Array.replicate ops.size false).getD i false = true → False := fun i hi => by rw [hnone] at hi; cases hi
  refine wp_region_any X.mixed ?_
  refine draw_two (m0 := m0) hd hTA hTB c1 ⟨rfl, hkA⟩ ⟨rfl, hkB⟩ hres w3 (fun e he => c2 e he) (fun e he => by
    rcases c3 e he with (h | h) | h
    · exact .inl h
    · exact .inr (.inl h)
    · exact .inr (.inr h)) (fun e he => by
    rcases c4 e he with (h | h) | h
    · exact .inl h
    · exact .inr (.inl h)
    · exact .inr (.inr h)) a4 b4 hQ ops.size (Array.replicate ops.size false) sl 0 { m with w := { m.w with drawn := m.w.drawn + 1 } } ac ⟨by simp, fun p e o t _ _ hl => (hnone' _ hl).elim, fun t _ => rfl, Nat.zero_le _, fun p e he hk => ⟨fun hl => (hnone' _ hl).elim, fun hh => absurd hh (Nat.not_lt_zero _)⟩, fun i o _ hl => (hnone' _ hl).elim⟩ (hnone _) (hnone _)
    (hs.ext g2) (by rw [a2]; exact g1) (hE.trans g2) ?_
  unfold cnt
  have := List.countP_le_length (p := fun i => !(Array.replicate ops.size false).getD i true) (l := List.range ops.size)
  simpa using this
section
variable {X : Cx} {n N0 : Nat} {Q : VQ} {sl : Sl} {H : List Ob}
theorem w_draw1 {id : Nat} {l : List Oper} (M : List Nat) (es : List En) (hd : dstOk n l = true) (hc : chkOrd M l.toArray [] 0 es = true) (h : vopsD X l es [] (Q .normal) sl H) : vwp X n N0 (drawD2 X) (.region id l.toArray true) Q sl H := .inl ⟨M, es, hd, hc, h⟩
theorem w_draw2 {id : Nat} {l : List Oper} (M : List Nat) (es0 rA rB : List En) (eA eB : En) (hd : dstOk n l = true) (hA : eA.kind = 1) (hB : eB.kind = 1) (h2 : chkTwo M es0 rA rB eA.i eB.i = true) (cA : chkOrd2 eA.i eB.i M l.toArray [] 0 (es0 ++ eA :: rA) = true) (cB : chkOrd2 eB.i eA.i M l.toArray [] 0 (es0 ++ eB :: rB) = true)
    (h : vopsD2 X l (eA :: rA) (eB :: rB) es0 [] (Q .normal) sl H) : vwp X n N0 (drawD2 X) (.region id l.toArray true) Q sl H := .inr ⟨M, es0, rA, rB, eA, eB, hd, hA, hB, h2, cA, cB, h⟩
end
end Go.VL
namespace Go.VL
open Go.RowKit
section
variable {X : Cx} {all : List Oper} {r rA rB : List En} {hist : Hist} {K : Sl → List Ob → Prop} {sl : Sl} {H : List Ob} {i : Nat} {chk : List Nat} {d : Tmp} {op : Op} {ty : TypeId} {ps : String} {af : Array Edge} {g : Option (Nat × Bool)}
theorem d2_nil (hA : vopsD X all rA hist K sl H) (hB : vopsD X all rB hist K sl H) : vopsD2 X all rA rB [] hist K sl H := ⟨hA, hB⟩
/-- An operation that writes nothing, and is no call. -/
theorem d2_q {b : Bool} (ho : all[i]? = some ⟨some d, op, ty, ps, af, g⟩) (hg : gb all sl g = some true) (hc : callOf op = none) (he : eveOp op = false) (hs : sens op = b)
    (h : vops X [] [⟨some d, op, ty, ps, af, none⟩] (fun sl' H' => vopsD2 X all rA rB r (if b then (i, sl, sl' d) :: hist else hist) K sl' H') sl H) : vopsD2 X all rA rB (⟨i, 0, chk⟩ :: r) hist K sl H := by
  simp only [vopsD2, ho]
  refine gb_on hg ?_
  rw [if_neg (by omega)]
  simp only [vops, vguard, vop, hc, eve_none he] at h
  unfold vq
  rw [if_neg (by omega), hc]
  simp only
  split at h
  · rename_i v hv
    subst hs
    first
    | (simp only [putV, upd_same] at h ⊢; simpa using h; done)
    | (simp only [putV, upd_same, hv] at h ⊢; simpa using h)
  · exact absurd h.1 (by decide)
/-- A call on data, by its contract. -/
theorem d2_call {f : Operand} {args : Array Operand} {tys : Array TypeId} {gf : FuncId} {caps : List C} {args' : List V} {res : V} (hp : PureC X gf args' res) (hown : ownV res = true) (ho : all[i]? = some ⟨some d, .call ⟨.value f, args, tys⟩, ty, ps, af, g⟩) (hg : gb all sl g = some true)
    (hf : rho X.G sl f = .c (.fn gf caps)) {ags : List V} (has : args.toList.map (rho X.G sl) ++ caps.map .c = ags) (hv : Views H ags args') (h : vopsD2 X all rA rB r ((i, sl, res) :: hist) K (upd sl d res) H) : vopsD2 X all rA rB (⟨i, 0, chk⟩ :: r) hist K sl H := by
  subst has
  simp only [vopsD2, ho]
  refine gb_on hg ?_
  rw [if_neg (by omega)]
  unfold vq
  rw [if_neg (by omega)]
  simp only [callOf, hf, target]
  exact ⟨res, ⟨args', hv, hp, hown⟩, by simpa [sens, putV] using h⟩
end
end Go.VL
set_option maxRecDepth 20000
namespace Go.VL
open Go.RowKit
def layT : List (TypeId × Lay) := [
  (1, ⟨.other, 1, 8, [.nilFunc]⟩),
  (2, ⟨.int .i64, 1, 8, [.int .i64 0]⟩),
  (3, ⟨.int .i64, 1, 8, [.int .i64 0]⟩),
  (4, ⟨.bool, 1, 1, [.bool false]⟩),
  (5, ⟨.int .u8, 1, 1, [.int .u8 0]⟩),
  (6, ⟨.int .u8, 1, 1, [.int .u8 0]⟩),
  (7, ⟨.struct [(2, 0), (3, 1), (4, 2), (6, 3)], 4, 24, [.int .i64 0, .int .i64 0, .bool false, .int .u8 0]⟩),
  (8, ⟨.struct [(2, 0), (3, 1), (4, 2), (6, 3)], 4, 24, [.int .i64 0, .int .i64 0, .bool false, .int .u8 0]⟩),
  (9, ⟨.string, 1, 16, [.string ⟨#[]⟩]⟩),
  (10, ⟨.string, 1, 16, [.string ⟨#[]⟩]⟩),
  (11, ⟨.string, 1, 16, [.string ⟨#[]⟩]⟩),
  (12, ⟨.int .u64, 1, 8, [.int .u64 0]⟩),
  (13, ⟨.struct [(9, 0), (12, 1)], 2, 24, [.string ⟨#[]⟩, .int .u64 0]⟩),
  (14, ⟨.struct [(9, 0), (12, 1)], 2, 24, [.string ⟨#[]⟩, .int .u64 0]⟩),
  (15, ⟨.other, 1, 8, [.pointer none]⟩),
  (16, ⟨.other, 1, 8, [.pointer none]⟩),
  (17, ⟨.other, 1, 8, [.pointer none]⟩),
  (18, ⟨.struct [(17, 0)], 1, 8, [.pointer none]⟩),
  (19, ⟨.struct [(17, 0)], 1, 8, [.pointer none]⟩),
  (21, ⟨.int .i32, 1, 4, [.int .i32 0]⟩),
  (22, ⟨.float .f32, 1, 4, [.float .f32 0]⟩),
  (23, ⟨.slice 41, 1, 24, [.slice none 0 0]⟩),
  (24, ⟨.slice 22, 1, 24, [.slice none 0 0]⟩),
  (25, ⟨.slice 53, 1, 24, [.slice none 0 0]⟩),
  (26, ⟨.slice 74, 1, 24, [.slice none 0 0]⟩),
  (27, ⟨.struct [(23, 0), (24, 1), (25, 2), (26, 3), (2, 4), (22, 5), (22, 6)], 7, 112, [.slice none 0 0, .slice none 0 0, .slice none 0 0, .slice none 0 0, .int .i64 0, .float .f32 0, .float .f32 0]⟩),
  (28, ⟨.struct [(23, 0), (24, 1), (25, 2), (26, 3), (2, 4), (22, 5), (22, 6)], 7, 112, [.slice none 0 0, .slice none 0 0, .slice none 0 0, .slice none 0 0, .int .i64 0, .float .f32 0, .float .f32 0]⟩),
  (30, ⟨.other, 1, 8, [.nilFunc]⟩),
  (31, ⟨.other, 1, 8, [.nilFunc]⟩),
  (32, ⟨.other, 1, 8, [.nilFunc]⟩),
  (33, ⟨.other, 1, 8, [.nilFunc]⟩),
  (34, ⟨.other, 1, 8, [.nilFunc]⟩),
  (35, ⟨.other, 1, 8, [.nilFunc]⟩),
  (36, ⟨.other, 1, 8, [.nilFunc]⟩),
  (37, ⟨.other, 1, 8, [.pointer none]⟩),
  (38, ⟨.array 16 22, 16, 64, [.float .f32 0, .float .f32 0, .float .f32 0, .float .f32 0, .float .f32 0, .float .f32 0, .float .f32 0, .float .f32 0, .float .f32 0, .float .f32 0, .float .f32 0, .float .f32 0, .float .f32 0, .float .f32 0, .float .f32 0, .float .f32 0]⟩),
  (39, ⟨.array 16 22, 16, 64, [.float .f32 0, .float .f32 0, .float .f32 0, .float .f32 0, .float .f32 0, .float .f32 0, .float .f32 0, .float .f32 0, .float .f32 0, .float .f32 0, .float .f32 0, .float .f32 0, .float .f32 0, .float .f32 0, .float .f32 0, .float .f32 0]⟩),
  (40, ⟨.struct [(39, 0), (22, 16), (22, 17), (22, 18)], 19, 76, [.float .f32 0, .float .f32 0, .float .f32 0, .float .f32 0, .float .f32 0, .float .f32 0, .float .f32 0, .float .f32 0, .float .f32 0, .float .f32 0, .float .f32 0, .float .f32 0, .float .f32 0, .float .f32 0, .float .f32 0, .float .f32 0, .float .f32 0, .float .f32 0, .float .f32 0]⟩),
  (41, ⟨.struct [(39, 0), (22, 16), (22, 17), (22, 18)], 19, 76, [.float .f32 0, .float .f32 0, .float .f32 0, .float .f32 0, .float .f32 0, .float .f32 0, .float .f32 0, .float .f32 0, .float .f32 0, .float .f32 0, .float .f32 0, .float .f32 0, .float .f32 0, .float .f32 0, .float .f32 0, .float .f32 0, .float .f32 0, .float .f32 0, .float .f32 0]⟩),
  (43, ⟨.other, 1, 8, [.nilFunc]⟩),
  (44, ⟨.array 4 22, 4, 16, [.float .f32 0, .float .f32 0, .float .f32 0, .float .f32 0]⟩),
  (45, ⟨.array 4 44, 16, 64, [.float .f32 0, .float .f32 0, .float .f32 0, .float .f32 0, .float .f32 0, .float .f32 0, .float .f32 0, .float .f32 0, .float .f32 0, .float .f32 0, .float .f32 0, .float .f32 0, .float .f32 0, .float .f32 0, .float .f32 0, .float .f32 0]⟩),
  (46, ⟨.array 4 44, 16, 64, [.float .f32 0, .float .f32 0, .float .f32 0, .float .f32 0, .float .f32 0, .float .f32 0, .float .f32 0, .float .f32 0, .float .f32 0, .float .f32 0, .float .f32 0, .float .f32 0, .float .f32 0, .float .f32 0, .float .f32 0, .float .f32 0]⟩),
  (47, ⟨.array 4 22, 4, 16, [.float .f32 0, .float .f32 0, .float .f32 0, .float .f32 0]⟩),
  (48, ⟨.struct [(2, 0), (2, 1), (46, 2), (47, 18)], 22, 96, [.int .i64 0, .int .i64 0, .float .f32 0, .float .f32 0, .float .f32 0, .float .f32 0, .float .f32 0, .float .f32 0, .float .f32 0, .float .f32 0, .float .f32 0, .float .f32 0, .float .f32 0, .float .f32 0, .float .f32 0, .float .f32 0, .float .f32 0, .float .f32 0, .float .f32 0, .float .f32 0, .float .f32 0, .float .f32 0]⟩),
  (49, ⟨.struct [(2, 0), (2, 1), (46, 2), (47, 18)], 22, 96, [.int .i64 0, .int .i64 0, .float .f32 0, .float .f32 0, .float .f32 0, .float .f32 0, .float .f32 0, .float .f32 0, .float .f32 0, .float .f32 0, .float .f32 0, .float .f32 0, .float .f32 0, .float .f32 0, .float .f32 0, .float .f32 0, .float .f32 0, .float .f32 0, .float .f32 0, .float .f32 0, .float .f32 0, .float .f32 0]⟩),
  (50, ⟨.other, 1, 8, [.nilFunc]⟩),
  (51, ⟨.slice 2, 1, 24, [.slice none 0 0]⟩),
  (52, ⟨.struct [(49, 0), (51, 22), (51, 23), (2, 24)], 25, 152, [.int .i64 0, .int .i64 0, .float .f32 0, .float .f32 0, .float .f32 0, .float .f32 0, .float .f32 0, .float .f32 0, .float .f32 0, .float .f32 0, .float .f32 0, .float .f32 0, .float .f32 0, .float .f32 0, .float .f32 0, .float .f32 0, .float .f32 0, .float .f32 0, .float .f32 0, .float .f32 0, .float .f32 0, .float .f32 0, .slice none 0 0, .slice none 0 0, .int .i64 0]⟩),
  (53, ⟨.struct [(49, 0), (51, 22), (51, 23), (2, 24)], 25, 152, [.int .i64 0, .int .i64 0, .float .f32 0, .float .f32 0, .float .f32 0, .float .f32 0, .float .f32 0, .float .f32 0, .float .f32 0, .float .f32 0, .float .f32 0, .float .f32 0, .float .f32 0, .float .f32 0, .float .f32 0, .float .f32 0, .float .f32 0, .float .f32 0, .float .f32 0, .float .f32 0, .float .f32 0, .float .f32 0, .slice none 0 0, .slice none 0 0, .int .i64 0]⟩),
  (54, ⟨.other, 1, 8, [.nilFunc]⟩),
  (55, ⟨.other, 1, 8, [.nilFunc]⟩),
  (56, ⟨.other, 1, 8, [.nilFunc]⟩),
  (57, ⟨.other, 1, 8, [.nilFunc]⟩),
  (58, ⟨.other, 1, 8, [.nilFunc]⟩),
  (59, ⟨.float .f64, 1, 8, [.float .f64 0]⟩),
  (60, ⟨.other, 1, 8, [.nilFunc]⟩),
  (61, ⟨.other, 1, 8, [.nilFunc]⟩),
  (62, ⟨.other, 1, 8, [.nilFunc]⟩),
  (63, ⟨.other, 1, 8, [.nilFunc]⟩),
  (64, ⟨.slice 4, 1, 24, [.slice none 0 0]⟩),
  (66, ⟨.other, 1, 8, [.nilFunc]⟩),
  (67, ⟨.other, 1, 8, [.nilFunc]⟩),
  (68, ⟨.other, 1, 8, [.pointer none]⟩),
  (69, ⟨.other, 1, 8, [.nilFunc]⟩),
  (70, ⟨.other, 1, 8, [.nilFunc]⟩),
  (71, ⟨.other, 1, 8, [.pointer none]⟩),
  (72, ⟨.slice 95, 1, 24, [.slice none 0 0]⟩),
  (73, ⟨.struct [(72, 0), (2, 1), (2, 2)], 3, 40, [.slice none 0 0, .int .i64 0, .int .i64 0]⟩),
  (74, ⟨.struct [(72, 0), (2, 1), (2, 2)], 3, 40, [.slice none 0 0, .int .i64 0, .int .i64 0]⟩),
  (75, ⟨.other, 1, 8, [.nilFunc]⟩),
  (76, ⟨.other, 1, 8, [.nilFunc]⟩),
  (77, ⟨.other, 1, 8, [.nilFunc]⟩),
  (78, ⟨.other, 1, 8, [.nilFunc]⟩),
  (79, ⟨.other, 1, 8, [.nilFunc]⟩),
  (80, ⟨.other, 1, 8, [.nilFunc]⟩),
  (81, ⟨.other, 1, 8, [.pointer none]⟩),
  (82, ⟨.other, 1, 8, [.nilFunc]⟩),
  (83, ⟨.other, 1, 8, [.pointer none]⟩),
  (84, ⟨.other, 1, 8, [.nilFunc]⟩),
  (85, ⟨.int .u32, 1, 4, [.int .u32 0]⟩),
  (86, ⟨.other, 1, 8, [.nilFunc]⟩),
  (87, ⟨.other, 1, 8, [.nilFunc]⟩),
  (88, ⟨.other, 1, 8, [.nilFunc]⟩),
  (89, ⟨.other, 1, 8, [.nilFunc]⟩),
  (90, ⟨.other, 1, 8, [.nilFunc]⟩),
  (91, ⟨.other, 1, 8, [.nilFunc]⟩),
  (92, ⟨.array 8 4, 8, 8, [.bool false, .bool false, .bool false, .bool false, .bool false, .bool false, .bool false, .bool false]⟩),
  (93, ⟨.array 8 4, 8, 8, [.bool false, .bool false, .bool false, .bool false, .bool false, .bool false, .bool false, .bool false]⟩),
  (94, ⟨.struct [(93, 0), (2, 8)], 9, 16, [.bool false, .bool false, .bool false, .bool false, .bool false, .bool false, .bool false, .bool false, .int .i64 0]⟩),
  (95, ⟨.struct [(93, 0), (2, 8)], 9, 16, [.bool false, .bool false, .bool false, .bool false, .bool false, .bool false, .bool false, .bool false, .int .i64 0]⟩),
  (96, ⟨.other, 1, 8, [.nilFunc]⟩),
  (97, ⟨.other, 1, 8, [.nilFunc]⟩),
  (98, ⟨.other, 1, 8, [.nilFunc]⟩),
  (99, ⟨.other, 1, 8, [.nilFunc]⟩),
  (100, ⟨.other, 1, 8, [.nilFunc]⟩),
  (101, ⟨.int .u64, 1, 8, [.int .u64 0]⟩),
  (102, ⟨.other, 1, 8, [.nilFunc]⟩),
  (103, ⟨.other, 1, 8, [.nilFunc]⟩),
  (104, ⟨.other, 1, 8, [.nilFunc]⟩),
  (105, ⟨.other, 1, 8, [.nilFunc]⟩),
  (106, ⟨.struct [(17, 0), (17, 1), (17, 2), (9, 3)], 4, 40, [.pointer none, .pointer none, .pointer none, .string ⟨#[]⟩]⟩),
  (107, ⟨.struct [(17, 0), (17, 1), (17, 2), (9, 3)], 4, 40, [.pointer none, .pointer none, .pointer none, .string ⟨#[]⟩]⟩),
  (108, ⟨.array 0 16, 0, 0, []⟩),
  (111, ⟨.other, 1, 8, [.nilFunc]⟩),
  (112, ⟨.int .u8, 1, 1, [.int .u8 0]⟩),
  (113, ⟨.int .u8, 1, 1, [.int .u8 0]⟩),
  (114, ⟨.other, 1, 8, [.nilFunc]⟩),
  (115, ⟨.other, 1, 8, [.pointer none]⟩),
  (116, ⟨.int .i32, 1, 4, [.int .i32 0]⟩),
  (117, ⟨.int .i32, 1, 4, [.int .i32 0]⟩),
  (118, ⟨.struct [(12, 0), (12, 1), (85, 2), (112, 3), (5, 4), (5, 5), (113, 6), (114, 7), (115, 8), (116, 9), (117, 10)], 11, 48, [.int .u64 0, .int .u64 0, .int .u32 0, .int .u8 0, .int .u8 0, .int .u8 0, .int .u8 0, .nilFunc, .pointer none, .int .i32 0, .int .i32 0]⟩),
  (119, ⟨.struct [(12, 0), (12, 1), (85, 2), (112, 3), (5, 4), (5, 5), (113, 6), (114, 7), (115, 8), (116, 9), (117, 10)], 11, 48, [.int .u64 0, .int .u64 0, .int .u32 0, .int .u8 0, .int .u8 0, .int .u8 0, .int .u8 0, .nilFunc, .pointer none, .int .i32 0, .int .i32 0]⟩),
  (120, ⟨.other, 1, 8, [.nilFunc]⟩),
  (121, ⟨.other, 1, 8, [.nilFunc]⟩),
  (122, ⟨.other, 1, 8, [.nilFunc]⟩),
  (123, ⟨.other, 1, 8, [.nilFunc]⟩)]
theorem layT_ok : ∀ p ∈ layT, layOf Go.Proofs.Try.prog p.1 = some p.2 := by
  unfold layT
  refine List.forall_mem_cons.2 ⟨by kernel_rfl, ?_⟩
  refine List.forall_mem_cons.2 ⟨by kernel_rfl, ?_⟩
  refine List.forall_mem_cons.2 ⟨by kernel_rfl, ?_⟩
  refine List.forall_mem_cons.2 ⟨by kernel_rfl, ?_⟩
  refine List.forall_mem_cons.2 ⟨by kernel_rfl, ?_⟩
  refine List.forall_mem_cons.2 ⟨by kernel_rfl, ?_⟩
  refine List.forall_mem_cons.2 ⟨by kernel_rfl, ?_⟩
  refine List.forall_mem_cons.2 ⟨by kernel_rfl, ?_⟩
  refine List.forall_mem_cons.2 ⟨by kernel_rfl, ?_⟩
  refine List.forall_mem_cons.2 ⟨by kernel_rfl, ?_⟩
  refine List.forall_mem_cons.2 ⟨by kernel_rfl, ?_⟩
  refine List.forall_mem_cons.2 ⟨by kernel_rfl, ?_⟩
  refine List.forall_mem_cons.2 ⟨by kernel_rfl, ?_⟩
  refine List.forall_mem_cons.2 ⟨by kernel_rfl, ?_⟩
  refine List.forall_mem_cons.2 ⟨by kernel_rfl, ?_⟩
  refine List.forall_mem_cons.2 ⟨by kernel_rfl, ?_⟩
  refine List.forall_mem_cons.2 ⟨by kernel_rfl, ?_⟩
  refine List.forall_mem_cons.2 ⟨by kernel_rfl, ?_⟩
  refine List.forall_mem_cons.2 ⟨by kernel_rfl, ?_⟩
  refine List.forall_mem_cons.2 ⟨by kernel_rfl, ?_⟩
  refine List.forall_mem_cons.2 ⟨by kernel_rfl, ?_⟩
  refine List.forall_mem_cons.2 ⟨by kernel_rfl, ?_⟩
  refine List.forall_mem_cons.2 ⟨by kernel_rfl, ?_⟩
  refine List.forall_mem_cons.2 ⟨by kernel_rfl, ?_⟩
  refine List.forall_mem_cons.2 ⟨by kernel_rfl, ?_⟩
  refine List.forall_mem_cons.2 ⟨by kernel_rfl, ?_⟩
  refine List.forall_mem_cons.2 ⟨by kernel_rfl, ?_⟩
  refine List.forall_mem_cons.2 ⟨by kernel_rfl, ?_⟩
  refine List.forall_mem_cons.2 ⟨by kernel_rfl, ?_⟩
  refine List.forall_mem_cons.2 ⟨by kernel_rfl, ?_⟩
  refine List.forall_mem_cons.2 ⟨by kernel_rfl, ?_⟩
  refine List.forall_mem_cons.2 ⟨by kernel_rfl, ?_⟩
  refine List.forall_mem_cons.2 ⟨by kernel_rfl, ?_⟩
  refine List.forall_mem_cons.2 ⟨by kernel_rfl, ?_⟩
  refine List.forall_mem_cons.2 ⟨by kernel_rfl, ?_⟩
  refine List.forall_mem_cons.2 ⟨by kernel_rfl, ?_⟩
  refine List.forall_mem_cons.2 ⟨by kernel_rfl, ?_⟩
  refine List.forall_mem_cons.2 ⟨by kernel_rfl, ?_⟩
  refine List.forall_mem_cons.2 ⟨by kernel_rfl, ?_⟩
  refine List.forall_mem_cons.2 ⟨by kernel_rfl, ?_⟩
  refine List.forall_mem_cons.2 ⟨by kernel_rfl, ?_⟩
  refine List.forall_mem_cons.2 ⟨by kernel_rfl, ?_⟩
  refine List.forall_mem_cons.2 ⟨by kernel_rfl, ?_⟩
  refine List.forall_mem_cons.2 ⟨by kernel_rfl, ?_⟩
  refine List.forall_mem_cons.2 ⟨by kernel_rfl, ?_⟩
  refine List.forall_mem_cons.2 ⟨by kernel_rfl, ?_⟩
  refine List.forall_mem_cons.2 ⟨by kernel_rfl, ?_⟩
  refine List.forall_mem_cons.2 ⟨by kernel_rfl, ?_⟩
  refine List.forall_mem_cons.2 ⟨by kernel_rfl, ?_⟩
  refine List.forall_mem_cons.2 ⟨by kernel_rfl, ?_⟩
  refine List.forall_mem_cons.2 ⟨by kernel_rfl, ?_⟩
  refine List.forall_mem_cons.2 ⟨by kernel_rfl, ?_⟩
  refine List.forall_mem_cons.2 ⟨by kernel_rfl, ?_⟩
  refine List.forall_mem_cons.2 ⟨by kernel_rfl, ?_⟩
  refine List.forall_mem_cons.2 ⟨by kernel_rfl, ?_⟩
  refine List.forall_mem_cons.2 ⟨by kernel_rfl, ?_⟩
  refine List.forall_mem_cons.2 ⟨by kernel_rfl, ?_⟩
  refine List.forall_mem_cons.2 ⟨by kernel_rfl, ?_⟩
  refine List.forall_mem_cons.2 ⟨by kernel_rfl, ?_⟩
  refine List.forall_mem_cons.2 ⟨by kernel_rfl, ?_⟩
  refine List.forall_mem_cons.2 ⟨by kernel_rfl, ?_⟩
  refine List.forall_mem_cons.2 ⟨by kernel_rfl, ?_⟩
  refine List.forall_mem_cons.2 ⟨by kernel_rfl, ?_⟩
  refine List.forall_mem_cons.2 ⟨by kernel_rfl, ?_⟩
  refine List.forall_mem_cons.2 ⟨by kernel_rfl, ?_⟩
  refine List.forall_mem_cons.2 ⟨by kernel_rfl, ?_⟩
  refine List.forall_mem_cons.2 ⟨by kernel_rfl, ?_⟩
  refine List.forall_mem_cons.2 ⟨by kernel_rfl, ?_⟩
  refine List.forall_mem_cons.2 ⟨by kernel_rfl, ?_⟩
  refine List.forall_mem_cons.2 ⟨by kernel_rfl, ?_⟩
  refine List.forall_mem_cons.2 ⟨by kernel_rfl, ?_⟩
  refine List.forall_mem_cons.2 ⟨by kernel_rfl, ?_⟩
  refine List.forall_mem_cons.2 ⟨by kernel_rfl, ?_⟩
  refine List.forall_mem_cons.2 ⟨by kernel_rfl, ?_⟩
  refine List.forall_mem_cons.2 ⟨by kernel_rfl, ?_⟩
  refine List.forall_mem_cons.2 ⟨by kernel_rfl, ?_⟩
  refine List.forall_mem_cons.2 ⟨by kernel_rfl, ?_⟩
  refine List.forall_mem_cons.2 ⟨by kernel_rfl, ?_⟩
  refine List.forall_mem_cons.2 ⟨by kernel_rfl, ?_⟩
  refine List.forall_mem_cons.2 ⟨by kernel_rfl, ?_⟩
  refine List.forall_mem_cons.2 ⟨by kernel_rfl, ?_⟩
  refine List.forall_mem_cons.2 ⟨by kernel_rfl, ?_⟩
  refine List.forall_mem_cons.2 ⟨by kernel_rfl, ?_⟩
  refine List.forall_mem_cons.2 ⟨by kernel_rfl, ?_⟩
  refine List.forall_mem_cons.2 ⟨by kernel_rfl, ?_⟩
  refine List.forall_mem_cons.2 ⟨by kernel_rfl, ?_⟩
  refine List.forall_mem_cons.2 ⟨by kernel_rfl, ?_⟩
  refine List.forall_mem_cons.2 ⟨by kernel_rfl, ?_⟩
  refine List.forall_mem_cons.2 ⟨by kernel_rfl, ?_⟩
  refine List.forall_mem_cons.2 ⟨by kernel_rfl, ?_⟩
  refine List.forall_mem_cons.2 ⟨by kernel_rfl, ?_⟩
  refine List.forall_mem_cons.2 ⟨by kernel_rfl, ?_⟩
  refine List.forall_mem_cons.2 ⟨by kernel_rfl, ?_⟩
  refine List.forall_mem_cons.2 ⟨by kernel_rfl, ?_⟩
  refine List.forall_mem_cons.2 ⟨by kernel_rfl, ?_⟩
  refine List.forall_mem_cons.2 ⟨by kernel_rfl, ?_⟩
  refine List.forall_mem_cons.2 ⟨by kernel_rfl, ?_⟩
  refine List.forall_mem_cons.2 ⟨by kernel_rfl, ?_⟩
  refine List.forall_mem_cons.2 ⟨by kernel_rfl, ?_⟩
  refine List.forall_mem_cons.2 ⟨by kernel_rfl, ?_⟩
  refine List.forall_mem_cons.2 ⟨by kernel_rfl, ?_⟩
  refine List.forall_mem_cons.2 ⟨by kernel_rfl, ?_⟩
  refine List.forall_mem_cons.2 ⟨by kernel_rfl, ?_⟩
  refine List.forall_mem_cons.2 ⟨by kernel_rfl, ?_⟩
  refine List.forall_mem_cons.2 ⟨by kernel_rfl, ?_⟩
  refine List.forall_mem_cons.2 ⟨by kernel_rfl, ?_⟩
  refine List.forall_mem_cons.2 ⟨by kernel_rfl, ?_⟩
  refine List.forall_mem_cons.2 ⟨by kernel_rfl, ?_⟩
  refine List.forall_mem_cons.2 ⟨by kernel_rfl, ?_⟩
  refine List.forall_mem_cons.2 ⟨by kernel_rfl, ?_⟩
  refine List.forall_mem_cons.2 ⟨by kernel_rfl, ?_⟩
  refine List.forall_mem_cons.2 ⟨by kernel_rfl, ?_⟩
  refine List.forall_mem_cons.2 ⟨by kernel_rfl, ?_⟩
  refine List.forall_mem_cons.2 ⟨by kernel_rfl, ?_⟩
  refine List.forall_mem_cons.2 ⟨by kernel_rfl, ?_⟩
  refine List.forall_mem_cons.2 ⟨by kernel_rfl, ?_⟩
  refine List.forall_mem_cons.2 ⟨by kernel_rfl, ?_⟩
  exact fun p hp => absurd hp List.not_mem_nil
theorem mem_of_lookup {t : TypeId} {L : Lay} : ∀ {l : List (TypeId × Lay)}, l.lookup t = some L → (t, L) ∈ l
  | [], h => by simp at h
  | (a, b) :: l, h => by
    simp only [List.lookup] at h
    split at h
    · rename_i he
      simp only [beq_iff_eq, Option.some.injEq] at he h
      subst he h
      exact List.mem_cons_self
    · exact List.mem_cons_of_mem _ (mem_of_lookup h)
noncomputable def X : Cx := ⟨Go.Proofs.Try.prog, fun t => layT.lookup t, fun t L h => layOf_ok (layT_ok (t, L) (mem_of_lookup h)), [], by kernel_rfl⟩
theorem lay2 : X.lay 2 = some ⟨.int .i64, 1, 8, [.int .i64 0]⟩ := by kernel_rfl
theorem lay3 : X.lay 3 = some ⟨.int .i64, 1, 8, [.int .i64 0]⟩ := by kernel_rfl
theorem lay4 : X.lay 4 = some ⟨.bool, 1, 1, [.bool false]⟩ := by kernel_rfl
theorem lay22 : X.lay 22 = some ⟨.float .f32, 1, 4, [.float .f32 0]⟩ := by kernel_rfl
theorem lay23 : X.lay 23 = some ⟨.slice 41, 1, 24, [.slice none 0 0]⟩ := by kernel_rfl
theorem lay24 : X.lay 24 = some ⟨.slice 22, 1, 24, [.slice none 0 0]⟩ := by kernel_rfl
theorem lay25 : X.lay 25 = some ⟨.slice 53, 1, 24, [.slice none 0 0]⟩ := by kernel_rfl
theorem lay26 : X.lay 26 = some ⟨.slice 74, 1, 24, [.slice none 0 0]⟩ := by kernel_rfl
theorem lay28 : X.lay 28 = some ⟨.struct [(23, 0), (24, 1), (25, 2), (26, 3), (2, 4), (22, 5), (22, 6)], 7, 112, [.slice none 0 0, .slice none 0 0, .slice none 0 0, .slice none 0 0, .int .i64 0, .float .f32 0, .float .f32 0]⟩ := by kernel_rfl
theorem lay39 : X.lay 39 = some ⟨.array 16 22, 16, 64, [.float .f32 0, .float .f32 0, .float .f32 0, .float .f32 0, .float .f32 0, .float .f32 0, .float .f32 0, .float .f32 0, .float .f32 0, .float .f32 0, .float .f32 0, .float .f32 0, .float .f32 0, .float .f32 0, .float .f32 0, .float .f32 0]⟩ := by kernel_rfl
theorem lay41 : X.lay 41 = some ⟨.struct [(39, 0), (22, 16), (22, 17), (22, 18)], 19, 76, [.float .f32 0, .float .f32 0, .float .f32 0, .float .f32 0, .float .f32 0, .float .f32 0, .float .f32 0, .float .f32 0, .float .f32 0, .float .f32 0, .float .f32 0, .float .f32 0, .float .f32 0, .float .f32 0, .float .f32 0, .float .f32 0, .float .f32 0, .float .f32 0, .float .f32 0]⟩ := by kernel_rfl
theorem lay44 : X.lay 44 = some ⟨.array 4 22, 4, 16, [.float .f32 0, .float .f32 0, .float .f32 0, .float .f32 0]⟩ := by kernel_rfl
theorem lay46 : X.lay 46 = some ⟨.array 4 44, 16, 64, [.float .f32 0, .float .f32 0, .float .f32 0, .float .f32 0, .float .f32 0, .float .f32 0, .float .f32 0, .float .f32 0, .float .f32 0, .float .f32 0, .float .f32 0, .float .f32 0, .float .f32 0, .float .f32 0, .float .f32 0, .float .f32 0]⟩ := by kernel_rfl
theorem lay47 : X.lay 47 = some ⟨.array 4 22, 4, 16, [.float .f32 0, .float .f32 0, .float .f32 0, .float .f32 0]⟩ := by kernel_rfl
theorem lay49 : X.lay 49 = some ⟨.struct [(2, 0), (2, 1), (46, 2), (47, 18)], 22, 96, [.int .i64 0, .int .i64 0, .float .f32 0, .float .f32 0, .float .f32 0, .float .f32 0, .float .f32 0, .float .f32 0, .float .f32 0, .float .f32 0, .float .f32 0, .float .f32 0, .float .f32 0, .float .f32 0, .float .f32 0, .float .f32 0, .float .f32 0, .float .f32 0, .float .f32 0, .float .f32 0, .float .f32 0, .float .f32 0]⟩ := by kernel_rfl
theorem lay51 : X.lay 51 = some ⟨.slice 2, 1, 24, [.slice none 0 0]⟩ := by kernel_rfl
theorem lay53 : X.lay 53 = some ⟨.struct [(49, 0), (51, 22), (51, 23), (2, 24)], 25, 152, [.int .i64 0, .int .i64 0, .float .f32 0, .float .f32 0, .float .f32 0, .float .f32 0, .float .f32 0, .float .f32 0, .float .f32 0, .float .f32 0, .float .f32 0, .float .f32 0, .float .f32 0, .float .f32 0, .float .f32 0, .float .f32 0, .float .f32 0, .float .f32 0, .float .f32 0, .float .f32 0, .float .f32 0, .float .f32 0, .slice none 0 0, .slice none 0 0, .int .i64 0]⟩ := by kernel_rfl
theorem lay59 : X.lay 59 = some ⟨.float .f64, 1, 8, [.float .f64 0]⟩ := by kernel_rfl
theorem lay64 : X.lay 64 = some ⟨.slice 4, 1, 24, [.slice none 0 0]⟩ := by kernel_rfl
theorem lay72 : X.lay 72 = some ⟨.slice 95, 1, 24, [.slice none 0 0]⟩ := by kernel_rfl
theorem lay74 : X.lay 74 = some ⟨.struct [(72, 0), (2, 1), (2, 2)], 3, 40, [.slice none 0 0, .int .i64 0, .int .i64 0]⟩ := by kernel_rfl
theorem lay85 : X.lay 85 = some ⟨.int .u32, 1, 4, [.int .u32 0]⟩ := by kernel_rfl
theorem lay93 : X.lay 93 = some ⟨.array 8 4, 8, 8, [.bool false, .bool false, .bool false, .bool false, .bool false, .bool false, .bool false, .bool false]⟩ := by kernel_rfl
theorem lay95 : X.lay 95 = some ⟨.struct [(93, 0), (2, 8)], 9, 16, [.bool false, .bool false, .bool false, .bool false, .bool false, .bool false, .bool false, .bool false, .int .i64 0]⟩ := by kernel_rfl
theorem lay101 : X.lay 101 = some ⟨.int .u64, 1, 8, [.int .u64 0]⟩ := by kernel_rfl
end Go.VL
namespace Go.VL
open Go.RowKit
set_option maxRecDepth 20000
set_option maxHeartbeats 8000000
theorem cSFs (b : Nat) (hx : okF .f64 (some b)) : PureC X 19 [.c (.f .f64 (some b)), .c (.f .f64 (some b))] (cB (decide True)) := by
  refine PureC.of_body (drawD_ok X) (fun _ _ => Go.Proofs.Try.call19 _ _) Go.Proofs.Try.func19 rfl (n := 37) rfl ?_
  refine w_seq ?_
  refine w_reg rfl ?_
  refine v_assign (c := .v (.bool false)) rfl ?_
  refine v_nil ?_
  refine q_n ?_
  refine w_seq ?_
  refine w_seq ?_
  refine w_reg rfl ?_
  refine v_move rfl ?_
  refine v_move rfl ?_
  refine v_binb lay59 rfl rfl rfl (fun h1 => ?_) (fun h1 => ?_)
  · exact absurd h1 (by rw [ford_self hx]; decide)
  refine v_move rfl ?_
  refine v_guard_on rfl rfl ?_
  refine v_move rfl ?_
  refine v_guard_on rfl rfl ?_
  refine v_move rfl ?_
  refine v_guard_on rfl rfl ?_
  refine v_binb lay59 rfl rfl rfl (fun h2 => ?_) (fun h2 => ?_)
  · exact absurd h2 (by rw [ford_self hx]; decide)
  refine v_pick_f rfl rfl ?_
  refine v_nil ?_
  refine q_n ?_
  refine w_f rfl ?_
  refine w_skip ?_
  refine q_n ?_
  refine w_seq ?_
  refine w_seq ?_
  refine w_reg rfl ?_
  refine v_move rfl ?_
  refine v_binb lay59 rfl rfl rfl (fun h3 => ?_) (fun h3 => ?_)
  rotate_left
  · refine v_move rfl ?_
    refine v_guard_off rfl rfl rfl ?_
    refine v_guard_off rfl rfl rfl ?_
    refine v_pick_f (v := .v (.bool false)) rfl rfl ?_
    refine v_nil ?_
    refine q_n ?_
    refine w_f rfl ?_
    refine w_skip ?_
    refine q_n ?_
    refine w_seq ?_
    refine w_reg rfl ?_
    refine v_move rfl ?_
    refine v_move rfl ?_
    refine v_binb lay59 rfl rfl rfl (fun h8 => ?_) (fun h8 => ?_)
    rotate_left
    · exact absurd h8 (by rw [ford_self hx]; decide)
    refine v_assign rfl ?_
    refine v_nil ?_
    refine q_n ?_
    refine w_ret ?_
    refine r_r rfl ?_
    exact a_b ⟨fun _ => trivial, fun _ => rfl⟩
  refine v_move rfl ?_
  refine v_guard_on rfl rfl ?_
  refine v_move rfl ?_
  refine v_guard_on rfl rfl ?_
  refine v_binb lay59 rfl rfl rfl (fun h4 => ?_) (fun h4 => ?_)
  rotate_left
  · exact absurd (h3.symm.trans h4) (by decide)
  refine v_pick_t rfl rfl ?_
  refine v_nil ?_
  refine q_n ?_
  refine w_t rfl ?_
  refine w_seq ?_
  refine w_reg rfl ?_
  refine v_move rfl ?_
  refine v_bin (c := .f _ _) lay59 rfl rfl rfl ?_
  refine v_binb lay59 rfl rfl rfl (fun h5 => ?_) (fun h5 => ?_)
  rotate_left
  · refine v_move rfl ?_
    refine v_bin (c := .f _ _) lay59 rfl rfl rfl ?_
    refine v_binb lay59 rfl rfl rfl (fun h7 => ?_) (fun h7 => ?_)
    · exact absurd (h7.symm.trans h5) (by decide)
    refine v_bin (c := .v (.bool true)) lay4 rfl rfl rfl ?_
    refine v_assign rfl ?_
    refine v_nil ?_
    refine q_n ?_
    refine w_ret (q_r ?_)
    refine r_r rfl ?_
    exact a_b ⟨fun _ => trivial, fun _ => rfl⟩
  refine v_move rfl ?_
  refine v_bin (c := .f _ _) lay59 rfl rfl rfl ?_
  refine v_binb lay59 rfl rfl rfl (fun h6 => ?_) (fun h6 => ?_)
  rotate_left
  · exact absurd (h5.symm.trans h6) (by decide)
  refine v_bin (c := .v (.bool true)) lay4 rfl rfl rfl ?_
  refine v_assign rfl ?_
  refine v_nil ?_
  refine q_n ?_
  refine w_ret (q_r ?_)
  refine r_r rfl ?_
  exact a_b ⟨fun _ => trivial, fun _ => rfl⟩
theorem cSFn : PureC X 19 [.c (.f .f64 none), .c (.f .f64 none)] (cB (decide True)) := by
  refine PureC.of_body (drawD_ok X) (fun _ _ => Go.Proofs.Try.call19 _ _) Go.Proofs.Try.func19 rfl (n := 37) rfl ?_
  refine w_seq ?_
  refine w_reg rfl ?_
  refine v_assign (c := .v (.bool false)) rfl ?_
  refine v_nil ?_
  refine q_n ?_
  refine w_seq ?_
  refine w_seq ?_
  refine w_reg rfl ?_
  refine v_move rfl ?_
  refine v_move rfl ?_
  refine v_binb lay59 rfl rfl rfl (fun h1 => ?_) (fun h1 => ?_)
  rotate_left
  · exact absurd h1 (by decide)
  refine v_move rfl ?_
  refine v_guard_off rfl rfl rfl ?_
  refine v_guard_off rfl rfl rfl ?_
  refine v_guard_off rfl rfl rfl ?_
  refine v_pick_t (v := .v (.bool true)) rfl rfl ?_
  refine v_nil ?_
  refine q_n ?_
  refine w_t rfl ?_
  refine w_seq ?_
  refine w_reg rfl ?_
  refine v_move rfl ?_
  refine v_move rfl ?_
  refine v_binb lay59 rfl rfl rfl (fun h2 => ?_) (fun h2 => ?_)
  rotate_left
  · exact absurd h2 (by decide)
  refine v_move rfl ?_
  refine v_guard_on rfl rfl ?_
  refine v_move rfl ?_
  refine v_guard_on rfl rfl ?_
  refine v_move rfl ?_
  refine v_guard_on rfl rfl ?_
  refine v_binb lay59 rfl rfl rfl (fun h3 => ?_) (fun h3 => ?_)
  rotate_left
  · exact absurd h3 (by decide)
  refine v_pick_t rfl rfl ?_
  refine v_assign rfl ?_
  refine v_nil ?_
  refine q_n ?_
  refine w_ret (q_r ?_)
  refine r_r rfl ?_
  exact a_b ⟨fun _ => trivial, fun _ => rfl⟩
theorem cSF (x : Option Nat) (hx : okF .f64 x) : PureC X 19 [.c (.f .f64 x), .c (.f .f64 x)] (cB (decide True)) := by
  cases x with
  | none => exact cSFn
  | some b => exact cSFs b hx
theorem cFB (b : Nat) : PureC X 45 [.c (.f .f32 (some b))] (.c (.v (.int .u32 b))) := pure_f32bits Go.Proofs.Try.func45 (by kernel_rfl) rfl (by kernel_rfl) (by kernel_rfl) b
theorem cEqCars (g : Fin 16 → Option Nat) (hg : ∀ i (hi : i < 16), okF .f32 (g ⟨i, hi⟩)) : PureC X 49 [.agg (cac g), .agg (cac g)] (cB (decide True)) := by
  refine PureC.of_body (drawD_ok X) (fun _ _ => Go.Proofs.Try.call49 _ _) Go.Proofs.Try.func49 rfl (n := 20) rfl ?_
  refine w_seq ?_
  refine w_reg rfl ?_
  refine v_box (m := 0) (H' := [_]) lay39 rfl rfl rfl ?_
  refine v_box (m := 1) (H' := [_, _]) lay39 rfl rfl rfl ?_
  refine v_assign (c := .v (.bool false)) rfl ?_
  refine v_nil ?_
  refine q_n ?_
  refine w_seq ?_
  refine w_seq ?_
  refine w_reg rfl ?_
  refine v_assign (c := .v (.int .i64 0)) rfl ?_
  refine v_nil ?_
  refine q_n ?_
  refine w_block ?_
  refine w_loop (fun k sl H => ∃ i : Nat, k = 16 - i ∧ i ≤ 16 ∧ sl = sls [(2, .c (.pt 0 0)), (3, .c (.pt 1 0)), (5, cI i)] ∧ H = [⟨flat fe (l16 g), 39, true⟩, ⟨flat fe (l16 g), 39, true⟩]) ?_ ?_
  · refine ⟨_, _, _, ?_, 0, rfl, Nat.zero_le _, rfl, rfl⟩
    exact turn [some 0, some 1] rfl rfl rfl ⟨⟨_, rfl, trc_flat fe_sc rfl⟩, ⟨_, rfl, trc_flat fe_sc rfl⟩, trivial⟩ ⟨tr_pt rfl, tr_pt rfl, tr_v, trivial⟩
  rintro k sl H ⟨i, rfl, hi, rfl, rfl⟩
  refine w_seq ?_
  refine w_seq ?_
  refine w_reg rfl ?_
  refine v_move rfl ?_
  refine v_lss lay3 rfl rfl (fun h1 => ?_) (fun h1 => ?_)
  rotate_left
  · refine v_nil ?_
    refine q_n ?_
    refine w_f rfl ?_
    refine w_exit ?_
    refine q_e ?_
    refine q_e ?_
    refine q_hit ?_
    refine q_n ?_
    refine w_seq ?_
    refine w_reg rfl ?_
    refine v_assign (c := .v (.bool true)) rfl ?_
    refine v_nil ?_
    refine q_n ?_
    refine w_ret ?_
    refine r_r rfl ?_
    exact a_b ⟨fun _ => trivial, fun _ => rfl⟩
  have hi1 : i < 16 := by omega
  refine v_nil ?_
  refine q_n ?_
  refine w_t rfl ?_
  refine w_skip ?_
  refine q_n ?_
  refine w_seq ?_
  refine w_block ?_
  refine w_seq ?_
  refine w_draw [0, 1, 3, 7, 0, 16, 48, 112, 255, 511] [⟨0, 0, []⟩, ⟨1, 0, []⟩, ⟨2, 0, []⟩, ⟨3, 0, []⟩, ⟨4, 0, []⟩, ⟨5, 0, []⟩, ⟨6, 0, []⟩, ⟨7, 0, []⟩, ⟨8, 0, []⟩, ⟨9, 0, []⟩] rfl rfl ?_
  refine d_q rfl rfl rfl rfl rfl ?_
  refine v_move rfl ?_
  refine v_nil ?_
  refine d_q rfl rfl rfl rfl rfl ?_
  refine v_idx_arr_e (k := 1) (i) lay39 lay22 rfl rfl rfl (rfl) (hi1) ?_
  refine v_nil ?_
  refine d_q rfl rfl rfl rfl rfl ?_
  refine v_load_flat_e (enc := fe) (ys := l16 g) i 0 (.c (.f .f32 (g ⟨i, hi1⟩))) fe_len lay22 rfl rfl (by omega) hi1 (by decide) (f16_ld g hi1 _) ?_
  refine v_nil ?_
  refine d_q rfl rfl rfl rfl rfl ?_
  refine v_conv_ff _ lay22 lay59 rfl (convF_single (hg i hi1)) ?_
  refine v_nil ?_
  refine d_q rfl rfl rfl rfl rfl ?_
  refine v_move rfl ?_
  refine v_nil ?_
  refine d_q rfl rfl rfl rfl rfl ?_
  refine v_idx_arr_e (k := 1) (i) lay39 lay22 rfl rfl rfl (rfl) (hi1) ?_
  refine v_nil ?_
  refine d_q rfl rfl rfl rfl rfl ?_
  refine v_load_flat_e (enc := fe) (ys := l16 g) i 0 (.c (.f .f32 (g ⟨i, hi1⟩))) fe_len lay22 rfl rfl (by omega) hi1 (by decide) (f16_ld g hi1 _) ?_
  refine v_nil ?_
  refine d_q rfl rfl rfl rfl rfl ?_
  refine v_conv_ff _ lay22 lay59 rfl (convF_single (hg i hi1)) ?_
  refine v_nil ?_
  refine d_callb (cSF _ (wide_ok (hg i hi1))) rfl rfl rfl rfl (.cons vw_f (.cons vw_f .nil)) (fun h2 => ?_) (fun h2 => ?_)
  rotate_left
  · exact absurd trivial h2
  refine d_q rfl rfl rfl rfl rfl ?_
  refine v_not false rfl rfl ?_
  refine v_nil ?_
  refine d_nil ?_
  refine q_n ?_
  refine w_f rfl ?_
  refine w_skip ?_
  refine q_bn ?_
  refine q_n ?_
  refine w_reg rfl ?_
  refine v_move rfl ?_
  refine v_add lay3 rfl rfl (i64r (by omega)) ?_
  refine v_assign rfl ?_
  refine v_nil ?_
  refine q_n ?_
  refine ⟨_, _, _, ?_, ⟨i + 1, rfl, by omega, rfl, rfl⟩, by omega⟩
  exact turn [some 0, some 1] rfl rfl rfl ⟨⟨_, rfl, trc_flat fe_sc rfl⟩, ⟨_, rfl, trc_flat fe_sc rfl⟩, trivial⟩ ⟨tr_pt rfl, tr_pt rfl, tr_v, trivial⟩
theorem cEqFour (g : Fin 4 → Option Nat) (hg : ∀ i (hi : i < 4), okF .f32 (g ⟨i, hi⟩)) : PureC X 58 [.agg (foc g), .agg (foc g)] (cB (decide True)) := by
  refine PureC.of_body (drawD_ok X) (fun _ _ => Go.Proofs.Try.call58 _ _) Go.Proofs.Try.func58 rfl (n := 20) rfl ?_
  refine w_seq ?_
  refine w_reg rfl ?_
  refine v_box (m := 0) (H' := [_]) lay47 rfl rfl rfl ?_
  refine v_box (m := 1) (H' := [_, _]) lay47 rfl rfl rfl ?_
  refine v_assign (c := .v (.bool false)) rfl ?_
  refine v_nil ?_
  refine q_n ?_
  refine w_seq ?_
  refine w_seq ?_
  refine w_reg rfl ?_
  refine v_assign (c := .v (.int .i64 0)) rfl ?_
  refine v_nil ?_
  refine q_n ?_
  refine w_block ?_
  refine w_loop (fun k sl H => ∃ i : Nat, k = 4 - i ∧ i ≤ 4 ∧ sl = sls [(2, .c (.pt 0 0)), (3, .c (.pt 1 0)), (5, cI i)] ∧ H = [⟨flat fe (l4 g), 47, true⟩, ⟨flat fe (l4 g), 47, true⟩]) ?_ ?_
  · refine ⟨_, _, _, ?_, 0, rfl, Nat.zero_le _, rfl, rfl⟩
    exact turn [some 0, some 1] rfl rfl rfl ⟨⟨_, rfl, trc_flat fe_sc rfl⟩, ⟨_, rfl, trc_flat fe_sc rfl⟩, trivial⟩ ⟨tr_pt rfl, tr_pt rfl, tr_v, trivial⟩
  rintro k sl H ⟨i, rfl, hi, rfl, rfl⟩
  refine w_seq ?_
  refine w_seq ?_
  refine w_reg rfl ?_
  refine v_move rfl ?_
  refine v_lss lay3 rfl rfl (fun h1 => ?_) (fun h1 => ?_)
  rotate_left
  · refine v_nil ?_
    refine q_n ?_
    refine w_f rfl ?_
    refine w_exit ?_
    refine q_e ?_
    refine q_e ?_
    refine q_hit ?_
    refine q_n ?_
    refine w_seq ?_
    refine w_reg rfl ?_
    refine v_assign (c := .v (.bool true)) rfl ?_
    refine v_nil ?_
    refine q_n ?_
    refine w_ret ?_
    refine r_r rfl ?_
    exact a_b ⟨fun _ => trivial, fun _ => rfl⟩
  have hi1 : i < 4 := by omega
  refine v_nil ?_
  refine q_n ?_
  refine w_t rfl ?_
  refine w_skip ?_
  refine q_n ?_
  refine w_seq ?_
  refine w_block ?_
  refine w_seq ?_
  refine w_draw [0, 1, 3, 7, 0, 16, 48, 112, 255, 511] [⟨0, 0, []⟩, ⟨1, 0, []⟩, ⟨2, 0, []⟩, ⟨3, 0, []⟩, ⟨4, 0, []⟩, ⟨5, 0, []⟩, ⟨6, 0, []⟩, ⟨7, 0, []⟩, ⟨8, 0, []⟩, ⟨9, 0, []⟩] rfl rfl ?_
  refine d_q rfl rfl rfl rfl rfl ?_
  refine v_move rfl ?_
  refine v_nil ?_
  refine d_q rfl rfl rfl rfl rfl ?_
  refine v_idx_arr_e (k := 1) (i) lay47 lay22 rfl rfl rfl (rfl) (hi1) ?_
  refine v_nil ?_
  refine d_q rfl rfl rfl rfl rfl ?_
  refine v_load_flat_e (enc := fe) (ys := l4 g) i 0 (.c (.f .f32 (g ⟨i, hi1⟩))) fe_len lay22 rfl rfl (by omega) hi1 (by decide) (f4_ld g hi1 _) ?_
  refine v_nil ?_
  refine d_q rfl rfl rfl rfl rfl ?_
  refine v_conv_ff _ lay22 lay59 rfl (convF_single (hg i hi1)) ?_
  refine v_nil ?_
  refine d_q rfl rfl rfl rfl rfl ?_
  refine v_move rfl ?_
  refine v_nil ?_
  refine d_q rfl rfl rfl rfl rfl ?_
  refine v_idx_arr_e (k := 1) (i) lay47 lay22 rfl rfl rfl (rfl) (hi1) ?_
  refine v_nil ?_
  refine d_q rfl rfl rfl rfl rfl ?_
  refine v_load_flat_e (enc := fe) (ys := l4 g) i 0 (.c (.f .f32 (g ⟨i, hi1⟩))) fe_len lay22 rfl rfl (by omega) hi1 (by decide) (f4_ld g hi1 _) ?_
  refine v_nil ?_
  refine d_q rfl rfl rfl rfl rfl ?_
  refine v_conv_ff _ lay22 lay59 rfl (convF_single (hg i hi1)) ?_
  refine v_nil ?_
  refine d_callb (cSF _ (wide_ok (hg i hi1))) rfl rfl rfl rfl (.cons vw_f (.cons vw_f .nil)) (fun h2 => ?_) (fun h2 => ?_)
  rotate_left
  · exact absurd trivial h2
  refine d_q rfl rfl rfl rfl rfl ?_
  refine v_not false rfl rfl ?_
  refine v_nil ?_
  refine d_nil ?_
  refine q_n ?_
  refine w_f rfl ?_
  refine w_skip ?_
  refine q_bn ?_
  refine q_n ?_
  refine w_reg rfl ?_
  refine v_move rfl ?_
  refine v_add lay3 rfl rfl (i64r (by omega)) ?_
  refine v_assign rfl ?_
  refine v_nil ?_
  refine q_n ?_
  refine ⟨_, _, _, ?_, ⟨i + 1, rfl, by omega, rfl, rfl⟩, by omega⟩
  exact turn [some 0, some 1] rfl rfl rfl ⟨⟨_, rfl, trc_flat fe_sc rfl⟩, ⟨_, rfl, trc_flat fe_sc rfl⟩, trivial⟩ ⟨tr_pt rfl, tr_pt rfl, tr_v, trivial⟩
theorem cEqA4 (g : Fin 4 → Option Nat) (hg : ∀ i (hi : i < 4), okF .f32 (g ⟨i, hi⟩)) : PureC X 61 [.agg (foc g), .agg (foc g)] (cB (decide True)) := by
  refine PureC.of_body (drawD_ok X) (fun _ _ => Go.Proofs.Try.call61 _ _) Go.Proofs.Try.func61 rfl (n := 20) rfl ?_
  refine w_seq ?_
  refine w_reg rfl ?_
  refine v_box (m := 0) (H' := [_]) lay44 rfl rfl rfl ?_
  refine v_box (m := 1) (H' := [_, _]) lay44 rfl rfl rfl ?_
  refine v_assign (c := .v (.bool false)) rfl ?_
  refine v_nil ?_
  refine q_n ?_
  refine w_seq ?_
  refine w_seq ?_
  refine w_reg rfl ?_
  refine v_assign (c := .v (.int .i64 0)) rfl ?_
  refine v_nil ?_
  refine q_n ?_
  refine w_block ?_
  refine w_loop (fun k sl H => ∃ i : Nat, k = 4 - i ∧ i ≤ 4 ∧ sl = sls [(2, .c (.pt 0 0)), (3, .c (.pt 1 0)), (5, cI i)] ∧ H = [⟨flat fe (l4 g), 44, true⟩, ⟨flat fe (l4 g), 44, true⟩]) ?_ ?_
  · refine ⟨_, _, _, ?_, 0, rfl, Nat.zero_le _, rfl, rfl⟩
    exact turn [some 0, some 1] rfl rfl rfl ⟨⟨_, rfl, trc_flat fe_sc rfl⟩, ⟨_, rfl, trc_flat fe_sc rfl⟩, trivial⟩ ⟨tr_pt rfl, tr_pt rfl, tr_v, trivial⟩
  rintro k sl H ⟨i, rfl, hi, rfl, rfl⟩
  refine w_seq ?_
  refine w_seq ?_
  refine w_reg rfl ?_
  refine v_move rfl ?_
  refine v_lss lay3 rfl rfl (fun h1 => ?_) (fun h1 => ?_)
  rotate_left
  · refine v_nil ?_
    refine q_n ?_
    refine w_f rfl ?_
    refine w_exit ?_
    refine q_e ?_
    refine q_e ?_
    refine q_hit ?_
    refine q_n ?_
    refine w_seq ?_
    refine w_reg rfl ?_
    refine v_assign (c := .v (.bool true)) rfl ?_
    refine v_nil ?_
    refine q_n ?_
    refine w_ret ?_
    refine r_r rfl ?_
    exact a_b ⟨fun _ => trivial, fun _ => rfl⟩
  have hi1 : i < 4 := by omega
  refine v_nil ?_
  refine q_n ?_
  refine w_t rfl ?_
  refine w_skip ?_
  refine q_n ?_
  refine w_seq ?_
  refine w_block ?_
  refine w_seq ?_
  refine w_draw [0, 1, 3, 7, 0, 16, 48, 112, 255, 511] [⟨0, 0, []⟩, ⟨1, 0, []⟩, ⟨2, 0, []⟩, ⟨3, 0, []⟩, ⟨4, 0, []⟩, ⟨5, 0, []⟩, ⟨6, 0, []⟩, ⟨7, 0, []⟩, ⟨8, 0, []⟩, ⟨9, 0, []⟩] rfl rfl ?_
  refine d_q rfl rfl rfl rfl rfl ?_
  refine v_move rfl ?_
  refine v_nil ?_
  refine d_q rfl rfl rfl rfl rfl ?_
  refine v_idx_arr_e (k := 1) (i) lay44 lay22 rfl rfl rfl (rfl) (hi1) ?_
  refine v_nil ?_
  refine d_q rfl rfl rfl rfl rfl ?_
  refine v_load_flat_e (enc := fe) (ys := l4 g) i 0 (.c (.f .f32 (g ⟨i, hi1⟩))) fe_len lay22 rfl rfl (by omega) hi1 (by decide) (f4_ld g hi1 _) ?_
  refine v_nil ?_
  refine d_q rfl rfl rfl rfl rfl ?_
  refine v_conv_ff _ lay22 lay59 rfl (convF_single (hg i hi1)) ?_
  refine v_nil ?_
  refine d_q rfl rfl rfl rfl rfl ?_
  refine v_move rfl ?_
  refine v_nil ?_
  refine d_q rfl rfl rfl rfl rfl ?_
  refine v_idx_arr_e (k := 1) (i) lay44 lay22 rfl rfl rfl (rfl) (hi1) ?_
  refine v_nil ?_
  refine d_q rfl rfl rfl rfl rfl ?_
  refine v_load_flat_e (enc := fe) (ys := l4 g) i 0 (.c (.f .f32 (g ⟨i, hi1⟩))) fe_len lay22 rfl rfl (by omega) hi1 (by decide) (f4_ld g hi1 _) ?_
  refine v_nil ?_
  refine d_q rfl rfl rfl rfl rfl ?_
  refine v_conv_ff _ lay22 lay59 rfl (convF_single (hg i hi1)) ?_
  refine v_nil ?_
  refine d_callb (cSF _ (wide_ok (hg i hi1))) rfl rfl rfl rfl (.cons vw_f (.cons vw_f .nil)) (fun h2 => ?_) (fun h2 => ?_)
  rotate_left
  · exact absurd trivial h2
  refine d_q rfl rfl rfl rfl rfl ?_
  refine v_not false rfl rfl ?_
  refine v_nil ?_
  refine d_nil ?_
  refine q_n ?_
  refine w_f rfl ?_
  refine w_skip ?_
  refine q_bn ?_
  refine q_n ?_
  refine w_reg rfl ?_
  refine v_move rfl ?_
  refine v_add lay3 rfl rfl (i64r (by omega)) ?_
  refine v_assign rfl ?_
  refine v_nil ?_
  refine q_n ?_
  refine ⟨_, _, _, ?_, ⟨i + 1, rfl, by omega, rfl, rfl⟩, by omega⟩
  exact turn [some 0, some 1] rfl rfl rfl ⟨⟨_, rfl, trc_flat fe_sc rfl⟩, ⟨_, rfl, trc_flat fe_sc rfl⟩, trivial⟩ ⟨tr_pt rfl, tr_pt rfl, tr_v, trivial⟩
end Go.VL
namespace Go.VL
open Go.RowKit
set_option maxRecDepth 20000
set_option maxHeartbeats 8000000
/-- A single as data. -/
def Sg (x : Option Nat) : Prop := okF .f32 x ∧ ∀ b, x = some b → b < 2 ^ 32
abbrev Rd := Ca × Option Nat × Option Nat × Option Nat
def rdc (r : Rd) : List C := [.f .f32 (r.1 0), .f .f32 (r.1 1), .f .f32 (r.1 2), .f .f32 (r.1 3), .f .f32 (r.1 4), .f .f32 (r.1 5), .f .f32 (r.1 6), .f .f32 (r.1 7), .f .f32 (r.1 8), .f .f32 (r.1 9), .f .f32 (r.1 10), .f .f32 (r.1 11), .f .f32 (r.1 12), .f .f32 (r.1 13), .f .f32 (r.1 14), .f .f32 (r.1 15), .f .f32 r.2.1, .f .f32 r.2.2.1, .f .f32 r.2.2.2]
theorem rdc_len (r : Rd) : (rdc r).length = 19 := rfl
theorem rdc_sc (r : Rd) : (rdc r).all sc = true := rfl
abbrev rds (o : Bool) (xs : List Rd) : C := .sl o xs.length 19 (flat rdc xs)
def zR : Rd := (fun _ => some 0, some 0, some 0, some 0)
def rW (r : Rd) : Prop := (∀ i (hi : i < 16), Sg (r.1 ⟨i, hi⟩)) ∧ Sg r.2.1 ∧ Sg r.2.2.1 ∧ Sg r.2.2.2
abbrev Jn := Int × Int × Fl × Fo
abbrev jnc (j : Jn) : List C := [.v (.int .i64 j.1), .v (.int .i64 j.2.1), .f .f32 (j.2.2.1 0 0), .f .f32 (j.2.2.1 0 1), .f .f32 (j.2.2.1 0 2), .f .f32 (j.2.2.1 0 3), .f .f32 (j.2.2.1 1 0), .f .f32 (j.2.2.1 1 1), .f .f32 (j.2.2.1 1 2), .f .f32 (j.2.2.1 1 3), .f .f32 (j.2.2.1 2 0), .f .f32 (j.2.2.1 2 1), .f .f32 (j.2.2.1 2 2), .f .f32 (j.2.2.1 2 3), .f .f32 (j.2.2.1 3 0), .f .f32 (j.2.2.1 3 1), .f .f32 (j.2.2.1 3 2), .f .f32 (j.2.2.1 3 3), .f .f32 (j.2.2.2 0), .f .f32 (j.2.2.2 1), .f .f32 (j.2.2.2 2), .f .f32 (j.2.2.2 3)]
def jW (j : Jn) : Prop := (∀ i (hi : i < 4) k (hk : k < 4), Sg (j.2.2.1 ⟨i, hi⟩ ⟨k, hk⟩)) ∧ ∀ i (hi : i < 4), Sg (j.2.2.2 ⟨i, hi⟩)
/-- A joint: its junction, its ins, its outs, its plan. -/
abbrev Jo := Jn × List Int × List Int × Int
abbrev jof (o : Bool) (j : Jo) : List C := [.v (.int .i64 j.1.1), .v (.int .i64 j.1.2.1), .f .f32 (j.1.2.2.1 0 0), .f .f32 (j.1.2.2.1 0 1), .f .f32 (j.1.2.2.1 0 2), .f .f32 (j.1.2.2.1 0 3), .f .f32 (j.1.2.2.1 1 0), .f .f32 (j.1.2.2.1 1 1), .f .f32 (j.1.2.2.1 1 2), .f .f32 (j.1.2.2.1 1 3), .f .f32 (j.1.2.2.1 2 0), .f .f32 (j.1.2.2.1 2 1), .f .f32 (j.1.2.2.1 2 2), .f .f32 (j.1.2.2.1 2 3), .f .f32 (j.1.2.2.1 3 0), .f .f32 (j.1.2.2.1 3 1), .f .f32 (j.1.2.2.1 3 2), .f .f32 (j.1.2.2.1 3 3), .f .f32 (j.1.2.2.2 0), .f .f32 (j.1.2.2.2 1), .f .f32 (j.1.2.2.2 2), .f .f32 (j.1.2.2.2 3),
  .sl o j.2.1.length 1 (flat int j.2.1), .sl o j.2.2.1.length 1 (flat int j.2.2.1), .v (.int .i64 j.2.2.2)]
def joc (j : Jo) : List C := jof true j
theorem joc_len (j : Jo) : (joc j).length = 25 := rfl
abbrev jos (o : Bool) (js : List Jo) : C := .sl o js.length 25 (flat joc js)
abbrev Slo := Ph × Int
def stc (s : Slo) : List C := [.v (.bool (s.1 0)), .v (.bool (s.1 1)), .v (.bool (s.1 2)), .v (.bool (s.1 3)), .v (.bool (s.1 4)), .v (.bool (s.1 5)), .v (.bool (s.1 6)), .v (.bool (s.1 7)), .v (.int .i64 s.2)]
theorem stc_len (s : Slo) : (stc s).length = 9 := rfl
abbrev sts (o : Bool) (xs : List Slo) : C := .sl o xs.length 9 (flat stc xs)
abbrev pln (o : Bool) (xs : List Slo) (b f : Int) : List C := [sts o xs, .v (.int .i64 b), .v (.int .i64 f)]
theorem pl_ld (g : Ph) {i : Nat} (h : i < 8) (h' : i < (pl g).length) : mkV false (sub (bo ((pl g)[i]'h')) 0 1) = some (.c (.v (.bool (g ⟨i, h⟩)))) := by
  rw [pl_get g h]
  rfl
abbrev Pln := List Slo × Int × Int
def plc (p : Pln) : List C := [.sl true p.1.length 9 (flat stc p.1), .v (.int .i64 p.2.1), .v (.int .i64 p.2.2)]
theorem plc_len (p : Pln) : (plc p).length = 3 := rfl
theorem plc_sc (p : Pln) : (plc p).all fz = true := rfl
abbrev plf (p : Pln) : List C := pln false p.1 p.2.1 p.2.2
abbrev pls (o : Bool) (ps : List Pln) : C := .sl o ps.length 3 (flat plc ps)
theorem cEqFlows (T : Fl) (hT : ∀ i (hi : i < 4) k (hk : k < 4), Sg (T ⟨i, hi⟩ ⟨k, hk⟩)) : PureC X 57 [.agg (flc T), .agg (flc T)] (cB (decide True)) := by
  refine PureC.of_body (drawD_ok X) (fun _ _ => Go.Proofs.Try.call57 _ _) Go.Proofs.Try.func57 rfl (n := 18) rfl ?_
  refine w_seq ?_
  refine w_reg rfl ?_
  refine v_box (m := 0) (H' := [_]) lay46 rfl rfl rfl ?_
  refine v_box (m := 1) (H' := [_, _]) lay46 rfl rfl rfl ?_
  refine v_assign (c := .v (.bool false)) rfl ?_
  refine v_nil ?_
  refine q_n ?_
  refine w_seq ?_
  refine w_seq ?_
  refine w_reg rfl ?_
  refine v_assign (c := .v (.int .i64 0)) rfl ?_
  refine v_nil ?_
  refine q_n ?_
  refine w_block ?_
  refine w_loop (fun k sl H => ∃ i : Nat, k = 4 - i ∧ i ≤ 4 ∧ sl = sls [(2, .c (.pt 0 0)), (3, .c (.pt 1 0)), (5, cI i)] ∧ H = [⟨flat foc (l4 T), 46, true⟩, ⟨flat foc (l4 T), 46, true⟩]) ?_ ?_
  · refine ⟨_, _, _, ?_, 0, rfl, Nat.zero_le _, rfl, rfl⟩
    exact turn [some 0, some 1] rfl rfl rfl ⟨⟨_, rfl, trc_flat foc_sc rfl⟩, ⟨_, rfl, trc_flat foc_sc rfl⟩, trivial⟩ ⟨tr_pt rfl, tr_pt rfl, tr_v, trivial⟩
  rintro k sl H ⟨i, rfl, hi, rfl, rfl⟩
  refine w_seq ?_
  refine w_seq ?_
  refine w_reg rfl ?_
  refine v_move rfl ?_
  refine v_lss lay3 rfl rfl (fun h1 => ?_) (fun h1 => ?_)
  rotate_left
  · refine v_nil ?_
    refine q_n ?_
    refine w_f rfl ?_
    refine w_exit ?_
    refine q_e ?_
    refine q_e ?_
    refine q_hit ?_
    refine q_n ?_
    refine w_seq ?_
    refine w_reg rfl ?_
    refine v_assign (c := .v (.bool true)) rfl ?_
    refine v_nil ?_
    refine q_n ?_
    refine w_ret ?_
    refine r_r rfl ?_
    exact a_b ⟨fun _ => trivial, fun _ => rfl⟩
  have hi1 : i < 4 := by omega
  refine v_nil ?_
  refine q_n ?_
  refine w_t rfl ?_
  refine w_skip ?_
  refine q_n ?_
  refine w_seq ?_
  refine w_block ?_
  refine w_seq ?_
  refine w_draw [0, 1, 3, 0, 8, 24, 63, 127] [⟨0, 0, []⟩, ⟨1, 0, []⟩, ⟨2, 0, []⟩, ⟨3, 0, []⟩, ⟨4, 0, []⟩, ⟨5, 0, []⟩, ⟨6, 0, []⟩, ⟨7, 0, []⟩] rfl rfl ?_
  refine d_q rfl rfl rfl rfl rfl ?_
  refine v_move rfl ?_
  refine v_nil ?_
  refine d_q rfl rfl rfl rfl rfl ?_
  refine v_idx_arr_e (k := 4) (i) lay46 lay44 rfl rfl rfl (rfl) (hi1) ?_
  refine v_nil ?_
  refine d_q rfl rfl rfl rfl rfl ?_
  refine v_load_flat_e (enc := foc) (ys := l4 T) i 0 (.agg (foc (T ⟨i, hi1⟩))) foc_len lay44 rfl rfl (by omega) hi1 (by decide) (r4_ld T hi1 _) ?_
  refine v_nil ?_
  refine d_q rfl rfl rfl rfl rfl ?_
  refine v_move rfl ?_
  refine v_nil ?_
  refine d_q rfl rfl rfl rfl rfl ?_
  refine v_idx_arr_e (k := 4) (i) lay46 lay44 rfl rfl rfl (rfl) (hi1) ?_
  refine v_nil ?_
  refine d_q rfl rfl rfl rfl rfl ?_
  refine v_load_flat_e (enc := foc) (ys := l4 T) i 0 (.agg (foc (T ⟨i, hi1⟩))) foc_len lay44 rfl rfl (by omega) hi1 (by decide) (r4_ld T hi1 _) ?_
  refine v_nil ?_
  refine d_callb (cEqA4 _ (fun k hk => (hT i hi1 k hk).1)) rfl rfl rfl rfl (.cons (vw_agg (.cons vw_f (.cons vw_f (.cons vw_f (.cons vw_f .nil))))) (.cons (vw_agg (.cons vw_f (.cons vw_f (.cons vw_f (.cons vw_f .nil))))) .nil)) (fun h2 => ?_) (fun h2 => ?_)
  rotate_left
  · exact absurd trivial h2
  refine d_q rfl rfl rfl rfl rfl ?_
  refine v_not false rfl rfl ?_
  refine v_nil ?_
  refine d_nil ?_
  refine q_n ?_
  refine w_f rfl ?_
  refine w_skip ?_
  refine q_bn ?_
  refine q_n ?_
  refine w_reg rfl ?_
  refine v_move rfl ?_
  refine v_add lay3 rfl rfl (i64r (by omega)) ?_
  refine v_assign rfl ?_
  refine v_nil ?_
  refine q_n ?_
  refine ⟨_, _, _, ?_, ⟨i + 1, rfl, by omega, rfl, rfl⟩, by omega⟩
  exact turn [some 0, some 1] rfl rfl rfl ⟨⟨_, rfl, trc_flat foc_sc rfl⟩, ⟨_, rfl, trc_flat foc_sc rfl⟩, trivial⟩ ⟨tr_pt rfl, tr_pt rfl, tr_v, trivial⟩
theorem cEqRoad (r : Rd) (hW : rW r) : PureC X 34 [.agg (rdc r), .agg (rdc r)] (cB (decide True)) := by
  refine PureC.of_body (drawD_ok X) (fun _ _ => Go.Proofs.Try.call34 _ _) Go.Proofs.Try.func34 rfl (n := 35) rfl ?_
  refine w_seq ?_
  refine w_reg rfl ?_
  refine v_box (m := 0) (H' := [_]) lay41 rfl rfl rfl ?_
  refine v_box (m := 1) (H' := [_, _]) lay41 rfl rfl rfl ?_
  refine v_assign (c := .v (.bool false)) rfl ?_
  refine v_nil ?_
  refine q_n ?_
  refine w_seq ?_
  refine w_seq ?_
  refine w_reg rfl ?_
  refine v_fa_pt (off' := 0) lay41 rfl rfl rfl ?_
  refine v_load_pt (.agg [_, _, _, _, _, _, _, _, _, _, _, _, _, _, _, _]) lay39 rfl rfl rfl rfl ?_
  refine v_fa_pt (off' := 0) lay41 rfl rfl rfl ?_
  refine v_load_pt (.agg [_, _, _, _, _, _, _, _, _, _, _, _, _, _, _, _]) lay39 rfl rfl rfl rfl ?_
  refine v_callb (cEqCars _ (fun i hi => (hW.1 i hi).1)) rfl rfl (.cons (vw_agg (.cons vw_f (.cons vw_f (.cons vw_f (.cons vw_f (.cons vw_f (.cons vw_f (.cons vw_f (.cons vw_f (.cons vw_f (.cons vw_f (.cons vw_f (.cons vw_f (.cons vw_f (.cons vw_f (.cons vw_f (.cons vw_f .nil))))))))))))))))) (.cons (vw_agg (.cons vw_f (.cons vw_f (.cons vw_f (.cons vw_f (.cons vw_f (.cons vw_f (.cons vw_f (.cons vw_f (.cons vw_f (.cons vw_f (.cons vw_f (.cons vw_f (.cons vw_f (.cons vw_f (.cons vw_f (.cons vw_f .nil))))))))))))))))) .nil)) (fun h1 => ?_) (fun h1 => ?_)
  rotate_left
  · exact absurd trivial h1
  refine v_not false rfl rfl ?_
  refine v_nil ?_
  refine q_n ?_
  refine w_f rfl ?_
  refine w_skip ?_
  refine q_n ?_
  refine w_seq ?_
  refine w_seq ?_
  refine w_reg rfl ?_
  refine v_fa_pt (off' := 16) lay41 rfl rfl rfl ?_
  refine v_load_pt (.c _) lay22 rfl rfl rfl rfl ?_
  refine v_conv_ff _ lay22 lay59 rfl (convF_single (by first | exact hW.2.1.1 | exact hW.2.2.1.1 | exact hW.2.2.2.1)) ?_
  refine v_fa_pt (off' := 16) lay41 rfl rfl rfl ?_
  refine v_load_pt (.c _) lay22 rfl rfl rfl rfl ?_
  refine v_conv_ff _ lay22 lay59 rfl (convF_single (by first | exact hW.2.1.1 | exact hW.2.2.1.1 | exact hW.2.2.2.1)) ?_
  refine v_callb (cSF _ (wide_ok (by first | exact hW.2.1.1 | exact hW.2.2.1.1 | exact hW.2.2.2.1))) rfl rfl (.cons vw_f (.cons vw_f .nil)) (fun h2 => ?_) (fun h2 => ?_)
  rotate_left
  · exact absurd trivial h2
  refine v_not false rfl rfl ?_
  refine v_nil ?_
  refine q_n ?_
  refine w_f rfl ?_
  refine w_skip ?_
  refine q_n ?_
  refine w_seq ?_
  refine w_seq ?_
  refine w_reg rfl ?_
  refine v_fa_pt (off' := 17) lay41 rfl rfl rfl ?_
  refine v_load_pt (.c _) lay22 rfl rfl rfl rfl ?_
  refine v_conv_ff _ lay22 lay59 rfl (convF_single (by first | exact hW.2.1.1 | exact hW.2.2.1.1 | exact hW.2.2.2.1)) ?_
  refine v_fa_pt (off' := 17) lay41 rfl rfl rfl ?_
  refine v_load_pt (.c _) lay22 rfl rfl rfl rfl ?_
  refine v_conv_ff _ lay22 lay59 rfl (convF_single (by first | exact hW.2.1.1 | exact hW.2.2.1.1 | exact hW.2.2.2.1)) ?_
  refine v_callb (cSF _ (wide_ok (by first | exact hW.2.1.1 | exact hW.2.2.1.1 | exact hW.2.2.2.1))) rfl rfl (.cons vw_f (.cons vw_f .nil)) (fun h3 => ?_) (fun h3 => ?_)
  rotate_left
  · exact absurd trivial h3
  refine v_not false rfl rfl ?_
  refine v_nil ?_
  refine q_n ?_
  refine w_f rfl ?_
  refine w_skip ?_
  refine q_n ?_
  refine w_seq ?_
  refine w_seq ?_
  refine w_reg rfl ?_
  refine v_fa_pt (off' := 18) lay41 rfl rfl rfl ?_
  refine v_load_pt (.c _) lay22 rfl rfl rfl rfl ?_
  refine v_conv_ff _ lay22 lay59 rfl (convF_single (by first | exact hW.2.1.1 | exact hW.2.2.1.1 | exact hW.2.2.2.1)) ?_
  refine v_fa_pt (off' := 18) lay41 rfl rfl rfl ?_
  refine v_load_pt (.c _) lay22 rfl rfl rfl rfl ?_
  refine v_conv_ff _ lay22 lay59 rfl (convF_single (by first | exact hW.2.1.1 | exact hW.2.2.1.1 | exact hW.2.2.2.1)) ?_
  refine v_callb (cSF _ (wide_ok (by first | exact hW.2.1.1 | exact hW.2.2.1.1 | exact hW.2.2.2.1))) rfl rfl (.cons vw_f (.cons vw_f .nil)) (fun h4 => ?_) (fun h4 => ?_)
  rotate_left
  · exact absurd trivial h4
  refine v_not false rfl rfl ?_
  refine v_nil ?_
  refine q_n ?_
  refine w_f rfl ?_
  refine w_skip ?_
  refine q_n ?_
  refine w_seq ?_
  refine w_reg rfl ?_
  refine v_assign (c := .v (.bool true)) rfl ?_
  refine v_nil ?_
  refine q_n ?_
  refine w_ret ?_
  refine r_r rfl ?_
  exact a_b ⟨fun _ => trivial, fun _ => rfl⟩
theorem cEqRoadS (xs : List Rd) (hx : xs.length ≤ 2 ^ 40) (hw : ∀ x ∈ xs, rW x) : PureC X 15 [.c (.sl false xs.length 19 (flat rdc xs)), .c (.sl false xs.length 19 (flat rdc xs))] (cB (decide True)) := by
  refine PureC.of_body (drawD_ok X) (fun _ _ => Go.Proofs.Try.call15 _ _) Go.Proofs.Try.func15 rfl (n := 27) rfl ?_
  refine w_seq ?_
  refine w_reg rfl ?_
  refine v_assign (c := .v (.bool false)) rfl ?_
  refine v_nil ?_
  refine q_n ?_
  refine w_seq ?_
  refine w_seq ?_
  refine w_reg rfl ?_
  refine v_move rfl ?_
  refine v_len_sl lay23 rfl ?_
  refine v_move rfl ?_
  refine v_len_sl lay23 rfl ?_
  refine v_neq lay3 rfl rfl (fun h1 => ?_) (fun h1 => ?_)
  · exact absurd rfl h1
  refine v_nil ?_
  refine q_n ?_
  refine w_f rfl ?_
  refine w_skip ?_
  refine q_n ?_
  refine w_seq ?_
  refine w_seq ?_
  refine w_reg rfl ?_
  refine v_assign (c := .v (.int .i64 0)) rfl ?_
  refine v_nil ?_
  refine q_n ?_
  refine w_block ?_
  refine w_loop (fun k sl H => ∃ i : Nat, k = xs.length - i ∧ i ≤ xs.length ∧ sl = sls [(0, .c (.sl false xs.length 19 (flat rdc xs))), (1, .c (.sl false xs.length 19 (flat rdc xs))), (5, cI i)] ∧ H = []) ?_ ?_
  · refine ⟨_, _, _, ?_, 0, rfl, Nat.zero_le _, rfl, rfl⟩
    exact turn0 ⟨tr_sl, tr_sl, tr_v, trivial⟩
  rintro k sl H ⟨i, rfl, hi, rfl, rfl⟩
  refine w_seq ?_
  refine w_seq ?_
  refine w_reg rfl ?_
  refine v_move rfl ?_
  refine v_move rfl ?_
  refine v_len_sl lay23 rfl ?_
  refine v_lss lay3 rfl rfl (fun h2 => ?_) (fun h2 => ?_)
  rotate_left
  · refine v_nil ?_
    refine q_n ?_
    refine w_f rfl ?_
    refine w_exit ?_
    refine q_e ?_
    refine q_e ?_
    refine q_hit ?_
    refine q_n ?_
    refine w_seq ?_
    refine w_reg rfl ?_
    refine v_assign (c := .v (.bool true)) rfl ?_
    refine v_nil ?_
    refine q_n ?_
    refine w_ret ?_
    refine r_r rfl ?_
    exact a_b ⟨fun _ => trivial, fun _ => rfl⟩
  have i1 : i < xs.length := by omega
  refine v_nil ?_
  refine q_n ?_
  refine w_t rfl ?_
  refine w_skip ?_
  refine q_n ?_
  refine w_seq ?_
  refine w_block ?_
  refine w_seq ?_
  refine w_draw [0, 0, 3, 7, 0, 0, 48, 112, 255, 511] [⟨0, 0, []⟩, ⟨1, 0, []⟩, ⟨2, 0, []⟩, ⟨3, 0, []⟩, ⟨4, 0, []⟩, ⟨5, 0, []⟩, ⟨6, 0, []⟩, ⟨7, 0, []⟩, ⟨8, 0, []⟩, ⟨9, 0, []⟩] rfl rfl ?_
  refine d_q rfl rfl rfl rfl rfl ?_
  refine v_move rfl ?_
  refine v_nil ?_
  refine d_q rfl rfl rfl rfl rfl ?_
  refine v_move rfl ?_
  refine v_nil ?_
  refine d_q rfl rfl rfl rfl rfl ?_
  refine v_idx_e (k := 19) (i) rdc_len lay23 lay41 rfl rfl rfl (rfl) rfl (rfl) (i1) ?_
  refine v_nil ?_
  refine d_q rfl rfl rfl rfl rfl ?_
  refine v_load_vw (.agg [.f _ _, .f _ _, .f _ _, .f _ _, .f _ _, .f _ _, .f _ _, .f _ _, .f _ _, .f _ _, .f _ _, .f _ _, .f _ _, .f _ _, .f _ _, .f _ _, .f _ _, .f _ _, .f _ _]) lay41 rfl rfl rfl ?_
  refine v_nil ?_
  refine d_q rfl rfl rfl rfl rfl ?_
  refine v_move rfl ?_
  refine v_nil ?_
  refine d_q rfl rfl rfl rfl rfl ?_
  refine v_move rfl ?_
  refine v_nil ?_
  refine d_q rfl rfl rfl rfl rfl ?_
  refine v_idx_e (k := 19) (i) rdc_len lay23 lay41 rfl rfl rfl (rfl) rfl (rfl) (i1) ?_
  refine v_nil ?_
  refine d_q rfl rfl rfl rfl rfl ?_
  refine v_load_vw (.agg [.f _ _, .f _ _, .f _ _, .f _ _, .f _ _, .f _ _, .f _ _, .f _ _, .f _ _, .f _ _, .f _ _, .f _ _, .f _ _, .f _ _, .f _ _, .f _ _, .f _ _, .f _ _, .f _ _]) lay41 rfl rfl rfl ?_
  refine v_nil ?_
  refine d_callb (cEqRoad _ (hw _ (List.getElem_mem i1))) rfl rfl rfl rfl (.cons (vw_agg (.cons vw_f (.cons vw_f (.cons vw_f (.cons vw_f (.cons vw_f (.cons vw_f (.cons vw_f (.cons vw_f (.cons vw_f (.cons vw_f (.cons vw_f (.cons vw_f (.cons vw_f (.cons vw_f (.cons vw_f (.cons vw_f (.cons vw_f (.cons vw_f (.cons vw_f .nil)))))))))))))))))))) (.cons (vw_agg (.cons vw_f (.cons vw_f (.cons vw_f (.cons vw_f (.cons vw_f (.cons vw_f (.cons vw_f (.cons vw_f (.cons vw_f (.cons vw_f (.cons vw_f (.cons vw_f (.cons vw_f (.cons vw_f (.cons vw_f (.cons vw_f (.cons vw_f (.cons vw_f (.cons vw_f .nil)))))))))))))))))))) .nil)) (fun h5 => ?_) (fun h5 => ?_)
  rotate_left
  · exact absurd trivial h5
  refine d_q rfl rfl rfl rfl rfl ?_
  refine v_not false rfl rfl ?_
  refine v_nil ?_
  refine d_nil ?_
  refine q_n ?_
  refine w_f rfl ?_
  refine w_skip ?_
  refine q_bn ?_
  refine q_n ?_
  refine w_reg rfl ?_
  refine v_move rfl ?_
  refine v_add lay3 rfl rfl (i64r (by omega)) ?_
  refine v_assign rfl ?_
  refine v_nil ?_
  refine q_n ?_
  refine ⟨_, _, _, ?_, ⟨i + 1, rfl, by omega, rfl, rfl⟩, by omega⟩
  exact turn0 ⟨tr_sl, tr_sl, tr_v, trivial⟩
theorem cEqFloatS (xs : List (Option Nat)) (hx : xs.length ≤ 2 ^ 40) (hw : ∀ x ∈ xs, Sg x) : PureC X 16 [.c (.sl false xs.length 1 (flat fe xs)), .c (.sl false xs.length 1 (flat fe xs))] (cB (decide True)) := by
  refine PureC.of_body (drawD_ok X) (fun _ _ => Go.Proofs.Try.call16 _ _) Go.Proofs.Try.func16 rfl (n := 29) rfl ?_
  refine w_seq ?_
  refine w_reg rfl ?_
  refine v_assign (c := .v (.bool false)) rfl ?_
  refine v_nil ?_
  refine q_n ?_
  refine w_seq ?_
  refine w_seq ?_
  refine w_reg rfl ?_
  refine v_move rfl ?_
  refine v_len_sl lay24 rfl ?_
  refine v_move rfl ?_
  refine v_len_sl lay24 rfl ?_
  refine v_neq lay3 rfl rfl (fun h1 => ?_) (fun h1 => ?_)
  · exact absurd rfl h1
  refine v_nil ?_
  refine q_n ?_
  refine w_f rfl ?_
  refine w_skip ?_
  refine q_n ?_
  refine w_seq ?_
  refine w_seq ?_
  refine w_reg rfl ?_
  refine v_assign (c := .v (.int .i64 0)) rfl ?_
  refine v_nil ?_
  refine q_n ?_
  refine w_block ?_
  refine w_loop (fun k sl H => ∃ i : Nat, k = xs.length - i ∧ i ≤ xs.length ∧ sl = sls [(0, .c (.sl false xs.length 1 (flat fe xs))), (1, .c (.sl false xs.length 1 (flat fe xs))), (5, cI i)] ∧ H = []) ?_ ?_
  · refine ⟨_, _, _, ?_, 0, rfl, Nat.zero_le _, rfl, rfl⟩
    exact turn0 ⟨tr_sl, tr_sl, tr_v, trivial⟩
  rintro k sl H ⟨i, rfl, hi, rfl, rfl⟩
  refine w_seq ?_
  refine w_seq ?_
  refine w_reg rfl ?_
  refine v_move rfl ?_
  refine v_move rfl ?_
  refine v_len_sl lay24 rfl ?_
  refine v_lss lay3 rfl rfl (fun h2 => ?_) (fun h2 => ?_)
  rotate_left
  · refine v_nil ?_
    refine q_n ?_
    refine w_f rfl ?_
    refine w_exit ?_
    refine q_e ?_
    refine q_e ?_
    refine q_hit ?_
    refine q_n ?_
    refine w_seq ?_
    refine w_reg rfl ?_
    refine v_assign (c := .v (.bool true)) rfl ?_
    refine v_nil ?_
    refine q_n ?_
    refine w_ret ?_
    refine r_r rfl ?_
    exact a_b ⟨fun _ => trivial, fun _ => rfl⟩
  have i1 : i < xs.length := by omega
  refine v_nil ?_
  refine q_n ?_
  refine w_t rfl ?_
  refine w_skip ?_
  refine q_n ?_
  refine w_seq ?_
  refine w_block ?_
  refine w_seq ?_
  refine w_draw [0, 0, 3, 7, 15, 0, 0, 96, 224, 480, 1023, 2047] [⟨0, 0, []⟩, ⟨1, 0, []⟩, ⟨2, 0, []⟩, ⟨3, 0, []⟩, ⟨4, 0, []⟩, ⟨5, 0, []⟩, ⟨6, 0, []⟩, ⟨7, 0, []⟩, ⟨8, 0, []⟩, ⟨9, 0, []⟩, ⟨10, 0, []⟩, ⟨11, 0, []⟩] rfl rfl ?_
  refine d_q rfl rfl rfl rfl rfl ?_
  refine v_move rfl ?_
  refine v_nil ?_
  refine d_q rfl rfl rfl rfl rfl ?_
  refine v_move rfl ?_
  refine v_nil ?_
  refine d_q rfl rfl rfl rfl rfl ?_
  refine v_idx_e (k := 1) (i) fe_len lay24 lay22 rfl rfl rfl (rfl) rfl (rfl) (i1) ?_
  refine v_nil ?_
  refine d_q rfl rfl rfl rfl rfl ?_
  refine v_load_vw (.c (.f _ _)) lay22 rfl rfl rfl ?_
  refine v_nil ?_
  refine d_q rfl rfl rfl rfl rfl ?_
  refine v_conv_ff _ lay22 lay59 rfl (convF_single (hw _ (List.getElem_mem i1)).1) ?_
  refine v_nil ?_
  refine d_q rfl rfl rfl rfl rfl ?_
  refine v_move rfl ?_
  refine v_nil ?_
  refine d_q rfl rfl rfl rfl rfl ?_
  refine v_move rfl ?_
  refine v_nil ?_
  refine d_q rfl rfl rfl rfl rfl ?_
  refine v_idx_e (k := 1) (i) fe_len lay24 lay22 rfl rfl rfl (rfl) rfl (rfl) (i1) ?_
  refine v_nil ?_
  refine d_q rfl rfl rfl rfl rfl ?_
  refine v_load_vw (.c (.f _ _)) lay22 rfl rfl rfl ?_
  refine v_nil ?_
  refine d_q rfl rfl rfl rfl rfl ?_
  refine v_conv_ff _ lay22 lay59 rfl (convF_single (hw _ (List.getElem_mem i1)).1) ?_
  refine v_nil ?_
  refine d_callb (cSF _ (wide_ok (hw _ (List.getElem_mem i1)).1)) rfl rfl rfl rfl (.cons vw_f (.cons vw_f .nil)) (fun h5 => ?_) (fun h5 => ?_)
  rotate_left
  · exact absurd trivial h5
  refine d_q rfl rfl rfl rfl rfl ?_
  refine v_not false rfl rfl ?_
  refine v_nil ?_
  refine d_nil ?_
  refine q_n ?_
  refine w_f rfl ?_
  refine w_skip ?_
  refine q_bn ?_
  refine q_n ?_
  refine w_reg rfl ?_
  refine v_move rfl ?_
  refine v_add lay3 rfl rfl (i64r (by omega)) ?_
  refine v_assign rfl ?_
  refine v_nil ?_
  refine q_n ?_
  refine ⟨_, _, _, ?_, ⟨i + 1, rfl, by omega, rfl, rfl⟩, by omega⟩
  exact turn0 ⟨tr_sl, tr_sl, tr_v, trivial⟩
theorem cEqPhase (g : Ph) : PureC X 62 [.agg (phc g), .agg (phc g)] (cB (decide True)) := by
  refine PureC.of_body (drawD_ok X) (fun _ _ => Go.Proofs.Try.call62 _ _) Go.Proofs.Try.func62 rfl (n := 17) rfl ?_
  refine w_seq ?_
  refine w_reg rfl ?_
  refine v_box (m := 0) (H' := [_]) lay93 rfl rfl rfl ?_
  refine v_box (m := 1) (H' := [_, _]) lay93 rfl rfl rfl ?_
  refine v_assign (c := .v (.bool false)) rfl ?_
  refine v_nil ?_
  refine q_n ?_
  refine w_seq ?_
  refine w_seq ?_
  refine w_reg rfl ?_
  refine v_assign (c := .v (.int .i64 0)) rfl ?_
  refine v_nil ?_
  refine q_n ?_
  refine w_block ?_
  refine w_loop (fun k sl H => ∃ i : Nat, k = 8 - i ∧ i ≤ 8 ∧ sl = sls [(2, .c (.pt 0 0)), (3, .c (.pt 1 0)), (5, cI i)] ∧ H = [⟨flat bo (pl g), 93, true⟩, ⟨flat bo (pl g), 93, true⟩]) ?_ ?_
  · refine ⟨_, _, _, ?_, 0, rfl, Nat.zero_le _, rfl, rfl⟩
    exact turn [some 0, some 1] rfl rfl rfl ⟨⟨_, rfl, trc_flat bo_sc rfl⟩, ⟨_, rfl, trc_flat bo_sc rfl⟩, trivial⟩ ⟨tr_pt rfl, tr_pt rfl, tr_v, trivial⟩
  rintro k sl H ⟨i, rfl, hi, rfl, rfl⟩
  refine w_seq ?_
  refine w_seq ?_
  refine w_reg rfl ?_
  refine v_move rfl ?_
  refine v_lss lay3 rfl rfl (fun h1 => ?_) (fun h1 => ?_)
  rotate_left
  · refine v_nil ?_
    refine q_n ?_
    refine w_f rfl ?_
    refine w_exit ?_
    refine q_e ?_
    refine q_e ?_
    refine q_hit ?_
    refine q_n ?_
    refine w_seq ?_
    refine w_reg rfl ?_
    refine v_assign (c := .v (.bool true)) rfl ?_
    refine v_nil ?_
    refine q_n ?_
    refine w_ret ?_
    refine r_r rfl ?_
    exact a_b ⟨fun _ => trivial, fun _ => rfl⟩
  have hi1 : i < 8 := by omega
  refine v_nil ?_
  refine q_n ?_
  refine w_t rfl ?_
  refine w_skip ?_
  refine q_n ?_
  refine w_seq ?_
  refine w_block ?_
  refine w_seq ?_
  refine w_draw [0, 1, 3, 0, 8, 24, 63] [⟨0, 0, []⟩, ⟨1, 0, []⟩, ⟨2, 0, []⟩, ⟨3, 0, []⟩, ⟨4, 0, []⟩, ⟨5, 0, []⟩, ⟨6, 0, []⟩] rfl rfl ?_
  refine d_q rfl rfl rfl rfl rfl ?_
  refine v_move rfl ?_
  refine v_nil ?_
  refine d_q rfl rfl rfl rfl rfl ?_
  refine v_idx_arr_e (k := 1) (i) lay93 lay4 rfl rfl rfl (rfl) (hi1) ?_
  refine v_nil ?_
  refine d_q rfl rfl rfl rfl rfl ?_
  refine v_load_flat_e (enc := bo) (ys := pl g) i 0 (.c (.v (.bool (g ⟨i, hi1⟩)))) bo_len lay4 rfl rfl (by omega) hi1 (by decide) (pl_ld g hi1 _) ?_
  refine v_nil ?_
  refine d_q rfl rfl rfl rfl rfl ?_
  refine v_move rfl ?_
  refine v_nil ?_
  refine d_q rfl rfl rfl rfl rfl ?_
  refine v_idx_arr_e (k := 1) (i) lay93 lay4 rfl rfl rfl (rfl) (hi1) ?_
  refine v_nil ?_
  refine d_q rfl rfl rfl rfl rfl ?_
  refine v_load_flat_e (enc := bo) (ys := pl g) i 0 (.c (.v (.bool (g ⟨i, hi1⟩)))) bo_len lay4 rfl rfl (by omega) hi1 (by decide) (pl_ld g hi1 _) ?_
  refine v_nil ?_
  refine d_q rfl rfl rfl rfl rfl ?_
  refine v_binb lay4 rfl rfl rfl (fun h2 => ?_) (fun h2 => ?_)
  · exact absurd h2 (by simp)
  refine v_nil ?_
  refine d_nil ?_
  refine q_n ?_
  refine w_f rfl ?_
  refine w_skip ?_
  refine q_bn ?_
  refine q_n ?_
  refine w_reg rfl ?_
  refine v_move rfl ?_
  refine v_add lay3 rfl rfl (i64r (by omega)) ?_
  refine v_assign rfl ?_
  refine v_nil ?_
  refine q_n ?_
  refine ⟨_, _, _, ?_, ⟨i + 1, rfl, by omega, rfl, rfl⟩, by omega⟩
  exact turn [some 0, some 1] rfl rfl rfl ⟨⟨_, rfl, trc_flat bo_sc rfl⟩, ⟨_, rfl, trc_flat bo_sc rfl⟩, trivial⟩ ⟨tr_pt rfl, tr_pt rfl, tr_v, trivial⟩
theorem cEqSlot (a : Slo) : PureC X 59 [.agg (stc a), .agg (stc a)] (cB (decide True)) := by
  refine PureC.of_body (drawD_ok X) (fun _ _ => Go.Proofs.Try.call59 _ _) Go.Proofs.Try.func59 rfl (n := 16) rfl ?_
  refine w_seq ?_
  refine w_reg rfl ?_
  refine v_box (m := 0) (H' := [_]) lay95 rfl rfl rfl ?_
  refine v_box (m := 1) (H' := [_, _]) lay95 rfl rfl rfl ?_
  refine v_assign (c := .v (.bool false)) rfl ?_
  refine v_nil ?_
  refine q_n ?_
  refine w_seq ?_
  refine w_seq ?_
  refine w_reg rfl ?_
  refine v_fa_pt (off' := 0) lay95 rfl rfl rfl ?_
  refine v_load_pt (.agg [_, _, _, _, _, _, _, _]) lay93 rfl rfl rfl rfl ?_
  refine v_fa_pt (off' := 0) lay95 rfl rfl rfl ?_
  refine v_load_pt (.agg [_, _, _, _, _, _, _, _]) lay93 rfl rfl rfl rfl ?_
  refine v_callb (cEqPhase _) rfl rfl (.cons (vw_agg (.cons vw_v (.cons vw_v (.cons vw_v (.cons vw_v (.cons vw_v (.cons vw_v (.cons vw_v (.cons vw_v .nil))))))))) (.cons (vw_agg (.cons vw_v (.cons vw_v (.cons vw_v (.cons vw_v (.cons vw_v (.cons vw_v (.cons vw_v (.cons vw_v .nil))))))))) .nil)) (fun h1 => ?_) (fun h1 => ?_)
  rotate_left
  · exact absurd trivial h1
  refine v_not false rfl rfl ?_
  refine v_nil ?_
  refine q_n ?_
  refine w_f rfl ?_
  refine w_skip ?_
  refine q_n ?_
  refine w_seq ?_
  refine w_seq ?_
  refine w_reg rfl ?_
  refine v_fa_pt (off' := 8) lay95 rfl rfl rfl ?_
  refine v_load_pt (.c _) lay2 rfl rfl rfl rfl ?_
  refine v_fa_pt (off' := 8) lay95 rfl rfl rfl ?_
  refine v_load_pt (.c _) lay2 rfl rfl rfl rfl ?_
  refine v_neq lay2 rfl rfl (fun h2 => ?_) (fun h2 => ?_)
  · exact absurd rfl h2
  refine v_nil ?_
  refine q_n ?_
  refine w_f rfl ?_
  refine w_skip ?_
  refine q_n ?_
  refine w_seq ?_
  refine w_reg rfl ?_
  refine v_assign (c := .v (.bool true)) rfl ?_
  refine v_nil ?_
  refine q_n ?_
  refine w_ret ?_
  refine r_r rfl ?_
  exact a_b ⟨fun _ => trivial, fun _ => rfl⟩
theorem cEqSlotS (xs : List Slo) (hx : xs.length ≤ 2 ^ 40) : PureC X 52 [.c (.sl false xs.length 9 (flat stc xs)), .c (.sl false xs.length 9 (flat stc xs))] (cB (decide True)) := by
  refine PureC.of_body (drawD_ok X) (fun _ _ => Go.Proofs.Try.call52 _ _) Go.Proofs.Try.func52 rfl (n := 27) rfl ?_
  refine w_seq ?_
  refine w_reg rfl ?_
  refine v_assign (c := .v (.bool false)) rfl ?_
  refine v_nil ?_
  refine q_n ?_
  refine w_seq ?_
  refine w_seq ?_
  refine w_reg rfl ?_
  refine v_move rfl ?_
  refine v_len_sl lay72 rfl ?_
  refine v_move rfl ?_
  refine v_len_sl lay72 rfl ?_
  refine v_neq lay3 rfl rfl (fun h1 => ?_) (fun h1 => ?_)
  · exact absurd rfl h1
  refine v_nil ?_
  refine q_n ?_
  refine w_f rfl ?_
  refine w_skip ?_
  refine q_n ?_
  refine w_seq ?_
  refine w_seq ?_
  refine w_reg rfl ?_
  refine v_assign (c := .v (.int .i64 0)) rfl ?_
  refine v_nil ?_
  refine q_n ?_
  refine w_block ?_
  refine w_loop (fun k sl H => ∃ i : Nat, k = xs.length - i ∧ i ≤ xs.length ∧ sl = sls [(0, .c (.sl false xs.length 9 (flat stc xs))), (1, .c (.sl false xs.length 9 (flat stc xs))), (5, cI i)] ∧ H = []) ?_ ?_
  · refine ⟨_, _, _, ?_, 0, rfl, Nat.zero_le _, rfl, rfl⟩
    exact turn0 ⟨tr_sl, tr_sl, tr_v, trivial⟩
  rintro k sl H ⟨i, rfl, hi, rfl, rfl⟩
  refine w_seq ?_
  refine w_seq ?_
  refine w_reg rfl ?_
  refine v_move rfl ?_
  refine v_move rfl ?_
  refine v_len_sl lay72 rfl ?_
  refine v_lss lay3 rfl rfl (fun h2 => ?_) (fun h2 => ?_)
  rotate_left
  · refine v_nil ?_
    refine q_n ?_
    refine w_f rfl ?_
    refine w_exit ?_
    refine q_e ?_
    refine q_e ?_
    refine q_hit ?_
    refine q_n ?_
    refine w_seq ?_
    refine w_reg rfl ?_
    refine v_assign (c := .v (.bool true)) rfl ?_
    refine v_nil ?_
    refine q_n ?_
    refine w_ret ?_
    refine r_r rfl ?_
    exact a_b ⟨fun _ => trivial, fun _ => rfl⟩
  have i1 : i < xs.length := by omega
  refine v_nil ?_
  refine q_n ?_
  refine w_t rfl ?_
  refine w_skip ?_
  refine q_n ?_
  refine w_seq ?_
  refine w_block ?_
  refine w_seq ?_
  refine w_draw [0, 0, 3, 7, 0, 0, 48, 112, 255, 511] [⟨0, 0, []⟩, ⟨1, 0, []⟩, ⟨2, 0, []⟩, ⟨3, 0, []⟩, ⟨4, 0, []⟩, ⟨5, 0, []⟩, ⟨6, 0, []⟩, ⟨7, 0, []⟩, ⟨8, 0, []⟩, ⟨9, 0, []⟩] rfl rfl ?_
  refine d_q rfl rfl rfl rfl rfl ?_
  refine v_move rfl ?_
  refine v_nil ?_
  refine d_q rfl rfl rfl rfl rfl ?_
  refine v_move rfl ?_
  refine v_nil ?_
  refine d_q rfl rfl rfl rfl rfl ?_
  refine v_idx_e (k := 9) (i) stc_len lay72 lay95 rfl rfl rfl (rfl) rfl (rfl) (i1) ?_
  refine v_nil ?_
  refine d_q rfl rfl rfl rfl rfl ?_
  refine v_load_vw (.agg [.v _, .v _, .v _, .v _, .v _, .v _, .v _, .v _, .v _]) lay95 rfl rfl rfl ?_
  refine v_nil ?_
  refine d_q rfl rfl rfl rfl rfl ?_
  refine v_move rfl ?_
  refine v_nil ?_
  refine d_q rfl rfl rfl rfl rfl ?_
  refine v_move rfl ?_
  refine v_nil ?_
  refine d_q rfl rfl rfl rfl rfl ?_
  refine v_idx_e (k := 9) (i) stc_len lay72 lay95 rfl rfl rfl (rfl) rfl (rfl) (i1) ?_
  refine v_nil ?_
  refine d_q rfl rfl rfl rfl rfl ?_
  refine v_load_vw (.agg [.v _, .v _, .v _, .v _, .v _, .v _, .v _, .v _, .v _]) lay95 rfl rfl rfl ?_
  refine v_nil ?_
  refine d_callb (cEqSlot _) rfl rfl rfl rfl (.cons (vw_agg (.cons vw_v (.cons vw_v (.cons vw_v (.cons vw_v (.cons vw_v (.cons vw_v (.cons vw_v (.cons vw_v (.cons vw_v .nil)))))))))) (.cons (vw_agg (.cons vw_v (.cons vw_v (.cons vw_v (.cons vw_v (.cons vw_v (.cons vw_v (.cons vw_v (.cons vw_v (.cons vw_v .nil)))))))))) .nil)) (fun h5 => ?_) (fun h5 => ?_)
  rotate_left
  · exact absurd trivial h5
  refine d_q rfl rfl rfl rfl rfl ?_
  refine v_not false rfl rfl ?_
  refine v_nil ?_
  refine d_nil ?_
  refine q_n ?_
  refine w_f rfl ?_
  refine w_skip ?_
  refine q_bn ?_
  refine q_n ?_
  refine w_reg rfl ?_
  refine v_move rfl ?_
  refine v_add lay3 rfl rfl (i64r (by omega)) ?_
  refine v_assign rfl ?_
  refine v_nil ?_
  refine q_n ?_
  refine ⟨_, _, _, ?_, ⟨i + 1, rfl, by omega, rfl, rfl⟩, by omega⟩
  exact turn0 ⟨tr_sl, tr_sl, tr_v, trivial⟩
theorem cEqPlan (p : Pln) (hx : p.1.length ≤ 2 ^ 40) : PureC X 36 [.agg (plf p), .agg (plf p)] (cB (decide True)) := by
  refine PureC.of_body (drawD_ok X) (fun _ _ => Go.Proofs.Try.call36 _ _) Go.Proofs.Try.func36 rfl (n := 21) rfl ?_
  refine w_seq ?_
  refine w_reg rfl ?_
  refine v_box (m := 0) (H' := [_]) lay74 rfl rfl rfl ?_
  refine v_box (m := 1) (H' := [_, _]) lay74 rfl rfl rfl ?_
  refine v_assign (c := .v (.bool false)) rfl ?_
  refine v_nil ?_
  refine q_n ?_
  refine w_seq ?_
  refine w_seq ?_
  refine w_reg rfl ?_
  refine v_fa_pt (off' := 0) lay74 rfl rfl rfl ?_
  refine v_load_pt (.c _) lay72 rfl rfl rfl rfl ?_
  refine v_fa_pt (off' := 0) lay74 rfl rfl rfl ?_
  refine v_load_pt (.c _) lay72 rfl rfl rfl rfl ?_
  refine v_callb (cEqSlotS _ (by omega)) rfl rfl (.cons vw_sl (.cons vw_sl .nil)) (fun h1 => ?_) (fun h1 => ?_)
  rotate_left
  · exact absurd trivial h1
  refine v_not false rfl rfl ?_
  refine v_nil ?_
  refine q_n ?_
  refine w_f rfl ?_
  refine w_skip ?_
  refine q_n ?_
  refine w_seq ?_
  refine w_seq ?_
  refine w_reg rfl ?_
  refine v_fa_pt (off' := 1) lay74 rfl rfl rfl ?_
  refine v_load_pt (.c _) lay2 rfl rfl rfl rfl ?_
  refine v_fa_pt (off' := 1) lay74 rfl rfl rfl ?_
  refine v_load_pt (.c _) lay2 rfl rfl rfl rfl ?_
  refine v_neq lay2 rfl rfl (fun h2 => ?_) (fun h2 => ?_)
  · exact absurd rfl h2
  refine v_nil ?_
  refine q_n ?_
  refine w_f rfl ?_
  refine w_skip ?_
  refine q_n ?_
  refine w_seq ?_
  refine w_seq ?_
  refine w_reg rfl ?_
  refine v_fa_pt (off' := 2) lay74 rfl rfl rfl ?_
  refine v_load_pt (.c _) lay2 rfl rfl rfl rfl ?_
  refine v_fa_pt (off' := 2) lay74 rfl rfl rfl ?_
  refine v_load_pt (.c _) lay2 rfl rfl rfl rfl ?_
  refine v_neq lay2 rfl rfl (fun h3 => ?_) (fun h3 => ?_)
  · exact absurd rfl h3
  refine v_nil ?_
  refine q_n ?_
  refine w_f rfl ?_
  refine w_skip ?_
  refine q_n ?_
  refine w_seq ?_
  refine w_reg rfl ?_
  refine v_assign (c := .v (.bool true)) rfl ?_
  refine v_nil ?_
  refine q_n ?_
  refine w_ret ?_
  refine r_r rfl ?_
  exact a_b ⟨fun _ => trivial, fun _ => rfl⟩
theorem cEqPlanS (xs : List Pln) (hx : xs.length ≤ 2 ^ 40) (hw : ∀ x ∈ xs, x.1.length ≤ 2 ^ 40) : PureC X 18 [.c (.sl false xs.length 3 (flat plc xs)), .c (.sl false xs.length 3 (flat plc xs))] (cB (decide True)) := by
  refine PureC.of_body (drawD_ok X) (fun _ _ => Go.Proofs.Try.call18 _ _) Go.Proofs.Try.func18 rfl (n := 27) rfl ?_
  refine w_seq ?_
  refine w_reg rfl ?_
  refine v_assign (c := .v (.bool false)) rfl ?_
  refine v_nil ?_
  refine q_n ?_
  refine w_seq ?_
  refine w_seq ?_
  refine w_reg rfl ?_
  refine v_move rfl ?_
  refine v_len_sl lay26 rfl ?_
  refine v_move rfl ?_
  refine v_len_sl lay26 rfl ?_
  refine v_neq lay3 rfl rfl (fun h1 => ?_) (fun h1 => ?_)
  · exact absurd rfl h1
  refine v_nil ?_
  refine q_n ?_
  refine w_f rfl ?_
  refine w_skip ?_
  refine q_n ?_
  refine w_seq ?_
  refine w_seq ?_
  refine w_reg rfl ?_
  refine v_assign (c := .v (.int .i64 0)) rfl ?_
  refine v_nil ?_
  refine q_n ?_
  refine w_block ?_
  refine w_loop (fun k sl H => ∃ i : Nat, k = xs.length - i ∧ i ≤ xs.length ∧ sl = sls [(0, .c (.sl false xs.length 3 (flat plc xs))), (1, .c (.sl false xs.length 3 (flat plc xs))), (5, cI i)] ∧ H = []) ?_ ?_
  · refine ⟨_, _, _, ?_, 0, rfl, Nat.zero_le _, rfl, rfl⟩
    exact turn0 ⟨tr_sl, tr_sl, tr_v, trivial⟩
  rintro k sl H ⟨i, rfl, hi, rfl, rfl⟩
  refine w_seq ?_
  refine w_seq ?_
  refine w_reg rfl ?_
  refine v_move rfl ?_
  refine v_move rfl ?_
  refine v_len_sl lay26 rfl ?_
  refine v_lss lay3 rfl rfl (fun h2 => ?_) (fun h2 => ?_)
  rotate_left
  · refine v_nil ?_
    refine q_n ?_
    refine w_f rfl ?_
    refine w_exit ?_
    refine q_e ?_
    refine q_e ?_
    refine q_hit ?_
    refine q_n ?_
    refine w_seq ?_
    refine w_reg rfl ?_
    refine v_assign (c := .v (.bool true)) rfl ?_
    refine v_nil ?_
    refine q_n ?_
    refine w_ret ?_
    refine r_r rfl ?_
    exact a_b ⟨fun _ => trivial, fun _ => rfl⟩
  have i1 : i < xs.length := by omega
  refine v_nil ?_
  refine q_n ?_
  refine w_t rfl ?_
  refine w_skip ?_
  refine q_n ?_
  refine w_seq ?_
  refine w_block ?_
  refine w_seq ?_
  refine w_draw [0, 0, 3, 7, 0, 0, 48, 112, 255, 511] [⟨0, 0, []⟩, ⟨1, 0, []⟩, ⟨2, 0, []⟩, ⟨3, 0, []⟩, ⟨4, 0, []⟩, ⟨5, 0, []⟩, ⟨6, 0, []⟩, ⟨7, 0, []⟩, ⟨8, 0, []⟩, ⟨9, 0, []⟩] rfl rfl ?_
  refine d_q rfl rfl rfl rfl rfl ?_
  refine v_move rfl ?_
  refine v_nil ?_
  refine d_q rfl rfl rfl rfl rfl ?_
  refine v_move rfl ?_
  refine v_nil ?_
  refine d_q rfl rfl rfl rfl rfl ?_
  refine v_idx_e (k := 3) (i) plc_len lay26 lay74 rfl rfl rfl (rfl) rfl (rfl) (i1) ?_
  refine v_nil ?_
  refine d_q rfl rfl rfl rfl rfl ?_
  refine v_load_vw (.agg [_, .v _, .v _]) lay74 rfl rfl rfl ?_
  refine v_nil ?_
  refine d_q rfl rfl rfl rfl rfl ?_
  refine v_move rfl ?_
  refine v_nil ?_
  refine d_q rfl rfl rfl rfl rfl ?_
  refine v_move rfl ?_
  refine v_nil ?_
  refine d_q rfl rfl rfl rfl rfl ?_
  refine v_idx_e (k := 3) (i) plc_len lay26 lay74 rfl rfl rfl (rfl) rfl (rfl) (i1) ?_
  refine v_nil ?_
  refine d_q rfl rfl rfl rfl rfl ?_
  refine v_load_vw (.agg [_, .v _, .v _]) lay74 rfl rfl rfl ?_
  refine v_nil ?_
  refine d_callb (cEqPlan _ (hw _ (List.getElem_mem i1))) rfl rfl rfl rfl (.cons (vw_agg (.cons vw_sl (.cons vw_v (.cons vw_v .nil)))) (.cons (vw_agg (.cons vw_sl (.cons vw_v (.cons vw_v .nil)))) .nil)) (fun h5 => ?_) (fun h5 => ?_)
  rotate_left
  · exact absurd trivial h5
  refine d_q rfl rfl rfl rfl rfl ?_
  refine v_not false rfl rfl ?_
  refine v_nil ?_
  refine d_nil ?_
  refine q_n ?_
  refine w_f rfl ?_
  refine w_skip ?_
  refine q_bn ?_
  refine q_n ?_
  refine w_reg rfl ?_
  refine v_move rfl ?_
  refine v_add lay3 rfl rfl (i64r (by omega)) ?_
  refine v_assign rfl ?_
  refine v_nil ?_
  refine q_n ?_
  refine ⟨_, _, _, ?_, ⟨i + 1, rfl, by omega, rfl, rfl⟩, by omega⟩
  exact turn0 ⟨tr_sl, tr_sl, tr_v, trivial⟩
theorem cEqJunction (j : Jn) (hW : jW j) : PureC X 50 [.agg (jnc j), .agg (jnc j)] (cB (decide True)) := by
  refine PureC.of_body (drawD_ok X) (fun _ _ => Go.Proofs.Try.call50 _ _) Go.Proofs.Try.func50 rfl (n := 27) rfl ?_
  refine w_seq ?_
  refine w_reg rfl ?_
  refine v_box (m := 0) (H' := [_]) lay49 rfl rfl rfl ?_
  refine v_box (m := 1) (H' := [_, _]) lay49 rfl rfl rfl ?_
  refine v_assign (c := .v (.bool false)) rfl ?_
  refine v_nil ?_
  refine q_n ?_
  refine w_seq ?_
  refine w_seq ?_
  refine w_reg rfl ?_
  refine v_fa_pt (off' := 0) lay49 rfl rfl rfl ?_
  refine v_load_pt (.c _) lay2 rfl rfl rfl rfl ?_
  refine v_fa_pt (off' := 0) lay49 rfl rfl rfl ?_
  refine v_load_pt (.c _) lay2 rfl rfl rfl rfl ?_
  refine v_neq lay2 rfl rfl (fun h1 => ?_) (fun h1 => ?_)
  · exact absurd rfl h1
  refine v_nil ?_
  refine q_n ?_
  refine w_f rfl ?_
  refine w_skip ?_
  refine q_n ?_
  refine w_seq ?_
  refine w_seq ?_
  refine w_reg rfl ?_
  refine v_fa_pt (off' := 1) lay49 rfl rfl rfl ?_
  refine v_load_pt (.c _) lay2 rfl rfl rfl rfl ?_
  refine v_fa_pt (off' := 1) lay49 rfl rfl rfl ?_
  refine v_load_pt (.c _) lay2 rfl rfl rfl rfl ?_
  refine v_neq lay2 rfl rfl (fun h2 => ?_) (fun h2 => ?_)
  · exact absurd rfl h2
  refine v_nil ?_
  refine q_n ?_
  refine w_f rfl ?_
  refine w_skip ?_
  refine q_n ?_
  refine w_seq ?_
  refine w_seq ?_
  refine w_reg rfl ?_
  refine v_fa_pt (off' := 2) lay49 rfl rfl rfl ?_
  refine v_load_pt (.agg [_, _, _, _, _, _, _, _, _, _, _, _, _, _, _, _]) lay46 rfl rfl rfl rfl ?_
  refine v_fa_pt (off' := 2) lay49 rfl rfl rfl ?_
  refine v_load_pt (.agg [_, _, _, _, _, _, _, _, _, _, _, _, _, _, _, _]) lay46 rfl rfl rfl rfl ?_
  refine v_callb (cEqFlows _ hW.1) rfl rfl (.cons (vw_agg (.cons vw_f (.cons vw_f (.cons vw_f (.cons vw_f (.cons vw_f (.cons vw_f (.cons vw_f (.cons vw_f (.cons vw_f (.cons vw_f (.cons vw_f (.cons vw_f (.cons vw_f (.cons vw_f (.cons vw_f (.cons vw_f .nil))))))))))))))))) (.cons (vw_agg (.cons vw_f (.cons vw_f (.cons vw_f (.cons vw_f (.cons vw_f (.cons vw_f (.cons vw_f (.cons vw_f (.cons vw_f (.cons vw_f (.cons vw_f (.cons vw_f (.cons vw_f (.cons vw_f (.cons vw_f (.cons vw_f .nil))))))))))))))))) .nil)) (fun h3 => ?_) (fun h3 => ?_)
  rotate_left
  · exact absurd trivial h3
  refine v_not false rfl rfl ?_
  refine v_nil ?_
  refine q_n ?_
  refine w_f rfl ?_
  refine w_skip ?_
  refine q_n ?_
  refine w_seq ?_
  refine w_seq ?_
  refine w_reg rfl ?_
  refine v_fa_pt (off' := 18) lay49 rfl rfl rfl ?_
  refine v_load_pt (.agg [_, _, _, _]) lay47 rfl rfl rfl rfl ?_
  refine v_fa_pt (off' := 18) lay49 rfl rfl rfl ?_
  refine v_load_pt (.agg [_, _, _, _]) lay47 rfl rfl rfl rfl ?_
  refine v_callb (cEqFour _ (fun i hi => (hW.2 i hi).1)) rfl rfl (.cons (vw_agg (.cons vw_f (.cons vw_f (.cons vw_f (.cons vw_f .nil))))) (.cons (vw_agg (.cons vw_f (.cons vw_f (.cons vw_f (.cons vw_f .nil))))) .nil)) (fun h4 => ?_) (fun h4 => ?_)
  rotate_left
  · exact absurd trivial h4
  refine v_not false rfl rfl ?_
  refine v_nil ?_
  refine q_n ?_
  refine w_f rfl ?_
  refine w_skip ?_
  refine q_n ?_
  refine w_seq ?_
  refine w_reg rfl ?_
  refine v_assign (c := .v (.bool true)) rfl ?_
  refine v_nil ?_
  refine q_n ?_
  refine w_ret ?_
  refine r_r rfl ?_
  exact a_b ⟨fun _ => trivial, fun _ => rfl⟩
theorem cEqIntS (xs : List Int) (hx : xs.length ≤ 2 ^ 40) : PureC X 51 [.c (ints false xs), .c (ints false xs)] (cB (decide True)) := by
  refine PureC.of_body (drawD_ok X) (fun _ _ => Go.Proofs.Try.call51 _ _) Go.Proofs.Try.func51 rfl (n := 26) rfl ?_
  refine w_seq ?_
  refine w_reg rfl ?_
  refine v_assign (c := .v (.bool false)) rfl ?_
  refine v_nil ?_
  refine q_n ?_
  refine w_seq ?_
  refine w_seq ?_
  refine w_reg rfl ?_
  refine v_move rfl ?_
  refine v_len_sl lay51 rfl ?_
  refine v_move rfl ?_
  refine v_len_sl lay51 rfl ?_
  refine v_neq lay3 rfl rfl (fun h1 => ?_) (fun h1 => ?_)
  · exact absurd rfl h1
  refine v_nil ?_
  refine q_n ?_
  refine w_f rfl ?_
  refine w_skip ?_
  refine q_n ?_
  refine w_seq ?_
  refine w_seq ?_
  refine w_reg rfl ?_
  refine v_assign (c := .v (.int .i64 0)) rfl ?_
  refine v_nil ?_
  refine q_n ?_
  refine w_block ?_
  refine w_loop (fun k sl H => ∃ i : Nat, k = xs.length - i ∧ i ≤ xs.length ∧ sl = sls [(0, .c (ints false xs)), (1, .c (ints false xs)), (5, cI i)] ∧ H = []) ?_ ?_
  · refine ⟨_, _, _, ?_, 0, rfl, Nat.zero_le _, rfl, rfl⟩
    exact turn0 ⟨tr_sl, tr_sl, tr_v, trivial⟩
  rintro k sl H ⟨i, rfl, hi, rfl, rfl⟩
  refine w_seq ?_
  refine w_seq ?_
  refine w_reg rfl ?_
  refine v_move rfl ?_
  refine v_move rfl ?_
  refine v_len_sl lay51 rfl ?_
  refine v_lss lay3 rfl rfl (fun h2 => ?_) (fun h2 => ?_)
  rotate_left
  · refine v_nil ?_
    refine q_n ?_
    refine w_f rfl ?_
    refine w_exit ?_
    refine q_e ?_
    refine q_e ?_
    refine q_hit ?_
    refine q_n ?_
    refine w_seq ?_
    refine w_reg rfl ?_
    refine v_assign (c := .v (.bool true)) rfl ?_
    refine v_nil ?_
    refine q_n ?_
    refine w_ret ?_
    refine r_r rfl ?_
    exact a_b ⟨fun _ => trivial, fun _ => rfl⟩
  have i1 : i < xs.length := by omega
  refine v_nil ?_
  refine q_n ?_
  refine w_t rfl ?_
  refine w_skip ?_
  refine q_n ?_
  refine w_seq ?_
  refine w_block ?_
  refine w_seq ?_
  refine w_draw [0, 0, 3, 7, 0, 0, 48, 112, 255] [⟨0, 0, []⟩, ⟨1, 0, []⟩, ⟨2, 0, []⟩, ⟨3, 0, []⟩, ⟨4, 0, []⟩, ⟨5, 0, []⟩, ⟨6, 0, []⟩, ⟨7, 0, []⟩, ⟨8, 0, []⟩] rfl rfl ?_
  refine d_q rfl rfl rfl rfl rfl ?_
  refine v_move rfl ?_
  refine v_nil ?_
  refine d_q rfl rfl rfl rfl rfl ?_
  refine v_move rfl ?_
  refine v_nil ?_
  refine d_q rfl rfl rfl rfl rfl ?_
  refine v_idx_e (k := 1) (i) int_len lay51 lay2 rfl rfl rfl (rfl) rfl (rfl) (i1) ?_
  refine v_nil ?_
  refine d_q rfl rfl rfl rfl rfl ?_
  refine v_load_vw (.c (.v _)) lay2 rfl rfl rfl ?_
  refine v_nil ?_
  refine d_q rfl rfl rfl rfl rfl ?_
  refine v_move rfl ?_
  refine v_nil ?_
  refine d_q rfl rfl rfl rfl rfl ?_
  refine v_move rfl ?_
  refine v_nil ?_
  refine d_q rfl rfl rfl rfl rfl ?_
  refine v_idx_e (k := 1) (i) int_len lay51 lay2 rfl rfl rfl (rfl) rfl (rfl) (i1) ?_
  refine v_nil ?_
  refine d_q rfl rfl rfl rfl rfl ?_
  refine v_load_vw (.c (.v _)) lay2 rfl rfl rfl ?_
  refine v_nil ?_
  refine d_q rfl rfl rfl rfl rfl ?_
  refine v_neq lay2 rfl rfl (fun h5 => ?_) (fun h5 => ?_)
  · exact absurd rfl h5
  refine v_nil ?_
  refine d_nil ?_
  refine q_n ?_
  refine w_f rfl ?_
  refine w_skip ?_
  refine q_bn ?_
  refine q_n ?_
  refine w_reg rfl ?_
  refine v_move rfl ?_
  refine v_add lay3 rfl rfl (i64r (by omega)) ?_
  refine v_assign rfl ?_
  refine v_nil ?_
  refine q_n ?_
  refine ⟨_, _, _, ?_, ⟨i + 1, rfl, by omega, rfl, rfl⟩, by omega⟩
  exact turn0 ⟨tr_sl, tr_sl, tr_v, trivial⟩
theorem cEqJoint (j : Jo) (hx : j.2.1.length ≤ 2 ^ 40) (hy : j.2.2.1.length ≤ 2 ^ 40) (hW : jW j.1) : PureC X 35 [.agg (jof false j), .agg (jof false j)] (cB (decide True)) := by
  refine PureC.of_body (drawD_ok X) (fun _ _ => Go.Proofs.Try.call35 _ _) Go.Proofs.Try.func35 rfl (n := 28) rfl ?_
  refine w_seq ?_
  refine w_reg rfl ?_
  refine v_box (m := 0) (H' := [_]) lay53 rfl rfl rfl ?_
  refine v_box (m := 1) (H' := [_, _]) lay53 rfl rfl rfl ?_
  refine v_assign (c := .v (.bool false)) rfl ?_
  refine v_nil ?_
  refine q_n ?_
  refine w_seq ?_
  refine w_seq ?_
  refine w_reg rfl ?_
  refine v_fa_pt (off' := 0) lay53 rfl rfl rfl ?_
  refine v_load_pt (.agg [_, _, _, _, _, _, _, _, _, _, _, _, _, _, _, _, _, _, _, _, _, _]) lay49 rfl rfl rfl rfl ?_
  refine v_fa_pt (off' := 0) lay53 rfl rfl rfl ?_
  refine v_load_pt (.agg [_, _, _, _, _, _, _, _, _, _, _, _, _, _, _, _, _, _, _, _, _, _]) lay49 rfl rfl rfl rfl ?_
  refine v_callb (cEqJunction _ hW) rfl rfl (.cons (vw_agg (.cons vw_v (.cons vw_v (.cons vw_f (.cons vw_f (.cons vw_f (.cons vw_f (.cons vw_f (.cons vw_f (.cons vw_f (.cons vw_f (.cons vw_f (.cons vw_f (.cons vw_f (.cons vw_f (.cons vw_f (.cons vw_f (.cons vw_f (.cons vw_f (.cons vw_f (.cons vw_f (.cons vw_f (.cons vw_f .nil))))))))))))))))))))))) (.cons (vw_agg (.cons vw_v (.cons vw_v (.cons vw_f (.cons vw_f (.cons vw_f (.cons vw_f (.cons vw_f (.cons vw_f (.cons vw_f (.cons vw_f (.cons vw_f (.cons vw_f (.cons vw_f (.cons vw_f (.cons vw_f (.cons vw_f (.cons vw_f (.cons vw_f (.cons vw_f (.cons vw_f (.cons vw_f (.cons vw_f .nil))))))))))))))))))))))) .nil)) (fun h1 => ?_) (fun h1 => ?_)
  rotate_left
  · exact absurd trivial h1
  refine v_not false rfl rfl ?_
  refine v_nil ?_
  refine q_n ?_
  refine w_f rfl ?_
  refine w_skip ?_
  refine q_n ?_
  refine w_seq ?_
  refine w_seq ?_
  refine w_reg rfl ?_
  refine v_fa_pt (off' := 22) lay53 rfl rfl rfl ?_
  refine v_load_pt (.c _) lay51 rfl rfl rfl rfl ?_
  refine v_fa_pt (off' := 22) lay53 rfl rfl rfl ?_
  refine v_load_pt (.c _) lay51 rfl rfl rfl rfl ?_
  refine v_callb (cEqIntS _ (by omega)) rfl rfl (.cons vw_sl (.cons vw_sl .nil)) (fun h2 => ?_) (fun h2 => ?_)
  rotate_left
  · exact absurd trivial h2
  refine v_not false rfl rfl ?_
  refine v_nil ?_
  refine q_n ?_
  refine w_f rfl ?_
  refine w_skip ?_
  refine q_n ?_
  refine w_seq ?_
  refine w_seq ?_
  refine w_reg rfl ?_
  refine v_fa_pt (off' := 23) lay53 rfl rfl rfl ?_
  refine v_load_pt (.c _) lay51 rfl rfl rfl rfl ?_
  refine v_fa_pt (off' := 23) lay53 rfl rfl rfl ?_
  refine v_load_pt (.c _) lay51 rfl rfl rfl rfl ?_
  refine v_callb (cEqIntS _ (by omega)) rfl rfl (.cons vw_sl (.cons vw_sl .nil)) (fun h3 => ?_) (fun h3 => ?_)
  rotate_left
  · exact absurd trivial h3
  refine v_not false rfl rfl ?_
  refine v_nil ?_
  refine q_n ?_
  refine w_f rfl ?_
  refine w_skip ?_
  refine q_n ?_
  refine w_seq ?_
  refine w_seq ?_
  refine w_reg rfl ?_
  refine v_fa_pt (off' := 24) lay53 rfl rfl rfl ?_
  refine v_load_pt (.c _) lay2 rfl rfl rfl rfl ?_
  refine v_fa_pt (off' := 24) lay53 rfl rfl rfl ?_
  refine v_load_pt (.c _) lay2 rfl rfl rfl rfl ?_
  refine v_neq lay2 rfl rfl (fun h4 => ?_) (fun h4 => ?_)
  · exact absurd rfl h4
  refine v_nil ?_
  refine q_n ?_
  refine w_f rfl ?_
  refine w_skip ?_
  refine q_n ?_
  refine w_seq ?_
  refine w_reg rfl ?_
  refine v_assign (c := .v (.bool true)) rfl ?_
  refine v_nil ?_
  refine q_n ?_
  refine w_ret ?_
  refine r_r rfl ?_
  exact a_b ⟨fun _ => trivial, fun _ => rfl⟩
theorem cEqJointS (xs : List Jo) (hx : xs.length ≤ 2 ^ 40) (hw : ∀ x ∈ xs, (x.2.1.length ≤ 2 ^ 40 ∧ x.2.2.1.length ≤ 2 ^ 40) ∧ jW x.1) : PureC X 17 [.c (.sl false xs.length 25 (flat joc xs)), .c (.sl false xs.length 25 (flat joc xs))] (cB (decide True)) := by
  refine PureC.of_body (drawD_ok X) (fun _ _ => Go.Proofs.Try.call17 _ _) Go.Proofs.Try.func17 rfl (n := 27) rfl ?_
  refine w_seq ?_
  refine w_reg rfl ?_
  refine v_assign (c := .v (.bool false)) rfl ?_
  refine v_nil ?_
  refine q_n ?_
  refine w_seq ?_
  refine w_seq ?_
  refine w_reg rfl ?_
  refine v_move rfl ?_
  refine v_len_sl lay25 rfl ?_
  refine v_move rfl ?_
  refine v_len_sl lay25 rfl ?_
  refine v_neq lay3 rfl rfl (fun h1 => ?_) (fun h1 => ?_)
  · exact absurd rfl h1
  refine v_nil ?_
  refine q_n ?_
  refine w_f rfl ?_
  refine w_skip ?_
  refine q_n ?_
  refine w_seq ?_
  refine w_seq ?_
  refine w_reg rfl ?_
  refine v_assign (c := .v (.int .i64 0)) rfl ?_
  refine v_nil ?_
  refine q_n ?_
  refine w_block ?_
  refine w_loop (fun k sl H => ∃ i : Nat, k = xs.length - i ∧ i ≤ xs.length ∧ sl = sls [(0, .c (.sl false xs.length 25 (flat joc xs))), (1, .c (.sl false xs.length 25 (flat joc xs))), (5, cI i)] ∧ H = []) ?_ ?_
  · refine ⟨_, _, _, ?_, 0, rfl, Nat.zero_le _, rfl, rfl⟩
    exact turn0 ⟨tr_sl, tr_sl, tr_v, trivial⟩
  rintro k sl H ⟨i, rfl, hi, rfl, rfl⟩
  refine w_seq ?_
  refine w_seq ?_
  refine w_reg rfl ?_
  refine v_move rfl ?_
  refine v_move rfl ?_
  refine v_len_sl lay25 rfl ?_
  refine v_lss lay3 rfl rfl (fun h2 => ?_) (fun h2 => ?_)
  rotate_left
  · refine v_nil ?_
    refine q_n ?_
    refine w_f rfl ?_
    refine w_exit ?_
    refine q_e ?_
    refine q_e ?_
    refine q_hit ?_
    refine q_n ?_
    refine w_seq ?_
    refine w_reg rfl ?_
    refine v_assign (c := .v (.bool true)) rfl ?_
    refine v_nil ?_
    refine q_n ?_
    refine w_ret ?_
    refine r_r rfl ?_
    exact a_b ⟨fun _ => trivial, fun _ => rfl⟩
  have i1 : i < xs.length := by omega
  refine v_nil ?_
  refine q_n ?_
  refine w_t rfl ?_
  refine w_skip ?_
  refine q_n ?_
  refine w_seq ?_
  refine w_block ?_
  refine w_seq ?_
  refine w_draw [0, 0, 3, 7, 0, 0, 48, 112, 255, 511] [⟨0, 0, []⟩, ⟨1, 0, []⟩, ⟨2, 0, []⟩, ⟨3, 0, []⟩, ⟨4, 0, []⟩, ⟨5, 0, []⟩, ⟨6, 0, []⟩, ⟨7, 0, []⟩, ⟨8, 0, []⟩, ⟨9, 0, []⟩] rfl rfl ?_
  refine d_q rfl rfl rfl rfl rfl ?_
  refine v_move rfl ?_
  refine v_nil ?_
  refine d_q rfl rfl rfl rfl rfl ?_
  refine v_move rfl ?_
  refine v_nil ?_
  refine d_q rfl rfl rfl rfl rfl ?_
  refine v_idx_e (k := 25) (i) joc_len lay25 lay53 rfl rfl rfl (rfl) rfl (rfl) (i1) ?_
  refine v_nil ?_
  refine d_q rfl rfl rfl rfl rfl ?_
  refine v_load_vw (.agg [.v _, .v _, .f _ _, .f _ _, .f _ _, .f _ _, .f _ _, .f _ _, .f _ _, .f _ _, .f _ _, .f _ _, .f _ _, .f _ _, .f _ _, .f _ _, .f _ _, .f _ _, .f _ _, .f _ _, .f _ _, .f _ _, _, _, .v _]) lay53 rfl rfl rfl ?_
  refine v_nil ?_
  refine d_q rfl rfl rfl rfl rfl ?_
  refine v_move rfl ?_
  refine v_nil ?_
  refine d_q rfl rfl rfl rfl rfl ?_
  refine v_move rfl ?_
  refine v_nil ?_
  refine d_q rfl rfl rfl rfl rfl ?_
  refine v_idx_e (k := 25) (i) joc_len lay25 lay53 rfl rfl rfl (rfl) rfl (rfl) (i1) ?_
  refine v_nil ?_
  refine d_q rfl rfl rfl rfl rfl ?_
  refine v_load_vw (.agg [.v _, .v _, .f _ _, .f _ _, .f _ _, .f _ _, .f _ _, .f _ _, .f _ _, .f _ _, .f _ _, .f _ _, .f _ _, .f _ _, .f _ _, .f _ _, .f _ _, .f _ _, .f _ _, .f _ _, .f _ _, .f _ _, _, _, .v _]) lay53 rfl rfl rfl ?_
  refine v_nil ?_
  refine d_callb (cEqJoint _ (hw _ (List.getElem_mem i1)).1.1 (hw _ (List.getElem_mem i1)).1.2 (hw _ (List.getElem_mem i1)).2) rfl rfl rfl rfl (.cons (vw_agg (.cons vw_v (.cons vw_v (.cons vw_f (.cons vw_f (.cons vw_f (.cons vw_f (.cons vw_f (.cons vw_f (.cons vw_f (.cons vw_f (.cons vw_f (.cons vw_f (.cons vw_f (.cons vw_f (.cons vw_f (.cons vw_f (.cons vw_f (.cons vw_f (.cons vw_f (.cons vw_f (.cons vw_f (.cons vw_f (.cons vw_sl (.cons vw_sl (.cons vw_v .nil)))))))))))))))))))))))))) (.cons (vw_agg (.cons vw_v (.cons vw_v (.cons vw_f (.cons vw_f (.cons vw_f (.cons vw_f (.cons vw_f (.cons vw_f (.cons vw_f (.cons vw_f (.cons vw_f (.cons vw_f (.cons vw_f (.cons vw_f (.cons vw_f (.cons vw_f (.cons vw_f (.cons vw_f (.cons vw_f (.cons vw_f (.cons vw_f (.cons vw_f (.cons vw_sl (.cons vw_sl (.cons vw_v .nil)))))))))))))))))))))))))) .nil)) (fun h5 => ?_) (fun h5 => ?_)
  rotate_left
  · exact absurd trivial h5
  refine d_q rfl rfl rfl rfl rfl ?_
  refine v_not false rfl rfl ?_
  refine v_nil ?_
  refine d_nil ?_
  refine q_n ?_
  refine w_f rfl ?_
  refine w_skip ?_
  refine q_bn ?_
  refine q_n ?_
  refine w_reg rfl ?_
  refine v_move rfl ?_
  refine v_add lay3 rfl rfl (i64r (by omega)) ?_
  refine v_assign rfl ?_
  refine v_nil ?_
  refine q_n ?_
  refine ⟨_, _, _, ?_, ⟨i + 1, rfl, by omega, rfl, rfl⟩, by omega⟩
  exact turn0 ⟨tr_sl, tr_sl, tr_v, trivial⟩
end Go.VL
namespace Go.VL
open Go.RowKit
set_option maxRecDepth 20000
set_option maxHeartbeats 8000000
abbrev Tw := List Rd × List (Option Nat) × List Jo × List Pln × Int × Option Nat × Option Nat
abbrev twf (o : Bool) (t : Tw) : List C := [rds o t.1, flo o t.2.1, jos o t.2.2.1, pls o t.2.2.2.1, .v (.int .i64 t.2.2.2.2.1), .f .f32 t.2.2.2.2.2.1, .f .f32 t.2.2.2.2.2.2]
/-- How long the lists of a town are at most. -/
def tB (n : Nat) (t : Tw) : Prop := t.1.length ≤ n ∧ t.2.1.length ≤ n ∧ t.2.2.1.length ≤ n ∧ (∀ j ∈ t.2.2.1, j.2.1.length ≤ n ∧ j.2.2.1.length ≤ n) ∧ t.2.2.2.1.length ≤ n ∧ ∀ p ∈ t.2.2.2.1, p.1.length ≤ n
/-- Slots whose ticks are words. -/
def pW (p : Pln) : Prop := ∀ s ∈ p.1, -9223372036854775808 ≤ s.2 ∧ s.2 ≤ 9223372036854775807
/-- A town's numbers are singles, and words. -/
def tF (t : Tw) : Prop := (∀ r ∈ t.1, rW r) ∧ (∀ x ∈ t.2.1, Sg x) ∧ (∀ j ∈ t.2.2.1, jW j.1) ∧ Sg t.2.2.2.2.2.1 ∧ Sg t.2.2.2.2.2.2 ∧ ∀ p ∈ t.2.2.2.1, pW p
theorem cEqTown (t : Tw) (hB : tB (2 ^ 20) t) (hF : tF t) : PureC X 6 [.agg (twf false t), .agg (twf false t)] (cB (decide True)) := by
  refine PureC.of_body (drawD_ok X) (fun _ _ => Go.Proofs.Try.call6 _ _) Go.Proofs.Try.func6 rfl (n := 50) rfl ?_
  refine w_seq ?_
  refine w_reg rfl ?_
  refine v_box (m := 0) (H' := [_]) lay28 rfl rfl rfl ?_
  refine v_box (m := 1) (H' := [_, _]) lay28 rfl rfl rfl ?_
  refine v_assign (c := .v (.bool false)) rfl ?_
  refine v_nil ?_
  refine q_n ?_
  refine w_seq ?_
  refine w_seq ?_
  refine w_reg rfl ?_
  refine v_fa_pt (off' := 0) lay28 rfl rfl rfl ?_
  refine v_load_pt (.c _) lay23 rfl rfl rfl rfl ?_
  refine v_fa_pt (off' := 0) lay28 rfl rfl rfl ?_
  refine v_load_pt (.c _) lay23 rfl rfl rfl rfl ?_
  refine v_callb (cEqRoadS _ (by have := hB.1; omega) hF.1) rfl rfl (.cons vw_sl (.cons vw_sl .nil)) (fun h1 => ?_) (fun h1 => ?_)
  rotate_left
  · exact absurd trivial h1
  refine v_not false rfl rfl ?_
  refine v_nil ?_
  refine q_n ?_
  refine w_f rfl ?_
  refine w_skip ?_
  refine q_n ?_
  refine w_seq ?_
  refine w_seq ?_
  refine w_reg rfl ?_
  refine v_fa_pt (off' := 1) lay28 rfl rfl rfl ?_
  refine v_load_pt (.c _) lay24 rfl rfl rfl rfl ?_
  refine v_fa_pt (off' := 1) lay28 rfl rfl rfl ?_
  refine v_load_pt (.c _) lay24 rfl rfl rfl rfl ?_
  refine v_callb (cEqFloatS _ (by have := hB.2.1; omega) hF.2.1) rfl rfl (.cons vw_sl (.cons vw_sl .nil)) (fun h2 => ?_) (fun h2 => ?_)
  rotate_left
  · exact absurd trivial h2
  refine v_not false rfl rfl ?_
  refine v_nil ?_
  refine q_n ?_
  refine w_f rfl ?_
  refine w_skip ?_
  refine q_n ?_
  refine w_seq ?_
  refine w_seq ?_
  refine w_reg rfl ?_
  refine v_fa_pt (off' := 2) lay28 rfl rfl rfl ?_
  refine v_load_pt (.c _) lay25 rfl rfl rfl rfl ?_
  refine v_fa_pt (off' := 2) lay28 rfl rfl rfl ?_
  refine v_load_pt (.c _) lay25 rfl rfl rfl rfl ?_
  refine v_callb (cEqJointS _ (by have := hB.2.2.1; omega) (fun j hj => ⟨by have := hB.2.2.2.1 j hj; omega, hF.2.2.1 j hj⟩)) rfl rfl (.cons vw_sl (.cons vw_sl .nil)) (fun h3 => ?_) (fun h3 => ?_)
  rotate_left
  · exact absurd trivial h3
  refine v_not false rfl rfl ?_
  refine v_nil ?_
  refine q_n ?_
  refine w_f rfl ?_
  refine w_skip ?_
  refine q_n ?_
  refine w_seq ?_
  refine w_seq ?_
  refine w_reg rfl ?_
  refine v_fa_pt (off' := 3) lay28 rfl rfl rfl ?_
  refine v_load_pt (.c _) lay26 rfl rfl rfl rfl ?_
  refine v_fa_pt (off' := 3) lay28 rfl rfl rfl ?_
  refine v_load_pt (.c _) lay26 rfl rfl rfl rfl ?_
  refine v_callb (cEqPlanS _ (by have := hB.2.2.2.2.1; omega) (fun p hp => by have := hB.2.2.2.2.2 p hp; omega)) rfl rfl (.cons vw_sl (.cons vw_sl .nil)) (fun h4 => ?_) (fun h4 => ?_)
  rotate_left
  · exact absurd trivial h4
  refine v_not false rfl rfl ?_
  refine v_nil ?_
  refine q_n ?_
  refine w_f rfl ?_
  refine w_skip ?_
  refine q_n ?_
  refine w_seq ?_
  refine w_seq ?_
  refine w_reg rfl ?_
  refine v_fa_pt (off' := 4) lay28 rfl rfl rfl ?_
  refine v_load_pt (.c _) lay2 rfl rfl rfl rfl ?_
  refine v_fa_pt (off' := 4) lay28 rfl rfl rfl ?_
  refine v_load_pt (.c _) lay2 rfl rfl rfl rfl ?_
  refine v_neq lay2 rfl rfl (fun h5 => ?_) (fun h5 => ?_)
  · exact absurd rfl h5
  refine v_nil ?_
  refine q_n ?_
  refine w_f rfl ?_
  refine w_skip ?_
  refine q_n ?_
  refine w_seq ?_
  refine w_seq ?_
  refine w_reg rfl ?_
  refine v_fa_pt (off' := 5) lay28 rfl rfl rfl ?_
  refine v_load_pt (.c _) lay22 rfl rfl rfl rfl ?_
  refine v_conv_ff _ lay22 lay59 rfl (convF_single (by first | exact hF.2.2.2.1.1 | exact hF.2.2.2.2.1.1)) ?_
  refine v_fa_pt (off' := 5) lay28 rfl rfl rfl ?_
  refine v_load_pt (.c _) lay22 rfl rfl rfl rfl ?_
  refine v_conv_ff _ lay22 lay59 rfl (convF_single (by first | exact hF.2.2.2.1.1 | exact hF.2.2.2.2.1.1)) ?_
  refine v_callb (cSF _ (wide_ok (by first | exact hF.2.2.2.1.1 | exact hF.2.2.2.2.1.1))) rfl rfl (.cons vw_f (.cons vw_f .nil)) (fun h6 => ?_) (fun h6 => ?_)
  rotate_left
  · exact absurd trivial h6
  refine v_not false rfl rfl ?_
  refine v_nil ?_
  refine q_n ?_
  refine w_f rfl ?_
  refine w_skip ?_
  refine q_n ?_
  refine w_seq ?_
  refine w_seq ?_
  refine w_reg rfl ?_
  refine v_fa_pt (off' := 6) lay28 rfl rfl rfl ?_
  refine v_load_pt (.c _) lay22 rfl rfl rfl rfl ?_
  refine v_conv_ff _ lay22 lay59 rfl (convF_single (by first | exact hF.2.2.2.1.1 | exact hF.2.2.2.2.1.1)) ?_
  refine v_fa_pt (off' := 6) lay28 rfl rfl rfl ?_
  refine v_load_pt (.c _) lay22 rfl rfl rfl rfl ?_
  refine v_conv_ff _ lay22 lay59 rfl (convF_single (by first | exact hF.2.2.2.1.1 | exact hF.2.2.2.2.1.1)) ?_
  refine v_callb (cSF _ (wide_ok (by first | exact hF.2.2.2.1.1 | exact hF.2.2.2.2.1.1))) rfl rfl (.cons vw_f (.cons vw_f .nil)) (fun h7 => ?_) (fun h7 => ?_)
  rotate_left
  · exact absurd trivial h7
  refine v_not false rfl rfl ?_
  refine v_nil ?_
  refine q_n ?_
  refine w_f rfl ?_
  refine w_skip ?_
  refine q_n ?_
  refine w_seq ?_
  refine w_reg rfl ?_
  refine v_assign (c := .v (.bool true)) rfl ?_
  refine v_nil ?_
  refine q_n ?_
  refine w_ret ?_
  refine r_r rfl ?_
  exact a_b ⟨fun _ => trivial, fun _ => rfl⟩
end Go.VL
namespace Go.VL
open Go.RowKit
set_option maxRecDepth 20000
set_option maxHeartbeats 8000000
/-- An amount: a number that is greater than nought, or nought with no sign. -/
def amt (b : Nat) : Prop := fin (some b) = true ∧ ((ford .f32 (some b) (fOf .f32 0) == some .gt) = true ∨ b = 0)
instance (b : Nat) : Decidable (amt b) := by unfold amt; infer_instance
def amtB : Option Nat → Bool
  | none => false
  | some b => decide (amt b)
theorem amtB_some {b : Nat} : amtB (some b) = true ↔ amt b := by simp [amtB]
theorem amt_num {b : Nat} (hb : b < 2 ^ 32) {s : Bool} {m : Nat} {e : Int} (h : FloatKind.f32.format.read b = .number s m e) : amt b ↔ s = false := by
  unfold amt
  have hf := fin_num h
  rw [num_some h] at hf
  rw [order_zero h, zero_bits hb h, hf]
  cases s <;> by_cases hm : m = 0 <;> simp [hm]
theorem ge_of_amt {b : Nat} (hb : b < 2 ^ 32) (h : amt b) : (ford .f32 (some b) (fOf .f32 0) == some .gt || ford .f32 (some b) (fOf .f32 0) == some .eq) = true := by
  obtain ⟨s, m, e, hr⟩ := num_of_fin h.1
  have hs := (amt_num hb hr).1 h
  subst hs
  rw [order_zero hr]
  by_cases hm : m = 0 <;> simp [hm]
theorem sign_amt {b w : Nat} (hb : b < 2 ^ 32) (hw : convF .f32 .f64 (some b) = some (some w)) (h : fin (some b) = true) : IntKind.i64.wrap (w : Int) < 0 ↔ ¬ amt b := by
  obtain ⟨s, m, e, hr⟩ := num_of_fin h
  rw [convF_wide hr] at hw
  simp only [Option.some.injEq] at hw
  subst hw
  obtain ⟨hm, he⟩ := read_single hr
  rw [wide_sign hm he, amt_num hb hr]
  cases s <;> simp
abbrev fle (x : Option Nat) (c : Nat) : Prop := (ford .f32 x (fOf .f32 c) == some .lt || ford .f32 x (fOf .f32 c) == some .eq) = true
abbrev fge (x : Option Nat) (c : Nat) : Prop := (ford .f32 x (fOf .f32 c) == some .gt || ford .f32 x (fOf .f32 c) == some .eq) = true
/-- What is at least a quarter and not beyond all bounds is an amount. -/
theorem amt_of {x : Option Nat} (hx : Sg x) (h1 : fge x 1048576000) (h2 : fle x 1090519040) : amtB x = true := by
  cases x with
  | none => exact absurd h1 (by decide)
  | some b =>
    rw [amtB_some]
    have hc : FloatKind.f32.format.read 1048576000 = .number false 8388608 (-25) := by decide
    have hd : FloatKind.f32.format.read 1090519040 = .number false 8388608 (-20) := by decide
    have e1 : fOf .f32 1048576000 = some 1048576000 := by decide
    have e2 : fOf .f32 1090519040 = some 1090519040 := by decide
    rcases okF_read hx.1 with ⟨s, m, e, hr⟩ | ⟨s, hr⟩
    · rw [amt_num (hx.2 b rfl) hr]
      cases s with
      | false => rfl
      | true =>
        exfalso
        unfold fge at h1
        rw [e1] at h1
        simp only [ford, Option.bind_some, Ieee.Format.order, hr, hc, Ieee.Datum.order] at h1
        have hl : compare (Ieee.signed true m (e - min e (-25)).toNat) (Ieee.signed false 8388608 (-25 - min e (-25)).toNat) = Ordering.lt := by
          rw [sgn_t, sgn_f]
          show compareOfLessAndEq _ _ = _
          unfold compareOfLessAndEq
          have := Nat.mul_pos (show 0 < 8388608 by decide) (Nat.two_pow_pos (-25 - min e (-25)).toNat)
          rw [if_pos (by omega)]
        rw [hl] at h1
        exact absurd h1 (by decide)
    · exfalso
      unfold fge at h1
      unfold fle at h2
      rw [e1] at h1
      rw [e2] at h2
      simp only [ford, Option.bind_some, Ieee.Format.order, hr, hc, hd, Ieee.Datum.order] at h1 h2
      cases s
      · exact absurd h2 (by decide)
      · exact absurd h1 (by decide)
/-- A share. -/
def shr (x : Option Nat) : Prop := amtB x = true ∧ fle x 1065353216
instance (x : Option Nat) : Decidable (shr x) := by unfold shr; infer_instance
/-- A road that is valid. -/
def roadOk (r : Rd) : Prop := (∀ i : Fin 16, shr (r.1 i)) ∧ shr r.2.1 ∧ shr r.2.2.1 ∧ fge r.2.1 1015021568 ∧ fge r.2.2.1 1015021568 ∧ fge r.2.2.2 1048576000 ∧ fle r.2.2.2 1090519040
instance (r : Rd) : Decidable (roadOk r) := by unfold roadOk; infer_instance
theorem road_i {r : Rd} {i : Nat} {h : i < 16} (hn : ¬ shr (r.1 ⟨i, h⟩)) : ¬ roadOk r := fun ho => hn (ho.1 _)
theorem road_x (r : Rd) (i : Nat) (h : i < 16) : mkV false (sub (cac r.1) (i * 1) 1) = some (.c (.f .f32 (r.1 ⟨i, h⟩))) := by
  have e : sub (cac r.1) (i * 1) 1 = [.f .f32 (r.1 ⟨i, h⟩)] := by
    rw [Nat.mul_one]
    simpa using cac_sub r.1 [] h
  rw [e]
  rfl
def ticksOk (xs : List Slo) : Prop := ∀ s ∈ xs, 1 ≤ s.2 ∧ s.2 ≤ 240
def cyc : List Slo → Int → Int
  | [], _ => 0
  | s :: r, b => (s.2 + b) + cyc r b
theorem cyc_rng {b : Int} (hb : 0 ≤ b ∧ b ≤ 240) : ∀ {xs : List Slo}, ticksOk xs → (xs.length : Int) ≤ cyc xs b ∧ cyc xs b ≤ 480 * xs.length
  | [], _ => by simp [cyc]
  | s :: r, h => by
    have h1 := h s (by simp)
    have h2 := cyc_rng hb (xs := r) fun x hx => h x (by simp [hx])
    simp only [cyc, List.length_cons]
    push_cast
    omega
def okP (xs : List Slo) (b f : Int) : Prop := ((1 ≤ (xs.length : Int) ∧ (xs.length : Int) ≤ 8) ∧ ticksOk xs ∧ (0 ≤ b ∧ b ≤ 240)) ∧ cyc xs b ≤ 240 ∧ (0 ≤ f ∧ f ≤ cyc xs b - 1)
instance (xs : List Slo) : Decidable (ticksOk xs) := by unfold ticksOk; infer_instance
instance (xs : List Slo) (b f : Int) : Decidable (okP xs b f) := by unfold okP; infer_instance
/-- The reference's own length of a round: it leaves early. -/
def cyS : List Slo → Int → Int → Int
  | [], _, a => a
  | s :: r, b, a => if (1 ≤ s.2 ∧ s.2 ≤ 240) ∧ (0 ≤ b ∧ b ≤ 240) then (if 240 < a + (s.2 + b) then a + (s.2 + b) else cyS r b (a + (s.2 + b))) else 241
theorem cyS_ok {b : Int} : ∀ {xs : List Slo} {a : Int}, ticksOk xs → 0 ≤ b ∧ b ≤ 240 → a + cyc xs b ≤ 240 → cyS xs b a = a + cyc xs b
  | [], a, _, _, _ => by simp [cyS, cyc]
  | s :: r, a, h, hb, hc => by
    have h1 := h s (by simp)
    have h3 : ticksOk r := fun x hx => h x (by simp [hx])
    have h2 := cyc_rng hb h3
    simp only [cyc] at hc ⊢
    unfold cyS
    rw [if_pos ⟨h1, hb⟩, if_neg (by omega), cyS_ok h3 hb (by omega)]
    omega
theorem cyS_le {b : Int} : ∀ {xs : List Slo} {a : Int}, 1 ≤ xs.length → cyS xs b a ≤ 240 → ticksOk xs ∧ (0 ≤ b ∧ b ≤ 240) ∧ a + cyc xs b ≤ 240
  | [s], a, _, h => by
    unfold cyS at h
    split at h
    · rename_i h1
      split at h
      · omega
      · refine ⟨fun x hx => by simp at hx; subst hx; exact h1.1, h1.2, ?_⟩
        simp only [cyc]
        omega
    · omega
  | s :: s' :: r, a, _, h => by
    unfold cyS at h
    split at h
    · rename_i h1
      split at h
      · omega
      · obtain ⟨k1, k2, k3⟩ := cyS_le (xs := s' :: r) (by simp) h
        refine ⟨fun x hx => ?_, h1.2, ?_⟩
        · rcases List.mem_cons.1 hx with rfl | hx
          · exact h1.1
          · exact k1 x hx
        · have e : cyc (s :: s' :: r) b = (s.2 + b) + cyc (s' :: r) b := rfl
          omega
    · omega
theorem cyS_nn {b : Int} : ∀ {xs : List Slo} {a : Int}, 0 ≤ a → 0 ≤ cyS xs b a
  | [], a, h => h
  | s :: r, a, h => by
    unfold cyS
    split
    · split
      · omega
      · exact cyS_nn (by omega)
    · decide
theorem cyS_at {xs : List Slo} {b a : Int} {i : Nat} (h : i < xs.length) : cyS (xs.drop i) b a = if (1 ≤ xs[i].2 ∧ xs[i].2 ≤ 240) ∧ (0 ≤ b ∧ b ≤ 240) then (if 240 < a + (xs[i].2 + b) then a + (xs[i].2 + b) else cyS (xs.drop (i + 1)) b (a + (xs[i].2 + b))) else 241 := by
  rw [List.drop_eq_getElem_cons h, cyS]
theorem okS {xs : List Slo} {b f : Int} (h1 : 1 ≤ (xs.length : Int) ∧ (xs.length : Int) ≤ 8) : (cyS xs b 0 ≤ 240 ∧ (0 ≤ f ∧ f ≤ cyS xs b 0 - 1)) ↔ okP xs b f := by
  constructor
  · rintro ⟨h2, h3⟩
    obtain ⟨k1, k2, k3⟩ := cyS_le (by omega) h2
    rw [cyS_ok k1 k2 k3] at h3
    exact ⟨⟨h1, k1, k2⟩, by omega, by omega⟩
  · rintro ⟨⟨-, k1, k2⟩, k3, k4⟩
    rw [cyS_ok k1 k2 (by omega)]
    exact ⟨by omega, by omega⟩
theorem rd_ld7 (r : Rd) {i : Nat} (h : i < 16) : mkV false (reowns false (sub (rdc r) (0 + i * 1) 1)) = some (.c (.f .f32 (r.1 ⟨i, h⟩))) := by
  have e : sub (rdc r) (0 + i * 1) 1 = [.f .f32 (r.1 ⟨i, h⟩)] := by
    rw [show 0 + i * 1 = i by omega]
    exact cac_sub r.1 [.f .f32 r.2.1, .f .f32 r.2.2.1, .f .f32 r.2.2.2] h
  rw [e]
  rfl
theorem fz_sc {c : C} (h : sc c = true) : fz c = true := by cases c <;> first | rfl | cases h
theorem cInR (a lo hi : Int) : PureC X 13 [cI a, cI lo, cI hi] (cB (decide (lo ≤ a ∧ a ≤ hi))) := by
  refine PureC.of_body (drawD_ok X) (fun _ _ => Go.Proofs.Try.call13 _ _) Go.Proofs.Try.func13 rfl (n := 15) rfl ?_
  refine w_seq ?_
  refine w_reg rfl ?_
  refine v_assign (c := .v (.bool false)) rfl ?_
  refine v_nil ?_
  refine q_n ?_
  refine w_seq ?_
  refine w_reg rfl ?_
  refine v_move rfl ?_
  refine v_move rfl ?_
  refine v_leq lay2 rfl rfl (fun h1 => ?_) (fun h1 => ?_)
  rotate_left
  · refine v_move rfl ?_
    refine v_guard_off rfl rfl rfl ?_
    refine v_guard_off rfl rfl rfl ?_
    refine v_guard_off rfl rfl rfl ?_
    refine v_pick_f (v := .v (.bool false)) rfl rfl ?_
    refine v_assign rfl ?_
    refine v_nil ?_
    refine q_n ?_
    refine w_ret ?_
    refine r_r rfl ?_
    exact a_b (by simp <;> omega)
  refine v_move rfl ?_
  refine v_guard_on rfl rfl ?_
  refine v_move rfl ?_
  refine v_guard_on rfl rfl ?_
  refine v_move rfl ?_
  refine v_guard_on rfl rfl ?_
  refine v_leq lay2 rfl rfl (fun h2 => ?_) (fun h2 => ?_)
  · refine v_pick_t rfl rfl ?_
    refine v_assign rfl ?_
    refine v_nil ?_
    refine q_n ?_
    refine w_ret ?_
    refine r_r rfl ?_
    exact a_b (by simp <;> omega)
  refine v_pick_t rfl rfl ?_
  refine v_assign rfl ?_
  refine v_nil ?_
  refine q_n ?_
  refine w_ret ?_
  refine r_r rfl ?_
  exact a_b (by simp <;> omega)
theorem cIn (a lo hi : Int) : PureC X 9 [cI a, cI lo, cI hi] (cB (decide (lo ≤ a ∧ a ≤ hi))) := by
  refine PureC.of_body (drawD_ok X) (fun _ _ => Go.Proofs.Try.call9 _ _) Go.Proofs.Try.func9 rfl (n := 15) rfl ?_
  refine w_seq ?_
  refine w_reg rfl ?_
  refine v_assign (c := .v (.bool false)) rfl ?_
  refine v_nil ?_
  refine q_n ?_
  refine w_seq ?_
  refine w_reg rfl ?_
  refine v_move rfl ?_
  refine v_move rfl ?_
  refine v_geq lay2 rfl rfl (fun h1 => ?_) (fun h1 => ?_)
  rotate_left
  · refine v_move rfl ?_
    refine v_guard_off rfl rfl rfl ?_
    refine v_guard_off rfl rfl rfl ?_
    refine v_guard_off rfl rfl rfl ?_
    refine v_pick_f (v := .v (.bool false)) rfl rfl ?_
    refine v_assign rfl ?_
    refine v_nil ?_
    refine q_n ?_
    refine w_ret ?_
    refine r_r rfl ?_
    exact a_b (by simp <;> omega)
  refine v_move rfl ?_
  refine v_guard_on rfl rfl ?_
  refine v_move rfl ?_
  refine v_guard_on rfl rfl ?_
  refine v_move rfl ?_
  refine v_guard_on rfl rfl ?_
  refine v_leq lay2 rfl rfl (fun h2 => ?_) (fun h2 => ?_)
  · refine v_pick_t rfl rfl ?_
    refine v_assign rfl ?_
    refine v_nil ?_
    refine q_n ?_
    refine w_ret ?_
    refine r_r rfl ?_
    exact a_b (by simp <;> omega)
  refine v_pick_t rfl rfl ?_
  refine v_assign rfl ?_
  refine v_nil ?_
  refine q_n ?_
  refine w_ret ?_
  refine r_r rfl ?_
  exact a_b (by simp <;> omega)
theorem cFinS (x : Option Nat) : PureC X 44 [.c (.f .f32 x)] (cB (decide (fin x = true))) := by
  refine PureC.of_body (drawD_ok X) (fun _ _ => Go.Proofs.Try.call44 _ _) Go.Proofs.Try.func44 rfl (n := 7) rfl ?_
  refine w_seq ?_
  refine w_reg rfl ?_
  refine v_assign (c := .v (.bool false)) rfl ?_
  refine v_nil ?_
  refine q_n ?_
  refine w_seq ?_
  refine w_reg rfl ?_
  refine v_move rfl ?_
  refine v_move rfl ?_
  refine v_bin (c := .f _ _) lay22 rfl rfl rfl ?_
  refine v_binb lay22 rfl rfl rfl (fun h1 => ?_) (fun h1 => ?_)
  · refine v_assign rfl ?_
    refine v_nil ?_
    refine q_n ?_
    refine w_ret ?_
    refine r_r rfl ?_
    exact a_b ⟨fun _ => h1, fun _ => rfl⟩
  refine v_assign rfl ?_
  refine v_nil ?_
  refine q_n ?_
  refine w_ret ?_
  refine r_r rfl ?_
  exact a_b ⟨fun h => (by cases h), fun h => absurd (h1.symm.trans h) (by simp)⟩
theorem cFinI (x : Option Nat) : PureC X 55 [.c (.f .f32 x)] (cB (decide (fin x = true))) := by
  refine PureC.of_body (drawD_ok X) (fun _ _ => Go.Proofs.Try.call55 _ _) Go.Proofs.Try.func55 rfl (n := 7) rfl ?_
  refine w_seq ?_
  refine w_reg rfl ?_
  refine v_assign (c := .v (.bool false)) rfl ?_
  refine v_nil ?_
  refine q_n ?_
  refine w_seq ?_
  refine w_reg rfl ?_
  refine v_move rfl ?_
  refine v_move rfl ?_
  refine v_bin (c := .f _ _) lay22 rfl rfl rfl ?_
  refine v_binb lay22 rfl rfl rfl (fun h1 => ?_) (fun h1 => ?_)
  · refine v_assign rfl ?_
    refine v_nil ?_
    refine q_n ?_
    refine w_ret ?_
    refine r_r rfl ?_
    exact a_b ⟨fun _ => h1, fun _ => rfl⟩
  refine v_assign rfl ?_
  refine v_nil ?_
  refine q_n ?_
  refine w_ret ?_
  refine r_r rfl ?_
  exact a_b ⟨fun h => (by cases h), fun h => absurd (h1.symm.trans h) (by simp)⟩
theorem cFB64 (b : Nat) : PureC X 60 [.c (.f .f64 (some b))] (.c (.v (.int .u64 b))) := pure_f64bits Go.Proofs.Try.func60 (by kernel_rfl) rfl (by kernel_rfl) (by kernel_rfl) b
theorem cSgb (b : Nat) : PureC X 56 [.c (.f .f64 (some b))] (cB (decide (IntKind.i64.wrap (b : Int) < 0))) := by
  refine PureC.of_body (drawD_ok X) (fun _ _ => Go.Proofs.Try.call56 _ _) Go.Proofs.Try.func56 rfl (n := 7) rfl ?_
  refine w_seq ?_
  refine w_reg rfl ?_
  refine v_assign (c := .v (.bool false)) rfl ?_
  refine v_nil ?_
  refine q_n ?_
  refine w_seq ?_
  refine w_reg rfl ?_
  refine v_move rfl ?_
  refine v_call (cFB64 _) rfl rfl rfl (.cons vw_f .nil) ?_
  refine v_conv_iw lay101 lay2 rfl ?_
  refine v_lss lay2 rfl rfl (fun h1 => ?_) (fun h1 => ?_)
  · refine v_assign rfl ?_
    refine v_nil ?_
    refine q_n ?_
    refine w_ret ?_
    refine r_r rfl ?_
    exact a_b (by simp_all)
  refine v_assign rfl ?_
  refine v_nil ?_
  refine q_n ?_
  refine w_ret ?_
  refine r_r rfl ?_
  exact a_b (by simp_all)
theorem cAmSs (b : Nat) : PureC X 31 [.c (.f .f32 (some b))] (cB (decide (amtB (some b) = true))) := by
  refine PureC.of_body (drawD_ok X) (fun _ _ => Go.Proofs.Try.call31 _ _) Go.Proofs.Try.func31 rfl (n := 14) rfl ?_
  refine w_seq ?_
  refine w_reg rfl ?_
  refine v_assign (c := .v (.bool false)) rfl ?_
  refine v_nil ?_
  refine q_n ?_
  refine w_seq ?_
  refine w_reg rfl ?_
  refine v_move rfl ?_
  refine v_callb (cFinS _) rfl rfl (.cons vw_f .nil) (fun h1 => ?_) (fun h1 => ?_)
  rotate_left
  · refine v_move rfl ?_
    refine v_guard_off rfl rfl rfl ?_
    refine v_guard_off rfl rfl rfl ?_
    refine v_guard_off rfl rfl rfl ?_
    refine v_guard_un rfl rfl ?_
    refine v_guard_un rfl rfl ?_
    refine v_guard_un rfl rfl ?_
    refine v_guard_off rfl rfl rfl ?_
    refine v_pick_f (v := .v (.bool false)) rfl rfl ?_
    refine v_assign rfl ?_
    refine v_nil ?_
    refine q_n ?_
    refine w_ret ?_
    refine r_r rfl ?_
    exact a_b ⟨fun h => (by cases h), fun h => absurd (amtB_some.1 h).1 h1⟩
  refine v_move rfl ?_
  refine v_guard_on rfl rfl ?_
  refine v_move rfl ?_
  refine v_guard_on rfl rfl ?_
  refine v_binb lay22 rfl rfl rfl (fun h2 => ?_) (fun h2 => ?_)
  · refine v_guard_on rfl rfl ?_
    refine v_move rfl ?_
    refine v_guard_off rfl rfl rfl ?_
    refine v_guard_off rfl rfl rfl ?_
    refine v_guard_off rfl rfl rfl ?_
    refine v_guard_on rfl rfl ?_
    refine v_pick_t (v := .v (.bool true)) rfl rfl ?_
    refine v_pick_t rfl rfl ?_
    refine v_assign rfl ?_
    refine v_nil ?_
    refine q_n ?_
    refine w_ret ?_
    refine r_r rfl ?_
    exact a_b ⟨fun _ => amtB_some.2 ⟨h1, .inl h2⟩, fun _ => rfl⟩
  refine v_guard_on rfl rfl ?_
  refine v_move rfl ?_
  refine v_guard_on rfl rfl ?_
  refine v_move rfl ?_
  refine v_guard_on rfl rfl ?_
  refine v_call (cFB _) rfl rfl rfl (.cons vw_f .nil) ?_
  refine v_guard_on rfl rfl ?_
  refine v_eql lay85 rfl rfl (fun h3 => ?_) (fun h3 => ?_)
  · refine v_guard_on rfl rfl ?_
    refine v_pick_f rfl rfl ?_
    refine v_pick_t rfl rfl ?_
    refine v_assign rfl ?_
    refine v_nil ?_
    refine q_n ?_
    refine w_ret ?_
    refine r_r rfl ?_
    exact a_b ⟨fun _ => amtB_some.2 ⟨h1, .inr (by omega)⟩, fun _ => rfl⟩
  refine v_guard_on rfl rfl ?_
  refine v_pick_f rfl rfl ?_
  refine v_pick_t rfl rfl ?_
  refine v_assign rfl ?_
  refine v_nil ?_
  refine q_n ?_
  refine w_ret ?_
  refine r_r rfl ?_
  exact a_b ⟨fun h => (by cases h), fun h => by
    rcases (amtB_some.1 h).2 with h | h
    · exact absurd (h2.symm.trans h) (by decide)
    · omega⟩
theorem cAmSn : PureC X 31 [.c (.f .f32 none)] (cB (decide (amtB none = true))) := by
  refine PureC.of_body (drawD_ok X) (fun _ _ => Go.Proofs.Try.call31 _ _) Go.Proofs.Try.func31 rfl (n := 14) rfl ?_
  refine w_seq ?_
  refine w_reg rfl ?_
  refine v_assign (c := .v (.bool false)) rfl ?_
  refine v_nil ?_
  refine q_n ?_
  refine w_seq ?_
  refine w_reg rfl ?_
  refine v_move rfl ?_
  refine v_callb (cFinS _) rfl rfl (.cons vw_f .nil) (fun h1 => ?_) (fun h1 => ?_)
  · exact absurd h1 (by decide)
  refine v_move rfl ?_
  refine v_guard_off rfl rfl rfl ?_
  refine v_guard_off rfl rfl rfl ?_
  refine v_guard_off rfl rfl rfl ?_
  refine v_guard_un rfl rfl ?_
  refine v_guard_un rfl rfl ?_
  refine v_guard_un rfl rfl ?_
  refine v_guard_off rfl rfl rfl ?_
  refine v_pick_f (v := .v (.bool false)) rfl rfl ?_
  refine v_assign rfl ?_
  refine v_nil ?_
  refine q_n ?_
  refine w_ret ?_
  refine r_r rfl ?_
  exact a_b ⟨fun h => (by cases h), fun h => (by cases h)⟩
theorem cAmS (x : Option Nat) : PureC X 31 [.c (.f .f32 x)] (cB (decide (amtB x = true))) := by
  cases x with
  | none => exact cAmSn
  | some b => exact cAmSs b
theorem cAmIs (b w : Nat) (hb : b < 2 ^ 32) (hw : convF .f32 .f64 (some b) = some (some w)) : PureC X 48 [.c (.f .f32 (some b))] (cB (decide (amtB (some b) = true))) := by
  refine PureC.of_body (drawD_ok X) (fun _ _ => Go.Proofs.Try.call48 _ _) Go.Proofs.Try.func48 rfl (n := 15) rfl ?_
  refine w_seq ?_
  refine w_reg rfl ?_
  refine v_assign (c := .v (.bool false)) rfl ?_
  refine v_nil ?_
  refine q_n ?_
  refine w_seq ?_
  refine w_reg rfl ?_
  refine v_move rfl ?_
  refine v_binb lay22 rfl rfl rfl (fun h1 => ?_) (fun h1 => ?_)
  rotate_left
  · refine v_move rfl ?_
    refine v_guard_off rfl rfl rfl ?_
    refine v_guard_off rfl rfl rfl ?_
    refine v_pick_f (v := .v (.bool false)) rfl rfl ?_
    refine v_move rfl ?_
    refine v_guard_off rfl rfl rfl ?_
    refine v_guard_off rfl rfl rfl ?_
    refine v_guard_off rfl rfl rfl ?_
    refine v_guard_off rfl rfl rfl ?_
    refine v_pick_f (v := .v (.bool false)) rfl rfl ?_
    refine v_assign rfl ?_
    refine v_nil ?_
    refine q_n ?_
    refine w_ret ?_
    refine r_r rfl ?_
    exact a_b ⟨fun h => (by cases h), fun h => absurd (h1.symm.trans (ge_of_amt hb (amtB_some.1 h))) (by decide)⟩
  refine v_move rfl ?_
  refine v_guard_on rfl rfl ?_
  refine v_move rfl ?_
  refine v_guard_on rfl rfl ?_
  refine v_callb (cFinI _) rfl rfl (.cons vw_f .nil) (fun h2 => ?_) (fun h2 => ?_)
  rotate_left
  · refine v_pick_t rfl rfl ?_
    refine v_move rfl ?_
    refine v_guard_off rfl rfl rfl ?_
    refine v_guard_off rfl rfl rfl ?_
    refine v_guard_off rfl rfl rfl ?_
    refine v_guard_off rfl rfl rfl ?_
    refine v_pick_f (v := .v (.bool false)) rfl rfl ?_
    refine v_assign rfl ?_
    refine v_nil ?_
    refine q_n ?_
    refine w_ret ?_
    refine r_r rfl ?_
    exact a_b ⟨fun h => (by cases h), fun h => absurd (amtB_some.1 h).1 h2⟩
  refine v_pick_t rfl rfl ?_
  refine v_move rfl ?_
  refine v_guard_on rfl rfl ?_
  refine v_move rfl ?_
  refine v_guard_on rfl rfl ?_
  refine v_conv_ff _ lay22 lay59 rfl (hw) ?_
  refine v_guard_on rfl rfl ?_
  refine v_callb (cSgb _) rfl rfl (.cons vw_f .nil) (fun h3 => ?_) (fun h3 => ?_)
  · refine v_guard_on rfl rfl ?_
    refine v_not false rfl rfl ?_
    refine v_pick_t rfl rfl ?_
    refine v_assign rfl ?_
    refine v_nil ?_
    refine q_n ?_
    refine w_ret ?_
    refine r_r rfl ?_
    exact a_b ⟨fun h => (by cases h), fun h => absurd (amtB_some.1 h) ((sign_amt hb hw h2).1 h3)⟩
  refine v_guard_on rfl rfl ?_
  refine v_not true rfl rfl ?_
  refine v_pick_t rfl rfl ?_
  refine v_assign rfl ?_
  refine v_nil ?_
  refine q_n ?_
  refine w_ret ?_
  refine r_r rfl ?_
  exact a_b ⟨fun _ => amtB_some.2 (Decidable.of_not_not fun h => h3 ((sign_amt hb hw h2).2 h)), fun _ => rfl⟩
theorem cAmIn : PureC X 48 [.c (.f .f32 none)] (cB (decide (amtB none = true))) := by
  refine PureC.of_body (drawD_ok X) (fun _ _ => Go.Proofs.Try.call48 _ _) Go.Proofs.Try.func48 rfl (n := 15) rfl ?_
  refine w_seq ?_
  refine w_reg rfl ?_
  refine v_assign (c := .v (.bool false)) rfl ?_
  refine v_nil ?_
  refine q_n ?_
  refine w_seq ?_
  refine w_reg rfl ?_
  refine v_move rfl ?_
  refine v_binb lay22 rfl rfl rfl (fun h1 => ?_) (fun h1 => ?_)
  · exact absurd h1 (by decide)
  refine v_move rfl ?_
  refine v_guard_off rfl rfl rfl ?_
  refine v_guard_off rfl rfl rfl ?_
  refine v_pick_f (v := .v (.bool false)) rfl rfl ?_
  refine v_move rfl ?_
  refine v_guard_off rfl rfl rfl ?_
  refine v_guard_off rfl rfl rfl ?_
  refine v_guard_off rfl rfl rfl ?_
  refine v_guard_off rfl rfl rfl ?_
  refine v_pick_f (v := .v (.bool false)) rfl rfl ?_
  refine v_assign rfl ?_
  refine v_nil ?_
  refine q_n ?_
  refine w_ret ?_
  refine r_r rfl ?_
  exact a_b ⟨fun h => (by cases h), fun h => (by cases h)⟩
theorem cAmI (x : Option Nat) (hx : Sg x) : PureC X 48 [.c (.f .f32 x)] (cB (decide (amtB x = true))) := by
  cases x with
  | none => exact cAmIn
  | some b =>
    obtain ⟨w, hw, -⟩ := wide_some hx.1
    exact cAmIs b w (hx.2 b rfl) hw
theorem cShS (x : Option Nat) : PureC X 43 [.c (.f .f32 x)] (cB (decide (shr x))) := by
  refine PureC.of_body (drawD_ok X) (fun _ _ => Go.Proofs.Try.call43 _ _) Go.Proofs.Try.func43 rfl (n := 9) rfl ?_
  refine w_seq ?_
  refine w_reg rfl ?_
  refine v_assign (c := .v (.bool false)) rfl ?_
  refine v_nil ?_
  refine q_n ?_
  refine w_seq ?_
  refine w_reg rfl ?_
  refine v_move rfl ?_
  refine v_callb (cAmS _) rfl rfl (.cons vw_f .nil) (fun h1 => ?_) (fun h1 => ?_)
  rotate_left
  · refine v_move rfl ?_
    refine v_guard_off rfl rfl rfl ?_
    refine v_guard_off rfl rfl rfl ?_
    refine v_pick_f (v := .v (.bool false)) rfl rfl ?_
    refine v_assign rfl ?_
    refine v_nil ?_
    refine q_n ?_
    refine w_ret ?_
    refine r_r rfl ?_
    exact a_b (by unfold shr; simp_all)
  refine v_move rfl ?_
  refine v_guard_on rfl rfl ?_
  refine v_move rfl ?_
  refine v_guard_on rfl rfl ?_
  refine v_binb lay22 rfl rfl rfl (fun h2 => ?_) (fun h2 => ?_)
  · replace h2 : fle x 1065353216 := h2
    refine v_pick_t rfl rfl ?_
    refine v_assign rfl ?_
    refine v_nil ?_
    refine q_n ?_
    refine w_ret ?_
    refine r_r rfl ?_
    exact a_b (by unfold shr; simp_all)
  replace h2 : ¬ fle x 1065353216 := fun h => absurd (h2.symm.trans h) (by decide)
  refine v_pick_t rfl rfl ?_
  refine v_assign rfl ?_
  refine v_nil ?_
  refine q_n ?_
  refine w_ret ?_
  refine r_r rfl ?_
  exact a_b (by unfold shr; simp_all)
theorem cShI (x : Option Nat) (hx : Sg x) : PureC X 47 [.c (.f .f32 x)] (cB (decide (shr x))) := by
  refine PureC.of_body (drawD_ok X) (fun _ _ => Go.Proofs.Try.call47 _ _) Go.Proofs.Try.func47 rfl (n := 9) rfl ?_
  refine w_seq ?_
  refine w_reg rfl ?_
  refine v_assign (c := .v (.bool false)) rfl ?_
  refine v_nil ?_
  refine q_n ?_
  refine w_seq ?_
  refine w_reg rfl ?_
  refine v_move rfl ?_
  refine v_callb (cAmI _ (by assumption)) rfl rfl (.cons vw_f .nil) (fun h1 => ?_) (fun h1 => ?_)
  rotate_left
  · refine v_move rfl ?_
    refine v_guard_off rfl rfl rfl ?_
    refine v_guard_off rfl rfl rfl ?_
    refine v_pick_f (v := .v (.bool false)) rfl rfl ?_
    refine v_assign rfl ?_
    refine v_nil ?_
    refine q_n ?_
    refine w_ret ?_
    refine r_r rfl ?_
    exact a_b (by unfold shr; simp_all)
  refine v_move rfl ?_
  refine v_guard_on rfl rfl ?_
  refine v_move rfl ?_
  refine v_guard_on rfl rfl ?_
  refine v_binb lay22 rfl rfl rfl (fun h2 => ?_) (fun h2 => ?_)
  · replace h2 : fle x 1065353216 := h2
    refine v_pick_t rfl rfl ?_
    refine v_assign rfl ?_
    refine v_nil ?_
    refine q_n ?_
    refine w_ret ?_
    refine r_r rfl ?_
    exact a_b (by unfold shr; simp_all)
  replace h2 : ¬ fle x 1065353216 := fun h => absurd (h2.symm.trans h) (by decide)
  refine v_pick_t rfl rfl ?_
  refine v_assign rfl ?_
  refine v_nil ?_
  refine q_n ?_
  refine w_ret ?_
  refine r_r rfl ?_
  exact a_b (by unfold shr; simp_all)
theorem cRdS (r : Rd) (hr : rW r) : PureC X 30 [.c (.vw false (rdc r) 0)] (cB (decide (roadOk r))) := by
  refine PureC.of_body (drawD_ok X) (fun _ _ => Go.Proofs.Try.call30 _ _) Go.Proofs.Try.func30 rfl (n := 56) rfl ?_
  refine w_seq ?_
  refine w_reg rfl ?_
  refine v_assign (c := .v (.bool false)) rfl ?_
  refine v_nil ?_
  refine q_n ?_
  refine w_seq ?_
  refine w_seq ?_
  refine w_reg rfl ?_
  refine v_assign (c := .v (.int .i64 0)) rfl ?_
  refine v_nil ?_
  refine q_n ?_
  refine w_block ?_
  refine w_loop (fun k sl H => ∃ i : Nat, k = 16 - i ∧ i ≤ 16 ∧ (∀ j (hj : j < 16), j < i → shr (r.1 ⟨j, hj⟩)) ∧ sl = sls [(0, .c (.vw false (rdc r) 0)), (3, cI i)] ∧ H = []) ?_ ?_
  · refine ⟨_, _, _, ?_, 0, rfl, Nat.zero_le _, fun j hj h => by omega, rfl, rfl⟩
    exact turn0 ⟨tr_vw, tr_v, trivial⟩
  rintro k sl H ⟨i, rfl, hi, hp, rfl, rfl⟩
  refine w_seq ?_
  refine w_seq ?_
  refine w_reg rfl ?_
  refine v_move rfl ?_
  refine v_lss lay3 rfl rfl (fun h1 => ?_) (fun h1 => ?_)
  · have hi1 : i < 16 := by omega
    refine v_nil ?_
    refine q_n ?_
    refine w_t rfl ?_
    refine w_skip ?_
    refine q_n ?_
    refine w_seq ?_
    refine w_block ?_
    refine w_seq ?_
    refine w_reg rfl ?_
    refine v_move rfl ?_
    refine v_move rfl ?_
    refine v_nil_vw rfl ?_
    refine v_fa_vw (off' := 0) lay41 rfl rfl rfl ?_
    refine v_idx_av_e (k := 1) (i) lay39 lay22 rfl rfl rfl (rfl) (hi1) ?_
    refine v_load_vw_e (.c (.f .f32 (r.1 ⟨i, hi1⟩))) lay22 rfl (by show 0 + i * 1 + 1 ≤ 19; omega) (rd_ld7 r hi1) ?_
    refine v_callb (cShS _) rfl rfl (.cons vw_f .nil) (fun h2 => ?_) (fun h2 => ?_)
    rotate_left
    · have hsh := h2
      refine v_not true rfl rfl ?_
      refine v_nil ?_
      refine q_n ?_
      refine w_t rfl ?_
      refine w_seq ?_
      refine w_reg rfl ?_
      refine v_assign (c := .v (.bool false)) rfl ?_
      refine v_nil ?_
      refine q_n ?_
      refine w_ret (q_br (q_r (q_r (q_br (q_r ?_)))))
      refine r_r rfl ?_
      exact a_b (by simp only [Bool.false_eq_true, false_iff]; exact road_i hsh)
    have hsh := h2
    refine v_not false rfl rfl ?_
    refine v_nil ?_
    refine q_n ?_
    refine w_f rfl ?_
    refine w_skip ?_
    refine q_bn ?_
    refine q_n ?_
    refine w_reg rfl ?_
    refine v_move rfl ?_
    refine v_add lay3 rfl rfl (i64r (by omega)) ?_
    refine v_assign rfl ?_
    refine v_nil ?_
    refine q_n ?_
    refine ⟨_, _, _, ?_, ⟨i + 1, rfl, by omega, fun j hj h => ?_, rfl, rfl⟩, by omega⟩
    · exact turn0 ⟨tr_vw, tr_v, trivial⟩
    · rcases Nat.lt_or_eq_of_le (Nat.le_of_lt_succ h) with h | rfl
      · exact hp j hj h
      · exact hsh
  have hall : ∀ i : Fin 16, shr (r.1 i) := fun i => hp i.val i.isLt (by omega)
  refine v_nil ?_
  refine q_n ?_
  refine w_f rfl ?_
  refine w_exit ?_
  refine q_e ?_
  refine q_e ?_
  refine q_hit ?_
  refine q_n ?_
  refine w_seq ?_
  refine w_reg rfl ?_
  refine v_move rfl ?_
  refine v_nil_vw rfl ?_
  refine v_fa_vw (off' := 16) lay41 rfl rfl rfl ?_
  refine v_load_vw (.c (.f _ _)) lay22 rfl rfl rfl ?_
  refine v_callb (cShS _) rfl rfl (.cons vw_f .nil) (fun h3 => ?_) (fun h3 => ?_)
  rotate_left
  · refine v_move rfl ?_
    refine v_guard_off rfl rfl rfl ?_
    refine v_guard_off rfl rfl rfl ?_
    refine v_guard_off rfl rfl rfl ?_
    refine v_guard_off rfl rfl rfl ?_
    refine v_guard_off rfl rfl rfl ?_
    refine v_pick_f (v := .v (.bool false)) rfl rfl ?_
    refine v_move rfl ?_
    refine v_guard_off rfl rfl rfl ?_
    refine v_guard_off rfl rfl rfl ?_
    refine v_guard_off rfl rfl rfl ?_
    refine v_guard_off rfl rfl rfl ?_
    refine v_guard_off rfl rfl rfl ?_
    refine v_pick_f (v := .v (.bool false)) rfl rfl ?_
    refine v_move rfl ?_
    refine v_guard_off rfl rfl rfl ?_
    refine v_guard_off rfl rfl rfl ?_
    refine v_guard_off rfl rfl rfl ?_
    refine v_guard_off rfl rfl rfl ?_
    refine v_guard_off rfl rfl rfl ?_
    refine v_pick_f (v := .v (.bool false)) rfl rfl ?_
    refine v_move rfl ?_
    refine v_guard_off rfl rfl rfl ?_
    refine v_guard_off rfl rfl rfl ?_
    refine v_guard_off rfl rfl rfl ?_
    refine v_guard_off rfl rfl rfl ?_
    refine v_guard_off rfl rfl rfl ?_
    refine v_pick_f (v := .v (.bool false)) rfl rfl ?_
    refine v_move rfl ?_
    refine v_guard_off rfl rfl rfl ?_
    refine v_guard_off rfl rfl rfl ?_
    refine v_guard_off rfl rfl rfl ?_
    refine v_guard_off rfl rfl rfl ?_
    refine v_guard_off rfl rfl rfl ?_
    refine v_pick_f (v := .v (.bool false)) rfl rfl ?_
    refine v_assign rfl ?_
    refine v_nil ?_
    refine q_n ?_
    refine w_ret ?_
    refine r_r rfl ?_
    exact a_b (by unfold roadOk; simp_all)
  refine v_move rfl ?_
  refine v_guard_on rfl rfl ?_
  refine v_move rfl ?_
  refine v_guard_on rfl rfl ?_
  refine v_nil_vw rfl ?_
  refine v_guard_on rfl rfl ?_
  refine v_fa_vw (off' := 17) lay41 rfl rfl rfl ?_
  refine v_guard_on rfl rfl ?_
  refine v_load_vw (.c (.f _ _)) lay22 rfl rfl rfl ?_
  refine v_guard_on rfl rfl ?_
  refine v_callb (cShS _) rfl rfl (.cons vw_f .nil) (fun h4 => ?_) (fun h4 => ?_)
  rotate_left
  · refine v_pick_t rfl rfl ?_
    refine v_move rfl ?_
    refine v_guard_off rfl rfl rfl ?_
    refine v_guard_off rfl rfl rfl ?_
    refine v_guard_off rfl rfl rfl ?_
    refine v_guard_off rfl rfl rfl ?_
    refine v_guard_off rfl rfl rfl ?_
    refine v_pick_f (v := .v (.bool false)) rfl rfl ?_
    refine v_move rfl ?_
    refine v_guard_off rfl rfl rfl ?_
    refine v_guard_off rfl rfl rfl ?_
    refine v_guard_off rfl rfl rfl ?_
    refine v_guard_off rfl rfl rfl ?_
    refine v_guard_off rfl rfl rfl ?_
    refine v_pick_f (v := .v (.bool false)) rfl rfl ?_
    refine v_move rfl ?_
    refine v_guard_off rfl rfl rfl ?_
    refine v_guard_off rfl rfl rfl ?_
    refine v_guard_off rfl rfl rfl ?_
    refine v_guard_off rfl rfl rfl ?_
    refine v_guard_off rfl rfl rfl ?_
    refine v_pick_f (v := .v (.bool false)) rfl rfl ?_
    refine v_move rfl ?_
    refine v_guard_off rfl rfl rfl ?_
    refine v_guard_off rfl rfl rfl ?_
    refine v_guard_off rfl rfl rfl ?_
    refine v_guard_off rfl rfl rfl ?_
    refine v_guard_off rfl rfl rfl ?_
    refine v_pick_f (v := .v (.bool false)) rfl rfl ?_
    refine v_assign rfl ?_
    refine v_nil ?_
    refine q_n ?_
    refine w_ret ?_
    refine r_r rfl ?_
    exact a_b (by unfold roadOk; simp_all)
  refine v_pick_t rfl rfl ?_
  refine v_move rfl ?_
  refine v_guard_on rfl rfl ?_
  refine v_move rfl ?_
  refine v_guard_on rfl rfl ?_
  refine v_nil_vw rfl ?_
  refine v_guard_on rfl rfl ?_
  refine v_fa_vw (off' := 16) lay41 rfl rfl rfl ?_
  refine v_guard_on rfl rfl ?_
  refine v_load_vw (.c (.f _ _)) lay22 rfl rfl rfl ?_
  refine v_guard_on rfl rfl ?_
  refine v_binb lay22 rfl rfl rfl (fun h5 => ?_) (fun h5 => ?_)
  rotate_left
  · replace h5 : ¬ fge r.2.1 1015021568 := fun h => absurd (h5.symm.trans h) (by decide)
    refine v_pick_t rfl rfl ?_
    refine v_move rfl ?_
    refine v_guard_off rfl rfl rfl ?_
    refine v_guard_off rfl rfl rfl ?_
    refine v_guard_off rfl rfl rfl ?_
    refine v_guard_off rfl rfl rfl ?_
    refine v_guard_off rfl rfl rfl ?_
    refine v_pick_f (v := .v (.bool false)) rfl rfl ?_
    refine v_move rfl ?_
    refine v_guard_off rfl rfl rfl ?_
    refine v_guard_off rfl rfl rfl ?_
    refine v_guard_off rfl rfl rfl ?_
    refine v_guard_off rfl rfl rfl ?_
    refine v_guard_off rfl rfl rfl ?_
    refine v_pick_f (v := .v (.bool false)) rfl rfl ?_
    refine v_move rfl ?_
    refine v_guard_off rfl rfl rfl ?_
    refine v_guard_off rfl rfl rfl ?_
    refine v_guard_off rfl rfl rfl ?_
    refine v_guard_off rfl rfl rfl ?_
    refine v_guard_off rfl rfl rfl ?_
    refine v_pick_f (v := .v (.bool false)) rfl rfl ?_
    refine v_assign rfl ?_
    refine v_nil ?_
    refine q_n ?_
    refine w_ret ?_
    refine r_r rfl ?_
    exact a_b (by unfold roadOk; simp_all)
  replace h5 : fge r.2.1 1015021568 := h5
  refine v_pick_t rfl rfl ?_
  refine v_move rfl ?_
  refine v_guard_on rfl rfl ?_
  refine v_move rfl ?_
  refine v_guard_on rfl rfl ?_
  refine v_nil_vw rfl ?_
  refine v_guard_on rfl rfl ?_
  refine v_fa_vw (off' := 17) lay41 rfl rfl rfl ?_
  refine v_guard_on rfl rfl ?_
  refine v_load_vw (.c (.f _ _)) lay22 rfl rfl rfl ?_
  refine v_guard_on rfl rfl ?_
  refine v_binb lay22 rfl rfl rfl (fun h6 => ?_) (fun h6 => ?_)
  rotate_left
  · replace h6 : ¬ fge r.2.2.1 1015021568 := fun h => absurd (h6.symm.trans h) (by decide)
    refine v_pick_t rfl rfl ?_
    refine v_move rfl ?_
    refine v_guard_off rfl rfl rfl ?_
    refine v_guard_off rfl rfl rfl ?_
    refine v_guard_off rfl rfl rfl ?_
    refine v_guard_off rfl rfl rfl ?_
    refine v_guard_off rfl rfl rfl ?_
    refine v_pick_f (v := .v (.bool false)) rfl rfl ?_
    refine v_move rfl ?_
    refine v_guard_off rfl rfl rfl ?_
    refine v_guard_off rfl rfl rfl ?_
    refine v_guard_off rfl rfl rfl ?_
    refine v_guard_off rfl rfl rfl ?_
    refine v_guard_off rfl rfl rfl ?_
    refine v_pick_f (v := .v (.bool false)) rfl rfl ?_
    refine v_assign rfl ?_
    refine v_nil ?_
    refine q_n ?_
    refine w_ret ?_
    refine r_r rfl ?_
    exact a_b (by unfold roadOk; simp_all)
  replace h6 : fge r.2.2.1 1015021568 := h6
  refine v_pick_t rfl rfl ?_
  refine v_move rfl ?_
  refine v_guard_on rfl rfl ?_
  refine v_move rfl ?_
  refine v_guard_on rfl rfl ?_
  refine v_nil_vw rfl ?_
  refine v_guard_on rfl rfl ?_
  refine v_fa_vw (off' := 18) lay41 rfl rfl rfl ?_
  refine v_guard_on rfl rfl ?_
  refine v_load_vw (.c (.f _ _)) lay22 rfl rfl rfl ?_
  refine v_guard_on rfl rfl ?_
  refine v_binb lay22 rfl rfl rfl (fun h7 => ?_) (fun h7 => ?_)
  rotate_left
  · replace h7 : ¬ fge r.2.2.2 1048576000 := fun h => absurd (h7.symm.trans h) (by decide)
    refine v_pick_t rfl rfl ?_
    refine v_move rfl ?_
    refine v_guard_off rfl rfl rfl ?_
    refine v_guard_off rfl rfl rfl ?_
    refine v_guard_off rfl rfl rfl ?_
    refine v_guard_off rfl rfl rfl ?_
    refine v_guard_off rfl rfl rfl ?_
    refine v_pick_f (v := .v (.bool false)) rfl rfl ?_
    refine v_assign rfl ?_
    refine v_nil ?_
    refine q_n ?_
    refine w_ret ?_
    refine r_r rfl ?_
    exact a_b (by unfold roadOk; simp_all)
  replace h7 : fge r.2.2.2 1048576000 := h7
  refine v_pick_t rfl rfl ?_
  refine v_move rfl ?_
  refine v_guard_on rfl rfl ?_
  refine v_move rfl ?_
  refine v_guard_on rfl rfl ?_
  refine v_nil_vw rfl ?_
  refine v_guard_on rfl rfl ?_
  refine v_fa_vw (off' := 18) lay41 rfl rfl rfl ?_
  refine v_guard_on rfl rfl ?_
  refine v_load_vw (.c (.f _ _)) lay22 rfl rfl rfl ?_
  refine v_guard_on rfl rfl ?_
  refine v_binb lay22 rfl rfl rfl (fun h8 => ?_) (fun h8 => ?_)
  · replace h8 : fle r.2.2.2 1090519040 := h8
    refine v_pick_t rfl rfl ?_
    refine v_assign rfl ?_
    refine v_nil ?_
    refine q_n ?_
    refine w_ret ?_
    refine r_r rfl ?_
    exact a_b (by unfold roadOk; simp_all)
  replace h8 : ¬ fle r.2.2.2 1090519040 := fun h => absurd (h8.symm.trans h) (by decide)
  refine v_pick_t rfl rfl ?_
  refine v_assign rfl ?_
  refine v_nil ?_
  refine q_n ?_
  refine w_ret ?_
  refine r_r rfl ?_
  exact a_b (by unfold roadOk; simp_all)
theorem cRdI (r : Rd) (hr : rW r) : PureC X 33 [.agg (rdc r)] (cB (decide (roadOk r))) := by
  refine PureC.of_body (drawD_ok X) (fun _ _ => Go.Proofs.Try.call33 _ _) Go.Proofs.Try.func33 rfl (n := 47) rfl ?_
  refine w_seq ?_
  refine w_reg rfl ?_
  refine v_box (m := 0) (H' := [_]) lay41 rfl rfl rfl ?_
  refine v_assign (c := .v (.bool false)) rfl ?_
  refine v_nil ?_
  refine q_n ?_
  refine w_seq ?_
  refine w_seq ?_
  refine w_reg rfl ?_
  refine v_fa_pt (off' := 0) lay41 rfl rfl rfl ?_
  refine v_load_pt (.agg [_, _, _, _, _, _, _, _, _, _, _, _, _, _, _, _]) lay39 rfl rfl rfl rfl ?_
  refine v_move (c := .v (.int .i64 0)) rfl ?_
  refine v_nil ?_
  refine q_n ?_
  refine w_block ?_
  refine w_loop (fun k sl H => ∃ i : Nat, k = 16 - i ∧ i ≤ 16 ∧ (∀ j (hj : j < 16), j < i → shr (r.1 ⟨j, hj⟩)) ∧ sl = sls [(1, .c (.pt 0 0)), (6, .agg (cac r.1)), (7, cI i)] ∧ H = [⟨rdc r, 41, true⟩]) ?_ ?_
  · refine ⟨_, _, _, ?_, 0, rfl, Nat.zero_le _, fun j hj h => by omega, rfl, rfl⟩
    exact turn [some 0] rfl rfl rfl ⟨⟨_, rfl, .stay (fun c hc => stays_fz (fz_sc (List.all_eq_true.1 (rdc_sc r) c hc)))⟩, trivial⟩ ⟨tr_pt rfl, tr_agg (.cons tr_f (.cons tr_f (.cons tr_f (.cons tr_f (.cons tr_f (.cons tr_f (.cons tr_f (.cons tr_f (.cons tr_f (.cons tr_f (.cons tr_f (.cons tr_f (.cons tr_f (.cons tr_f (.cons tr_f (.cons tr_f .nil)))))))))))))))), tr_v, trivial⟩
  rintro k sl H ⟨i, rfl, hi, hp, rfl, rfl⟩
  refine w_seq ?_
  refine w_reg rfl ?_
  refine v_lss lay3 rfl rfl (fun h1 => ?_) (fun h1 => ?_)
  · have hi1 : i < 16 := by omega
    refine v_nil ?_
    refine q_n ?_
    refine w_seq ?_
    refine w_t rfl ?_
    refine w_skip ?_
    refine q_n ?_
    refine w_seq ?_
    refine w_block ?_
    refine w_seq ?_
    refine w_reg rfl ?_
    refine v_index_e i (.c (.f .f32 (r.1 ⟨i, hi1⟩))) lay39 lay22 rfl rfl rfl hi1 (by show i * 1 + 1 ≤ 16; omega) (road_x r i hi1) ?_
    refine v_assign rfl ?_
    refine v_nil ?_
    refine q_n ?_
    refine w_seq ?_
    refine w_reg rfl ?_
    refine v_move rfl ?_
    refine v_callb (cShI _ (hr.1 i hi1)) rfl rfl (.cons vw_f .nil) (fun h2 => ?_) (fun h2 => ?_)
    rotate_left
    · have hsh := h2
      refine v_not true rfl rfl ?_
      refine v_nil ?_
      refine q_n ?_
      refine w_t rfl ?_
      refine w_seq ?_
      refine w_reg rfl ?_
      refine v_assign (c := .v (.bool false)) rfl ?_
      refine v_nil ?_
      refine q_n ?_
      refine w_ret (q_br (q_r (q_r (q_br (q_r ?_)))))
      refine r_r rfl ?_
      exact a_b (by simp only [Bool.false_eq_true, false_iff]; exact road_i hsh)
    have hsh := h2
    refine v_not false rfl rfl ?_
    refine v_nil ?_
    refine q_n ?_
    refine w_f rfl ?_
    refine w_skip ?_
    refine q_bn ?_
    refine q_n ?_
    refine w_reg rfl ?_
    refine v_add lay3 rfl rfl (i64r (by omega)) ?_
    refine v_move rfl ?_
    refine v_nil ?_
    refine q_n ?_
    refine ⟨_, _, _, ?_, ⟨i + 1, rfl, by omega, fun j hj h => ?_, rfl, rfl⟩, by omega⟩
    · exact turn [some 0] rfl rfl rfl ⟨⟨_, rfl, .stay (fun c hc => stays_fz (fz_sc (List.all_eq_true.1 (rdc_sc r) c hc)))⟩, trivial⟩ ⟨tr_pt rfl, tr_agg (.cons tr_f (.cons tr_f (.cons tr_f (.cons tr_f (.cons tr_f (.cons tr_f (.cons tr_f (.cons tr_f (.cons tr_f (.cons tr_f (.cons tr_f (.cons tr_f (.cons tr_f (.cons tr_f (.cons tr_f (.cons tr_f .nil)))))))))))))))), tr_v, trivial⟩
    · rcases Nat.lt_or_eq_of_le (Nat.le_of_lt_succ h) with h | rfl
      · exact hp j hj h
      · exact hsh
  have hall : ∀ i : Fin 16, shr (r.1 i) := fun i => hp i.val i.isLt (by omega)
  refine v_nil ?_
  refine q_n ?_
  refine w_seq ?_
  refine w_f rfl ?_
  refine w_exit ?_
  refine q_e ?_
  refine q_e ?_
  refine q_hit ?_
  refine q_n ?_
  refine w_seq ?_
  refine w_reg rfl ?_
  refine v_fa_pt (off' := 16) lay41 rfl rfl rfl ?_
  refine v_load_pt (.c _) lay22 rfl rfl rfl rfl ?_
  refine v_callb (cShI _ hr.2.1) rfl rfl (.cons vw_f .nil) (fun h3 => ?_) (fun h3 => ?_)
  rotate_left
  · refine v_move rfl ?_
    refine v_guard_off rfl rfl rfl ?_
    refine v_guard_off rfl rfl rfl ?_
    refine v_guard_off rfl rfl rfl ?_
    refine v_pick_f (v := .v (.bool false)) rfl rfl ?_
    refine v_move rfl ?_
    refine v_guard_off rfl rfl rfl ?_
    refine v_guard_off rfl rfl rfl ?_
    refine v_guard_off rfl rfl rfl ?_
    refine v_pick_f (v := .v (.bool false)) rfl rfl ?_
    refine v_move rfl ?_
    refine v_guard_off rfl rfl rfl ?_
    refine v_guard_off rfl rfl rfl ?_
    refine v_guard_off rfl rfl rfl ?_
    refine v_pick_f (v := .v (.bool false)) rfl rfl ?_
    refine v_move rfl ?_
    refine v_guard_off rfl rfl rfl ?_
    refine v_guard_off rfl rfl rfl ?_
    refine v_guard_off rfl rfl rfl ?_
    refine v_pick_f (v := .v (.bool false)) rfl rfl ?_
    refine v_move rfl ?_
    refine v_guard_off rfl rfl rfl ?_
    refine v_guard_off rfl rfl rfl ?_
    refine v_guard_off rfl rfl rfl ?_
    refine v_pick_f (v := .v (.bool false)) rfl rfl ?_
    refine v_move rfl ?_
    refine v_guard_off rfl rfl rfl ?_
    refine v_guard_off rfl rfl rfl ?_
    refine v_guard_off rfl rfl rfl ?_
    refine v_pick_f (v := .v (.bool false)) rfl rfl ?_
    refine v_assign rfl ?_
    refine v_nil ?_
    refine q_n ?_
    refine w_ret ?_
    refine r_r rfl ?_
    exact a_b (by simp only [Bool.false_eq_true, false_iff]; exact fun ho => h3 ho.2.1)
  refine v_move rfl ?_
  refine v_guard_on rfl rfl ?_
  refine v_fa_pt (off' := 17) lay41 rfl rfl rfl ?_
  refine v_guard_on rfl rfl ?_
  refine v_load_pt (.c _) lay22 rfl rfl rfl rfl ?_
  refine v_guard_on rfl rfl ?_
  refine v_callb (cShI _ hr.2.2.1) rfl rfl (.cons vw_f .nil) (fun h4 => ?_) (fun h4 => ?_)
  rotate_left
  · refine v_pick_t rfl rfl ?_
    refine v_move rfl ?_
    refine v_guard_off rfl rfl rfl ?_
    refine v_guard_off rfl rfl rfl ?_
    refine v_guard_off rfl rfl rfl ?_
    refine v_pick_f (v := .v (.bool false)) rfl rfl ?_
    refine v_move rfl ?_
    refine v_guard_off rfl rfl rfl ?_
    refine v_guard_off rfl rfl rfl ?_
    refine v_guard_off rfl rfl rfl ?_
    refine v_pick_f (v := .v (.bool false)) rfl rfl ?_
    refine v_move rfl ?_
    refine v_guard_off rfl rfl rfl ?_
    refine v_guard_off rfl rfl rfl ?_
    refine v_guard_off rfl rfl rfl ?_
    refine v_pick_f (v := .v (.bool false)) rfl rfl ?_
    refine v_move rfl ?_
    refine v_guard_off rfl rfl rfl ?_
    refine v_guard_off rfl rfl rfl ?_
    refine v_guard_off rfl rfl rfl ?_
    refine v_pick_f (v := .v (.bool false)) rfl rfl ?_
    refine v_move rfl ?_
    refine v_guard_off rfl rfl rfl ?_
    refine v_guard_off rfl rfl rfl ?_
    refine v_guard_off rfl rfl rfl ?_
    refine v_pick_f (v := .v (.bool false)) rfl rfl ?_
    refine v_assign rfl ?_
    refine v_nil ?_
    refine q_n ?_
    refine w_ret ?_
    refine r_r rfl ?_
    exact a_b (by simp only [Bool.false_eq_true, false_iff]; exact fun ho => h4 ho.2.2.1)
  refine v_pick_t rfl rfl ?_
  refine v_move rfl ?_
  refine v_guard_on rfl rfl ?_
  refine v_fa_pt (off' := 16) lay41 rfl rfl rfl ?_
  refine v_guard_on rfl rfl ?_
  refine v_load_pt (.c _) lay22 rfl rfl rfl rfl ?_
  refine v_guard_on rfl rfl ?_
  refine v_binb lay22 rfl rfl rfl (fun h5 => ?_) (fun h5 => ?_)
  rotate_left
  · replace h5 : ¬ fge r.2.1 1015021568 := fun h => absurd (h5.symm.trans h) (by decide)
    refine v_pick_t rfl rfl ?_
    refine v_move rfl ?_
    refine v_guard_off rfl rfl rfl ?_
    refine v_guard_off rfl rfl rfl ?_
    refine v_guard_off rfl rfl rfl ?_
    refine v_pick_f (v := .v (.bool false)) rfl rfl ?_
    refine v_move rfl ?_
    refine v_guard_off rfl rfl rfl ?_
    refine v_guard_off rfl rfl rfl ?_
    refine v_guard_off rfl rfl rfl ?_
    refine v_pick_f (v := .v (.bool false)) rfl rfl ?_
    refine v_move rfl ?_
    refine v_guard_off rfl rfl rfl ?_
    refine v_guard_off rfl rfl rfl ?_
    refine v_guard_off rfl rfl rfl ?_
    refine v_pick_f (v := .v (.bool false)) rfl rfl ?_
    refine v_move rfl ?_
    refine v_guard_off rfl rfl rfl ?_
    refine v_guard_off rfl rfl rfl ?_
    refine v_guard_off rfl rfl rfl ?_
    refine v_pick_f (v := .v (.bool false)) rfl rfl ?_
    refine v_assign rfl ?_
    refine v_nil ?_
    refine q_n ?_
    refine w_ret ?_
    refine r_r rfl ?_
    exact a_b (by simp only [Bool.false_eq_true, false_iff]; exact fun ho => h5 ho.2.2.2.1)
  replace h5 : fge r.2.1 1015021568 := h5
  refine v_pick_t rfl rfl ?_
  refine v_move rfl ?_
  refine v_guard_on rfl rfl ?_
  refine v_fa_pt (off' := 17) lay41 rfl rfl rfl ?_
  refine v_guard_on rfl rfl ?_
  refine v_load_pt (.c _) lay22 rfl rfl rfl rfl ?_
  refine v_guard_on rfl rfl ?_
  refine v_binb lay22 rfl rfl rfl (fun h6 => ?_) (fun h6 => ?_)
  rotate_left
  · replace h6 : ¬ fge r.2.2.1 1015021568 := fun h => absurd (h6.symm.trans h) (by decide)
    refine v_pick_t rfl rfl ?_
    refine v_move rfl ?_
    refine v_guard_off rfl rfl rfl ?_
    refine v_guard_off rfl rfl rfl ?_
    refine v_guard_off rfl rfl rfl ?_
    refine v_pick_f (v := .v (.bool false)) rfl rfl ?_
    refine v_move rfl ?_
    refine v_guard_off rfl rfl rfl ?_
    refine v_guard_off rfl rfl rfl ?_
    refine v_guard_off rfl rfl rfl ?_
    refine v_pick_f (v := .v (.bool false)) rfl rfl ?_
    refine v_move rfl ?_
    refine v_guard_off rfl rfl rfl ?_
    refine v_guard_off rfl rfl rfl ?_
    refine v_guard_off rfl rfl rfl ?_
    refine v_pick_f (v := .v (.bool false)) rfl rfl ?_
    refine v_assign rfl ?_
    refine v_nil ?_
    refine q_n ?_
    refine w_ret ?_
    refine r_r rfl ?_
    exact a_b (by simp only [Bool.false_eq_true, false_iff]; exact fun ho => h6 ho.2.2.2.2.1)
  replace h6 : fge r.2.2.1 1015021568 := h6
  refine v_pick_t rfl rfl ?_
  refine v_move rfl ?_
  refine v_guard_on rfl rfl ?_
  refine v_fa_pt (off' := 18) lay41 rfl rfl rfl ?_
  refine v_guard_on rfl rfl ?_
  refine v_load_pt (.c _) lay22 rfl rfl rfl rfl ?_
  refine v_guard_on rfl rfl ?_
  refine v_callb (cAmI _ hr.2.2.2) rfl rfl (.cons vw_f .nil) (fun h7 => ?_) (fun h7 => ?_)
  rotate_left
  · refine v_pick_t rfl rfl ?_
    refine v_move rfl ?_
    refine v_guard_off rfl rfl rfl ?_
    refine v_guard_off rfl rfl rfl ?_
    refine v_guard_off rfl rfl rfl ?_
    refine v_pick_f (v := .v (.bool false)) rfl rfl ?_
    refine v_move rfl ?_
    refine v_guard_off rfl rfl rfl ?_
    refine v_guard_off rfl rfl rfl ?_
    refine v_guard_off rfl rfl rfl ?_
    refine v_pick_f (v := .v (.bool false)) rfl rfl ?_
    refine v_assign rfl ?_
    refine v_nil ?_
    refine q_n ?_
    refine w_ret ?_
    refine r_r rfl ?_
    exact a_b (by simp only [Bool.false_eq_true, false_iff]; exact fun ho => h7 (amt_of hr.2.2.2 ho.2.2.2.2.2.1 ho.2.2.2.2.2.2))
  refine v_pick_t rfl rfl ?_
  refine v_move rfl ?_
  refine v_guard_on rfl rfl ?_
  refine v_fa_pt (off' := 18) lay41 rfl rfl rfl ?_
  refine v_guard_on rfl rfl ?_
  refine v_load_pt (.c _) lay22 rfl rfl rfl rfl ?_
  refine v_guard_on rfl rfl ?_
  refine v_binb lay22 rfl rfl rfl (fun h8 => ?_) (fun h8 => ?_)
  rotate_left
  · replace h8 : ¬ fge r.2.2.2 1048576000 := fun h => absurd (h8.symm.trans h) (by decide)
    refine v_pick_t rfl rfl ?_
    refine v_move rfl ?_
    refine v_guard_off rfl rfl rfl ?_
    refine v_guard_off rfl rfl rfl ?_
    refine v_guard_off rfl rfl rfl ?_
    refine v_pick_f (v := .v (.bool false)) rfl rfl ?_
    refine v_assign rfl ?_
    refine v_nil ?_
    refine q_n ?_
    refine w_ret ?_
    refine r_r rfl ?_
    exact a_b (by simp only [Bool.false_eq_true, false_iff]; exact fun ho => h8 ho.2.2.2.2.2.1)
  replace h8 : fge r.2.2.2 1048576000 := h8
  refine v_pick_t rfl rfl ?_
  refine v_move rfl ?_
  refine v_guard_on rfl rfl ?_
  refine v_fa_pt (off' := 18) lay41 rfl rfl rfl ?_
  refine v_guard_on rfl rfl ?_
  refine v_load_pt (.c _) lay22 rfl rfl rfl rfl ?_
  refine v_guard_on rfl rfl ?_
  refine v_binb lay22 rfl rfl rfl (fun h9 => ?_) (fun h9 => ?_)
  · replace h9 : fle r.2.2.2 1090519040 := h9
    refine v_pick_t rfl rfl ?_
    refine v_assign rfl ?_
    refine v_nil ?_
    refine q_n ?_
    refine w_ret ?_
    refine r_r rfl ?_
    exact a_b (by simp only [true_iff]; exact ⟨hall, h3, h4, h5, h6, h8, h9⟩)
  replace h9 : ¬ fle r.2.2.2 1090519040 := fun h => absurd (h9.symm.trans h) (by decide)
  refine v_pick_t rfl rfl ?_
  refine v_assign rfl ?_
  refine v_nil ?_
  refine q_n ?_
  refine w_ret ?_
  refine r_r rfl ?_
  exact a_b (by simp only [Bool.false_eq_true, false_iff]; exact fun ho => h9 ho.2.2.2.2.2.2)
end Go.VL
namespace Go.VL
open Go.RowKit
set_option maxRecDepth 20000
set_option maxHeartbeats 8000000
abbrev feq (x : Option Nat) : Prop := (ford .f32 x (fOf .f32 0) == some .eq) = true
/-- The sum of the first ones of a row. -/
def psm (g : Fo) : Nat → Option Nat
  | 0 => some 0
  | 1 => g 0
  | n + 2 => fop .add .f32 (psm g (n + 1)) (if h : n + 1 < 4 then g ⟨n + 1, h⟩ else none)
theorem psm_1 (g : Fo) {n : Nat} (h : n < 4) (h0 : (n : Int) = 0) : g ⟨n, h⟩ = psm g (n + 1) := by
  obtain rfl : n = 0 := by omega
  rfl
theorem psm_s (g : Fo) {n : Nat} (h : n < 4) (h0 : ¬ (n : Int) = 0) : fop .add .f32 (psm g n) (g ⟨n, h⟩) = psm g (n + 1) := by
  obtain ⟨m, rfl⟩ : ∃ m, n = m + 1 := ⟨n - 1, by omega⟩
  rw [psm, dif_pos h]
def cellOk (j : Jn) (i k : Nat) (x : Option Nat) : Prop := shr x ∧ ((j.1 ≤ i ∨ j.2.1 ≤ k) → feq x)
def prior (x : Option Nat) : Prop := amtB x = true ∧ fge x 1015021568 ∧ fle x 1115684864
def nil0 (x : Option Nat) : Prop := amtB x = true ∧ feq x
instance (x : Option Nat) : Decidable (prior x) := by unfold prior; infer_instance
instance (x : Option Nat) : Decidable (nil0 x) := by unfold nil0; infer_instance
instance (j : Jn) (i k : Nat) (x : Option Nat) : Decidable (cellOk j i k x) := by unfold cellOk; infer_instance
def rowOk (j : Jn) (i : Fin 4) : Prop := (∀ k : Fin 4, cellOk j i.val k.val (j.2.2.1 i k)) ∧ (if j.1 ≤ (i.val : Int) then nil0 (j.2.2.2 i) else (fge (psm (j.2.2.1 i) 4) 1065336439 ∧ fle (psm (j.2.2.1 i) 4) 1065361605) ∧ prior (j.2.2.2 i))
instance (j : Jn) (i : Fin 4) : Decidable (rowOk j i) := by unfold rowOk; infer_instance
/-- A junction that is valid. -/
def jnOk (j : Jn) : Prop := (1 ≤ j.1 ∧ j.1 ≤ 4) ∧ (1 ≤ j.2.1 ∧ j.2.1 ≤ 4) ∧ ∀ i : Fin 4, rowOk j i
instance (j : Jn) : Decidable (jnOk j) := by unfold jnOk; infer_instance
theorem jn_cell {j : Jn} {i n : Nat} {hi : i < 4} {hn : n < 4} (h : ¬ cellOk j i n (j.2.2.1 ⟨i, hi⟩ ⟨n, hn⟩)) : ¬ jnOk j := fun ho => h ((ho.2.2 ⟨i, hi⟩).1 ⟨n, hn⟩)
theorem jn_nil {j : Jn} {i : Nat} {hi : i < 4} (h0 : j.1 ≤ (i : Int)) (h : ¬ nil0 (j.2.2.2 ⟨i, hi⟩)) : ¬ jnOk j := fun ho => by
  have := (ho.2.2 ⟨i, hi⟩).2
  rw [if_pos h0] at this
  exact h this
theorem jn_in {j : Jn} {i : Nat} {hi : i < 4} (h0 : ¬ j.1 ≤ (i : Int)) (h : ¬ ((fge (psm (j.2.2.1 ⟨i, hi⟩) 4) 1065336439 ∧ fle (psm (j.2.2.1 ⟨i, hi⟩) 4) 1065361605) ∧ prior (j.2.2.2 ⟨i, hi⟩))) : ¬ jnOk j := fun ho => by
  have := (ho.2.2 ⟨i, hi⟩).2
  rw [if_neg h0] at this
  exact h this
theorem jt_ld8 (j : Jn) (ra : List C) {i k : Nat} (h : i < 4) (hk : k < 4) : mkV false (reowns false (sub (jnc j ++ ra) (2 + i * 4 + k * 1) 1)) = some (.c (.f .f32 (j.2.2.1 ⟨i, h⟩ ⟨k, hk⟩))) := by
  match i, h, k, hk with
  | 0, _, 0, _ => rfl
  | 0, _, 1, _ => rfl
  | 0, _, 2, _ => rfl
  | 0, _, 3, _ => rfl
  | 1, _, 0, _ => rfl
  | 1, _, 1, _ => rfl
  | 1, _, 2, _ => rfl
  | 1, _, 3, _ => rfl
  | 2, _, 0, _ => rfl
  | 2, _, 1, _ => rfl
  | 2, _, 2, _ => rfl
  | 2, _, 3, _ => rfl
  | 3, _, 0, _ => rfl
  | 3, _, 1, _ => rfl
  | 3, _, 2, _ => rfl
  | 3, _, 3, _ => rfl
theorem jp_ld8 (j : Jn) (ra : List C) {i : Nat} (h : i < 4) : mkV false (reowns false (sub (jnc j ++ ra) (18 + i * 1) 1)) = some (.c (.f .f32 (j.2.2.2 ⟨i, h⟩))) := by
  match i, h with
  | 0, _ => rfl
  | 1, _ => rfl
  | 2, _ => rfl
  | 3, _ => rfl
theorem jn_len8 (j : Jn) (ra : List C) : (jnc j ++ ra).length = 22 + ra.length := by simp; omega
theorem ne_t {o : Option Ordering} (h : (o != some .eq) = true) : ¬ (o == some .eq) = true := by
  intro h2
  simp [bne, h2] at h
theorem ne_f {o : Option Ordering} (h : (o != some .eq) = false) : (o == some .eq) = true := by
  simpa [bne] using h
theorem row_nil {j : Jn} {i : Nat} {hi : i < 4} (hrow : ∀ b : Fin 4, cellOk j i b.val (j.2.2.1 ⟨i, hi⟩ b)) (h0 : j.1 ≤ (i : Int)) (hn : nil0 (j.2.2.2 ⟨i, hi⟩)) : rowOk j ⟨i, hi⟩ := ⟨hrow, by
  rw [if_pos (show j.1 ≤ (((⟨i, hi⟩ : Fin 4).val : Nat) : Int) from h0)]
  exact hn⟩
theorem row_in {j : Jn} {i : Nat} {hi : i < 4} (hrow : ∀ b : Fin 4, cellOk j i b.val (j.2.2.1 ⟨i, hi⟩ b)) (h0 : ¬ j.1 ≤ (i : Int)) (hn : fge (psm (j.2.2.1 ⟨i, hi⟩) 4) 1065336439 ∧ fle (psm (j.2.2.1 ⟨i, hi⟩) 4) 1065361605) (hp : prior (j.2.2.2 ⟨i, hi⟩)) : rowOk j ⟨i, hi⟩ := ⟨hrow, by
  rw [if_neg (show ¬ j.1 ≤ (((⟨i, hi⟩ : Fin 4).val : Nat) : Int) from h0)]
  exact ⟨hn, hp⟩⟩
theorem cArS (n : Int) : PureC X 53 [cI n] (cB (decide (1 ≤ n ∧ n ≤ 4))) := by
  refine PureC.of_body (drawD_ok X) (fun _ _ => Go.Proofs.Try.call53 _ _) Go.Proofs.Try.func53 rfl (n := 5) rfl ?_
  refine w_seq ?_
  refine w_reg rfl ?_
  refine v_assign (c := .v (.bool false)) rfl ?_
  refine v_nil ?_
  refine q_n ?_
  refine w_seq ?_
  refine w_reg rfl ?_
  refine v_move rfl ?_
  refine v_callb (cIn _ _ _) rfl rfl (.cons vw_v (.cons vw_v (.cons vw_v .nil))) (fun h1 => ?_) (fun h1 => ?_)
  · refine v_assign rfl ?_
    refine v_nil ?_
    refine q_n ?_
    refine w_ret ?_
    refine r_r rfl ?_
    exact a_b (by simp_all)
  refine v_assign rfl ?_
  refine v_nil ?_
  refine q_n ?_
  refine w_ret ?_
  refine r_r rfl ?_
  exact a_b (by simp_all)
theorem cPrS (x : Option Nat) : PureC X 54 [.c (.f .f32 x)] (cB (decide (prior x))) := by
  refine PureC.of_body (drawD_ok X) (fun _ _ => Go.Proofs.Try.call54 _ _) Go.Proofs.Try.func54 rfl (n := 13) rfl ?_
  refine w_seq ?_
  refine w_reg rfl ?_
  refine v_assign (c := .v (.bool false)) rfl ?_
  refine v_nil ?_
  refine q_n ?_
  refine w_seq ?_
  refine w_reg rfl ?_
  refine v_move rfl ?_
  refine v_callb (cAmS _) rfl rfl (.cons vw_f .nil) (fun h1 => ?_) (fun h1 => ?_)
  rotate_left
  · refine v_move rfl ?_
    refine v_guard_off rfl rfl rfl ?_
    refine v_guard_off rfl rfl rfl ?_
    refine v_pick_f (v := .v (.bool false)) rfl rfl ?_
    refine v_move rfl ?_
    refine v_guard_off rfl rfl rfl ?_
    refine v_guard_off rfl rfl rfl ?_
    refine v_pick_f (v := .v (.bool false)) rfl rfl ?_
    refine v_assign rfl ?_
    refine v_nil ?_
    refine q_n ?_
    refine w_ret ?_
    refine r_r rfl ?_
    exact a_b (by unfold prior; simp_all)
  refine v_move rfl ?_
  refine v_guard_on rfl rfl ?_
  refine v_move rfl ?_
  refine v_guard_on rfl rfl ?_
  refine v_binb lay22 rfl rfl rfl (fun h2 => ?_) (fun h2 => ?_)
  rotate_left
  · replace h2 : ¬ fge x 1015021568 := fun h => absurd (h2.symm.trans h) (by decide)
    refine v_pick_t rfl rfl ?_
    refine v_move rfl ?_
    refine v_guard_off rfl rfl rfl ?_
    refine v_guard_off rfl rfl rfl ?_
    refine v_pick_f (v := .v (.bool false)) rfl rfl ?_
    refine v_assign rfl ?_
    refine v_nil ?_
    refine q_n ?_
    refine w_ret ?_
    refine r_r rfl ?_
    exact a_b (by unfold prior; simp_all)
  replace h2 : fge x 1015021568 := h2
  refine v_pick_t rfl rfl ?_
  refine v_move rfl ?_
  refine v_guard_on rfl rfl ?_
  refine v_move rfl ?_
  refine v_guard_on rfl rfl ?_
  refine v_binb lay22 rfl rfl rfl (fun h3 => ?_) (fun h3 => ?_)
  · replace h3 : fle x 1115684864 := h3
    refine v_pick_t rfl rfl ?_
    refine v_assign rfl ?_
    refine v_nil ?_
    refine q_n ?_
    refine w_ret ?_
    refine r_r rfl ?_
    exact a_b (by unfold prior; simp_all)
  replace h3 : ¬ fle x 1115684864 := fun h => absurd (h3.symm.trans h) (by decide)
  refine v_pick_t rfl rfl ?_
  refine v_assign rfl ?_
  refine v_nil ?_
  refine q_n ?_
  refine w_ret ?_
  refine r_r rfl ?_
  exact a_b (by unfold prior; simp_all)
theorem cJnS (j : Jn) (ra : List C) (hj : jW j) : PureC X 41 [.c (.vw false (jnc j ++ ra) 0)] (cB (decide (jnOk j))) := by
  refine PureC.of_body (drawD_ok X) (fun _ _ => Go.Proofs.Try.call41 _ _) Go.Proofs.Try.func41 rfl (n := 106) rfl ?_
  refine w_seq ?_
  refine w_reg rfl ?_
  refine v_assign (c := .v (.bool false)) rfl ?_
  refine v_nil ?_
  refine q_n ?_
  refine w_seq ?_
  refine w_seq ?_
  refine w_reg rfl ?_
  refine v_move rfl ?_
  refine v_nil_vw rfl ?_
  refine v_fa_vw (off' := 0) lay49 rfl rfl rfl ?_
  refine v_load_vw (.c (.v _)) lay2 rfl rfl rfl ?_
  refine v_callb (cArS _) rfl rfl (.cons vw_v .nil) (fun h1 => ?_) (fun h1 => ?_)
  rotate_left
  · refine v_not true rfl rfl ?_
    refine v_move rfl ?_
    refine v_guard_off rfl rfl rfl ?_
    refine v_guard_off rfl rfl rfl ?_
    refine v_guard_off rfl rfl rfl ?_
    refine v_guard_off rfl rfl rfl ?_
    refine v_guard_off rfl rfl rfl ?_
    refine v_guard_off rfl rfl rfl ?_
    refine v_pick_t (v := .v (.bool true)) rfl rfl ?_
    refine v_nil ?_
    refine q_n ?_
    refine w_t rfl ?_
    refine w_seq ?_
    refine w_reg rfl ?_
    refine v_assign (c := .v (.bool false)) rfl ?_
    refine v_nil ?_
    refine q_n ?_
    refine w_ret (q_r ?_)
    refine r_r rfl ?_
    exact a_b (by simp only [Bool.false_eq_true, false_iff]; exact fun ho => h1 ho.1)
  refine v_not false rfl rfl ?_
  refine v_move rfl ?_
  refine v_guard_on rfl rfl ?_
  refine v_move rfl ?_
  refine v_guard_on rfl rfl ?_
  refine v_nil_vw rfl ?_
  refine v_guard_on rfl rfl ?_
  refine v_fa_vw (off' := 1) lay49 rfl rfl rfl ?_
  refine v_guard_on rfl rfl ?_
  refine v_load_vw (.c (.v _)) lay2 rfl rfl rfl ?_
  refine v_guard_on rfl rfl ?_
  refine v_callb (cArS _) rfl rfl (.cons vw_v .nil) (fun h2 => ?_) (fun h2 => ?_)
  rotate_left
  · refine v_guard_on rfl rfl ?_
    refine v_not true rfl rfl ?_
    refine v_pick_f rfl rfl ?_
    refine v_nil ?_
    refine q_n ?_
    refine w_t rfl ?_
    refine w_seq ?_
    refine w_reg rfl ?_
    refine v_assign (c := .v (.bool false)) rfl ?_
    refine v_nil ?_
    refine q_n ?_
    refine w_ret (q_r ?_)
    refine r_r rfl ?_
    exact a_b (by simp only [Bool.false_eq_true, false_iff]; exact fun ho => h2 ho.2.1)
  refine v_guard_on rfl rfl ?_
  refine v_not false rfl rfl ?_
  refine v_pick_f rfl rfl ?_
  refine v_nil ?_
  refine q_n ?_
  refine w_f rfl ?_
  refine w_skip ?_
  refine q_n ?_
  refine w_seq ?_
  refine w_seq ?_
  refine w_reg rfl ?_
  refine v_assign (c := .v (.int .i64 0)) rfl ?_
  refine v_nil ?_
  refine q_n ?_
  refine w_block ?_
  refine w_loop (fun k sl H => ∃ i : Nat, k = 4 - i ∧ i ≤ 4 ∧ (∀ a (ha : a < 4), a < i → rowOk j ⟨a, ha⟩) ∧ sl = sls [(0, .c (.vw false (jnc j ++ ra) 0)), (3, cI i)] ∧ H = []) ?_ ?_
  · refine ⟨_, _, _, ?_, 0, rfl, Nat.zero_le _, fun a ha h => by omega, rfl, rfl⟩
    exact turn0 ⟨tr_vw, tr_v, trivial⟩
  rintro k sl H ⟨i, rfl, hi, hp, rfl, rfl⟩
  refine w_seq ?_
  refine w_seq ?_
  refine w_reg rfl ?_
  refine v_move rfl ?_
  refine v_lss lay2 rfl rfl (fun h3 => ?_) (fun h3 => ?_)
  rotate_left
  · have hall : ∀ i : Fin 4, rowOk j i := fun i => hp i.val i.isLt (by omega)
    refine v_nil ?_
    refine q_n ?_
    refine w_f rfl ?_
    refine w_exit ?_
    refine q_e ?_
    refine q_e ?_
    refine q_hit ?_
    refine q_n ?_
    refine w_seq ?_
    refine w_reg rfl ?_
    refine v_assign (c := .v (.bool true)) rfl ?_
    refine v_nil ?_
    refine q_n ?_
    refine w_ret ?_
    refine r_r rfl ?_
    exact a_b (by simp only [true_iff]; exact ⟨h1, h2, hall⟩)
  have hi1 : i < 4 := by omega
  refine v_nil ?_
  refine q_n ?_
  refine w_t rfl ?_
  refine w_skip ?_
  refine q_n ?_
  refine w_seq ?_
  refine w_block ?_
  refine w_seq ?_
  refine w_reg rfl ?_
  refine v_assign (c := .f _ _) rfl ?_
  refine v_nil ?_
  refine q_n ?_
  refine w_seq ?_
  refine w_seq ?_
  refine w_reg rfl ?_
  refine v_assign (c := .v (.int .i64 0)) rfl ?_
  refine v_nil ?_
  refine q_n ?_
  refine w_block ?_
  refine w_loop (fun k sl H => ∃ n : Nat, k = 4 - n ∧ n ≤ 4 ∧ (∀ b (hb : b < 4), b < n → cellOk j i b (j.2.2.1 ⟨i, hi1⟩ ⟨b, hb⟩)) ∧ sl = sls [(0, .c (.vw false (jnc j ++ ra) 0)), (3, cI i), (4, .c (.f .f32 (psm (j.2.2.1 ⟨i, hi1⟩) n))), (5, cI n)] ∧ H = []) ?_ ?_
  · refine ⟨_, _, _, ?_, 0, rfl, Nat.zero_le _, fun b hb h => by omega, rfl, rfl⟩
    exact turn0 ⟨tr_vw, tr_v, tr_f, tr_v, trivial⟩
  rintro k sl H ⟨n, rfl, hn, hpn, rfl, rfl⟩
  refine w_seq ?_
  refine w_seq ?_
  refine w_reg rfl ?_
  refine v_move rfl ?_
  refine v_lss lay2 rfl rfl (fun h4 => ?_) (fun h4 => ?_)
  rotate_left
  · obtain rfl : n = 4 := by omega
    have hrow : ∀ b : Fin 4, cellOk j i b.val (j.2.2.1 ⟨i, hi1⟩ b) := fun b => hpn b.val b.isLt b.isLt
    refine v_nil ?_
    refine q_n ?_
    refine w_f rfl ?_
    refine w_exit ?_
    refine q_e ?_
    refine q_e ?_
    refine q_hit ?_
    refine q_n ?_
    refine w_seq ?_
    refine w_seq ?_
    refine w_reg rfl ?_
    refine v_move rfl ?_
    refine v_move rfl ?_
    refine v_nil_vw rfl ?_
    refine v_fa_vw (off' := 0) lay49 rfl rfl rfl ?_
    refine v_load_vw (.c (.v _)) lay2 rfl rfl rfl ?_
    refine v_geq lay2 rfl rfl (fun h13 => ?_) (fun h13 => ?_)
    · refine v_nil ?_
      refine q_n ?_
      refine w_t rfl ?_
      refine w_seq ?_
      refine w_seq ?_
      refine w_reg rfl ?_
      refine v_move rfl ?_
      refine v_move rfl ?_
      refine v_nil_vw rfl ?_
      refine v_fa_vw (off' := 18) lay49 rfl rfl rfl ?_
      refine v_idx_av_e (k := 1) (i) lay47 lay22 rfl rfl rfl (rfl) (hi1) ?_
      refine v_load_vw_e (.c (.f .f32 (j.2.2.2 ⟨i, hi1⟩))) lay22 rfl (by rw [jn_len8]; show 18 + i * 1 + 1 ≤ _; omega) (jp_ld8 j ra hi1) ?_
      refine v_callb (cAmS _) rfl rfl (.cons vw_f .nil) (fun h14 => ?_) (fun h14 => ?_)
      rotate_left
      · refine v_not true rfl rfl ?_
        refine v_move rfl ?_
        refine v_guard_off rfl rfl rfl ?_
        refine v_guard_off rfl rfl rfl ?_
        refine v_guard_off rfl rfl rfl ?_
        refine v_guard_off rfl rfl rfl ?_
        refine v_guard_off rfl rfl rfl ?_
        refine v_guard_off rfl rfl rfl ?_
        refine v_guard_off rfl rfl rfl ?_
        refine v_pick_t (v := .v (.bool true)) rfl rfl ?_
        refine v_nil ?_
        refine q_n ?_
        refine w_t rfl ?_
        refine w_seq ?_
        refine w_reg rfl ?_
        refine v_assign (c := .v (.bool false)) rfl ?_
        refine v_nil ?_
        refine q_n ?_
        refine w_ret (q_r (q_r (q_br (q_r (q_r (q_br (q_r ?_)))))))
        refine r_r rfl ?_
        exact a_b (by simp only [Bool.false_eq_true, false_iff]; exact jn_nil (hi := hi1) (by omega) fun hn => h14 hn.1)
      refine v_not false rfl rfl ?_
      refine v_move rfl ?_
      refine v_guard_on rfl rfl ?_
      refine v_move rfl ?_
      refine v_guard_on rfl rfl ?_
      refine v_move rfl ?_
      refine v_guard_on rfl rfl ?_
      refine v_nil_vw rfl ?_
      refine v_guard_on rfl rfl ?_
      refine v_fa_vw (off' := 18) lay49 rfl rfl rfl ?_
      refine v_guard_on rfl rfl ?_
      refine v_idx_av_e (k := 1) (i) lay47 lay22 rfl rfl rfl (rfl) (hi1) ?_
      refine v_guard_on rfl rfl ?_
      refine v_load_vw_e (.c (.f .f32 (j.2.2.2 ⟨i, hi1⟩))) lay22 rfl (by rw [jn_len8]; show 18 + i * 1 + 1 ≤ _; omega) (jp_ld8 j ra hi1) ?_
      refine v_guard_on rfl rfl ?_
      refine v_binb lay22 rfl rfl rfl (fun h15 => ?_) (fun h15 => ?_)
      · replace h15 : ¬ feq (j.2.2.2 ⟨i, hi1⟩) := ne_t h15
        refine v_pick_f rfl rfl ?_
        refine v_nil ?_
        refine q_n ?_
        refine w_t rfl ?_
        refine w_seq ?_
        refine w_reg rfl ?_
        refine v_assign (c := .v (.bool false)) rfl ?_
        refine v_nil ?_
        refine q_n ?_
        refine w_ret (q_r (q_r (q_br (q_r (q_r (q_br (q_r ?_)))))))
        refine r_r rfl ?_
        exact a_b (by simp only [Bool.false_eq_true, false_iff]; exact jn_nil (hi := hi1) (by omega) fun hn => h15 hn.2)
      replace h15 : feq (j.2.2.2 ⟨i, hi1⟩) := ne_f h15
      refine v_pick_f rfl rfl ?_
      refine v_nil ?_
      refine q_n ?_
      refine w_f rfl ?_
      refine w_skip ?_
      refine q_n ?_
      refine w_exit ?_
      refine q_e ?_
      refine q_hit ?_
      refine q_n ?_
      refine w_reg rfl ?_
      refine v_move rfl ?_
      refine v_add lay2 rfl rfl (i64r (by omega)) ?_
      refine v_assign rfl ?_
      refine v_nil ?_
      refine q_n ?_
      refine ⟨_, _, _, ?_, ⟨i + 1, rfl, by omega, fun a ha h => ?_, rfl, rfl⟩, by omega⟩
      · exact turn0 ⟨tr_vw, tr_v, trivial⟩
      · rcases Nat.lt_or_eq_of_le (Nat.le_of_lt_succ h) with h | rfl
        · exact hp a ha h
        · exact row_nil hrow (by omega) ⟨h14, h15⟩
    refine v_nil ?_
    refine q_n ?_
    refine w_f rfl ?_
    refine w_skip ?_
    refine q_n ?_
    refine w_seq ?_
    refine w_reg rfl ?_
    refine v_move rfl ?_
    refine v_binb lay22 rfl rfl rfl (fun h16 => ?_) (fun h16 => ?_)
    rotate_left
    · replace h16 : ¬ fge (psm (j.2.2.1 ⟨i, hi1⟩) 4) 1065336439 := fun h => absurd (h16.symm.trans h) (by decide)
      refine v_move rfl ?_
      refine v_guard_off rfl rfl rfl ?_
      refine v_guard_off rfl rfl rfl ?_
      refine v_pick_f (v := .v (.bool false)) rfl rfl ?_
      refine v_not true rfl rfl ?_
      refine v_move rfl ?_
      refine v_guard_off rfl rfl rfl ?_
      refine v_guard_off rfl rfl rfl ?_
      refine v_guard_off rfl rfl rfl ?_
      refine v_guard_off rfl rfl rfl ?_
      refine v_guard_off rfl rfl rfl ?_
      refine v_guard_off rfl rfl rfl ?_
      refine v_guard_off rfl rfl rfl ?_
      refine v_guard_off rfl rfl rfl ?_
      refine v_pick_t (v := .v (.bool true)) rfl rfl ?_
      refine v_nil ?_
      refine q_n ?_
      refine w_t rfl ?_
      refine w_seq ?_
      refine w_reg rfl ?_
      refine v_assign (c := .v (.bool false)) rfl ?_
      refine v_nil ?_
      refine q_n ?_
      refine w_ret (q_br (q_r (q_r (q_br (q_r ?_)))))
      refine r_r rfl ?_
      exact a_b (by simp only [Bool.false_eq_true, false_iff]; exact jn_in (hi := hi1) (by omega) fun h => h16 h.1.1)
    replace h16 : fge (psm (j.2.2.1 ⟨i, hi1⟩) 4) 1065336439 := h16
    refine v_move rfl ?_
    refine v_guard_on rfl rfl ?_
    refine v_move rfl ?_
    refine v_guard_on rfl rfl ?_
    refine v_binb lay22 rfl rfl rfl (fun h17 => ?_) (fun h17 => ?_)
    rotate_left
    · replace h17 : ¬ fle (psm (j.2.2.1 ⟨i, hi1⟩) 4) 1065361605 := fun h => absurd (h17.symm.trans h) (by decide)
      refine v_pick_t rfl rfl ?_
      refine v_not true rfl rfl ?_
      refine v_move rfl ?_
      refine v_guard_off rfl rfl rfl ?_
      refine v_guard_off rfl rfl rfl ?_
      refine v_guard_off rfl rfl rfl ?_
      refine v_guard_off rfl rfl rfl ?_
      refine v_guard_off rfl rfl rfl ?_
      refine v_guard_off rfl rfl rfl ?_
      refine v_guard_off rfl rfl rfl ?_
      refine v_guard_off rfl rfl rfl ?_
      refine v_pick_t (v := .v (.bool true)) rfl rfl ?_
      refine v_nil ?_
      refine q_n ?_
      refine w_t rfl ?_
      refine w_seq ?_
      refine w_reg rfl ?_
      refine v_assign (c := .v (.bool false)) rfl ?_
      refine v_nil ?_
      refine q_n ?_
      refine w_ret (q_br (q_r (q_r (q_br (q_r ?_)))))
      refine r_r rfl ?_
      exact a_b (by simp only [Bool.false_eq_true, false_iff]; exact jn_in (hi := hi1) (by omega) fun h => h17 h.1.2)
    replace h17 : fle (psm (j.2.2.1 ⟨i, hi1⟩) 4) 1065361605 := h17
    refine v_pick_t rfl rfl ?_
    refine v_not false rfl rfl ?_
    refine v_move rfl ?_
    refine v_guard_on rfl rfl ?_
    refine v_move rfl ?_
    refine v_guard_on rfl rfl ?_
    refine v_move rfl ?_
    refine v_guard_on rfl rfl ?_
    refine v_nil_vw rfl ?_
    refine v_guard_on rfl rfl ?_
    refine v_fa_vw (off' := 18) lay49 rfl rfl rfl ?_
    refine v_guard_on rfl rfl ?_
    refine v_idx_av_e (k := 1) (i) lay47 lay22 rfl rfl rfl (rfl) (hi1) ?_
    refine v_guard_on rfl rfl ?_
    refine v_load_vw_e (.c (.f .f32 (j.2.2.2 ⟨i, hi1⟩))) lay22 rfl (by rw [jn_len8]; show 18 + i * 1 + 1 ≤ _; omega) (jp_ld8 j ra hi1) ?_
    refine v_guard_on rfl rfl ?_
    refine v_callb (cPrS _) rfl rfl (.cons vw_f .nil) (fun h18 => ?_) (fun h18 => ?_)
    rotate_left
    · refine v_guard_on rfl rfl ?_
      refine v_not true rfl rfl ?_
      refine v_pick_f rfl rfl ?_
      refine v_nil ?_
      refine q_n ?_
      refine w_t rfl ?_
      refine w_seq ?_
      refine w_reg rfl ?_
      refine v_assign (c := .v (.bool false)) rfl ?_
      refine v_nil ?_
      refine q_n ?_
      refine w_ret (q_br (q_r (q_r (q_br (q_r ?_)))))
      refine r_r rfl ?_
      exact a_b (by simp only [Bool.false_eq_true, false_iff]; exact jn_in (hi := hi1) (by omega) fun h => h18 h.2)
    refine v_guard_on rfl rfl ?_
    refine v_not false rfl rfl ?_
    refine v_pick_f rfl rfl ?_
    refine v_nil ?_
    refine q_n ?_
    refine w_f rfl ?_
    refine w_skip ?_
    refine q_bn ?_
    refine q_n ?_
    refine w_reg rfl ?_
    refine v_move rfl ?_
    refine v_add lay2 rfl rfl (i64r (by omega)) ?_
    refine v_assign rfl ?_
    refine v_nil ?_
    refine q_n ?_
    refine ⟨_, _, _, ?_, ⟨i + 1, rfl, by omega, fun a ha h => ?_, rfl, rfl⟩, by omega⟩
    · exact turn0 ⟨tr_vw, tr_v, trivial⟩
    · rcases Nat.lt_or_eq_of_le (Nat.le_of_lt_succ h) with h | rfl
      · exact hp a ha h
      · exact row_in hrow (by omega) ⟨h16, h17⟩ h18
  have hn1 : n < 4 := by omega
  refine v_nil ?_
  refine q_n ?_
  refine w_t rfl ?_
  refine w_skip ?_
  refine q_n ?_
  refine w_seq ?_
  refine w_block ?_
  refine w_seq ?_
  refine w_reg rfl ?_
  refine v_move rfl ?_
  refine v_move rfl ?_
  refine v_move rfl ?_
  refine v_nil_vw rfl ?_
  refine v_fa_vw (off' := 2) lay49 rfl rfl rfl ?_
  refine v_idx_av_e (k := 4) (i) lay46 lay44 rfl rfl rfl (rfl) (hi1) ?_
  refine v_idx_av_e (k := 1) (n) lay44 lay22 rfl rfl rfl (rfl) (hn1) ?_
  refine v_load_vw_e (.c (.f .f32 (j.2.2.1 ⟨i, hi1⟩ ⟨n, hn1⟩))) lay22 rfl (by rw [jn_len8]; show 2 + i * 4 + n * 1 + 1 ≤ _; omega) (jt_ld8 j ra hi1 hn1) ?_
  refine v_assign rfl ?_
  refine v_nil ?_
  refine q_n ?_
  refine w_seq ?_
  refine w_seq ?_
  refine w_reg rfl ?_
  refine v_move rfl ?_
  refine v_callb (cShS _) rfl rfl (.cons vw_f .nil) (fun h5 => ?_) (fun h5 => ?_)
  rotate_left
  · refine v_not true rfl rfl ?_
    refine v_move rfl ?_
    refine v_guard_off rfl rfl rfl ?_
    refine v_guard_off rfl rfl rfl ?_
    refine v_guard_off rfl rfl rfl ?_
    refine v_guard_off rfl rfl rfl ?_
    refine v_guard_off rfl rfl rfl ?_
    refine v_guard_off rfl rfl rfl ?_
    refine v_guard_off rfl rfl rfl ?_
    refine v_guard_un rfl rfl ?_
    refine v_guard_un rfl rfl ?_
    refine v_guard_un rfl rfl ?_
    refine v_guard_un rfl rfl ?_
    refine v_guard_un rfl rfl ?_
    refine v_guard_un rfl rfl ?_
    refine v_guard_off rfl rfl rfl ?_
    refine v_guard_off rfl rfl rfl ?_
    refine v_guard_un rfl rfl ?_
    refine v_guard_un rfl rfl ?_
    refine v_guard_off rfl rfl rfl ?_
    refine v_pick_t (v := .v (.bool true)) rfl rfl ?_
    refine v_nil ?_
    refine q_n ?_
    refine w_t rfl ?_
    refine w_seq ?_
    refine w_reg rfl ?_
    refine v_assign (c := .v (.bool false)) rfl ?_
    refine v_nil ?_
    refine q_n ?_
    refine w_ret (q_r (q_br (q_r (q_r (q_br (q_r (q_br (q_r (q_r (q_br (q_r ?_)))))))))))
    refine r_r rfl ?_
    exact a_b (by simp only [Bool.false_eq_true, false_iff]; exact jn_cell (n := n) (hi := hi1) (hn := hn1) fun hc => h5 hc.1)
  refine v_not false rfl rfl ?_
  refine v_move rfl ?_
  refine v_guard_on rfl rfl ?_
  refine v_move rfl ?_
  refine v_guard_on rfl rfl ?_
  refine v_move rfl ?_
  refine v_guard_on rfl rfl ?_
  refine v_nil_vw rfl ?_
  refine v_guard_on rfl rfl ?_
  refine v_fa_vw (off' := 0) lay49 rfl rfl rfl ?_
  refine v_guard_on rfl rfl ?_
  refine v_load_vw (.c (.v _)) lay2 rfl rfl rfl ?_
  refine v_guard_on rfl rfl ?_
  refine v_geq lay2 rfl rfl (fun h6 => ?_) (fun h6 => ?_)
  · refine v_guard_on rfl rfl ?_
    refine v_move rfl ?_
    refine v_guard_off rfl rfl rfl ?_
    refine v_guard_off rfl rfl rfl ?_
    refine v_guard_off rfl rfl rfl ?_
    refine v_guard_off rfl rfl rfl ?_
    refine v_guard_off rfl rfl rfl ?_
    refine v_guard_off rfl rfl rfl ?_
    refine v_guard_on rfl rfl ?_
    refine v_pick_t (v := .v (.bool true)) rfl rfl ?_
    refine v_guard_on rfl rfl ?_
    refine v_move rfl ?_
    refine v_guard_on rfl rfl ?_
    refine v_move rfl ?_
    refine v_guard_on rfl rfl ?_
    refine v_binb lay22 rfl rfl rfl (fun h7 => ?_) (fun h7 => ?_)
    · replace h7 : ¬ feq (j.2.2.1 ⟨i, hi1⟩ ⟨n, hn1⟩) := ne_t h7
      refine v_guard_on rfl rfl ?_
      refine v_pick_t rfl rfl ?_
      refine v_pick_f rfl rfl ?_
      refine v_nil ?_
      refine q_n ?_
      refine w_t rfl ?_
      refine w_seq ?_
      refine w_reg rfl ?_
      refine v_assign (c := .v (.bool false)) rfl ?_
      refine v_nil ?_
      refine q_n ?_
      refine w_ret (q_r (q_br (q_r (q_r (q_br (q_r (q_br (q_r (q_r (q_br (q_r ?_)))))))))))
      refine r_r rfl ?_
      exact a_b (by simp only [Bool.false_eq_true, false_iff]; exact jn_cell (n := n) (hi := hi1) (hn := hn1) fun hc => h7 (hc.2 (.inl (by omega))))
    replace h7 : feq (j.2.2.1 ⟨i, hi1⟩ ⟨n, hn1⟩) := ne_f h7
    refine v_guard_on rfl rfl ?_
    refine v_pick_t rfl rfl ?_
    refine v_pick_f rfl rfl ?_
    refine v_nil ?_
    refine q_n ?_
    refine w_f rfl ?_
    refine w_skip ?_
    refine q_n ?_
    refine w_seq ?_
    refine w_reg rfl ?_
    refine v_move rfl ?_
    refine v_eql lay2 rfl rfl (fun h8 => ?_) (fun h8 => ?_)
    · refine v_nil ?_
      refine q_n ?_
      refine w_t rfl ?_
      refine w_reg rfl ?_
      refine v_move rfl ?_
      refine v_assign rfl ?_
      refine v_nil ?_
      refine q_bn ?_
      refine q_n ?_
      refine w_reg rfl ?_
      refine v_move rfl ?_
      refine v_add lay2 rfl rfl (i64r (by omega)) ?_
      refine v_assign rfl ?_
      refine v_nil ?_
      refine q_n ?_
      have hcell : cellOk j i n (j.2.2.1 ⟨i, hi1⟩ ⟨n, hn1⟩) := ⟨by assumption, fun hor => by first | assumption | (exfalso; omega)⟩
      refine ⟨_, _, _, ?_, ⟨n + 1, rfl, by omega, fun b hb h => ?_, rfl, rfl⟩, by omega⟩
      · first | (rw [← psm_1 (j.2.2.1 ⟨i, hi1⟩) hn1 (by assumption)]; exact turn0 ⟨tr_vw, tr_v, tr_f, tr_v, trivial⟩) | (rw [← psm_s (j.2.2.1 ⟨i, hi1⟩) hn1 (by assumption)]; exact turn0 ⟨tr_vw, tr_v, tr_f, tr_v, trivial⟩)
      · rcases Nat.lt_or_eq_of_le (Nat.le_of_lt_succ h) with h | rfl
        · exact hpn b hb h
        · exact hcell
    refine v_nil ?_
    refine q_n ?_
    refine w_f rfl ?_
    refine w_reg rfl ?_
    refine v_move rfl ?_
    refine v_move rfl ?_
    refine v_bin (c := .f _ _) lay22 rfl rfl rfl ?_
    refine v_assign rfl ?_
    refine v_nil ?_
    refine q_bn ?_
    refine q_n ?_
    refine w_reg rfl ?_
    refine v_move rfl ?_
    refine v_add lay2 rfl rfl (i64r (by omega)) ?_
    refine v_assign rfl ?_
    refine v_nil ?_
    refine q_n ?_
    have hcell : cellOk j i n (j.2.2.1 ⟨i, hi1⟩ ⟨n, hn1⟩) := ⟨by assumption, fun hor => by first | assumption | (exfalso; omega)⟩
    refine ⟨_, _, _, ?_, ⟨n + 1, rfl, by omega, fun b hb h => ?_, rfl, rfl⟩, by omega⟩
    · first | (rw [← psm_1 (j.2.2.1 ⟨i, hi1⟩) hn1 (by assumption)]; exact turn0 ⟨tr_vw, tr_v, tr_f, tr_v, trivial⟩) | (rw [← psm_s (j.2.2.1 ⟨i, hi1⟩) hn1 (by assumption)]; exact turn0 ⟨tr_vw, tr_v, tr_f, tr_v, trivial⟩)
    · rcases Nat.lt_or_eq_of_le (Nat.le_of_lt_succ h) with h | rfl
      · exact hpn b hb h
      · exact hcell
  refine v_guard_on rfl rfl ?_
  refine v_move rfl ?_
  refine v_guard_on rfl rfl ?_
  refine v_move rfl ?_
  refine v_guard_on rfl rfl ?_
  refine v_move rfl ?_
  refine v_guard_on rfl rfl ?_
  refine v_nil_vw rfl ?_
  refine v_guard_on rfl rfl ?_
  refine v_fa_vw (off' := 1) lay49 rfl rfl rfl ?_
  refine v_guard_on rfl rfl ?_
  refine v_load_vw (.c (.v _)) lay2 rfl rfl rfl ?_
  refine v_guard_on rfl rfl ?_
  refine v_geq lay2 rfl rfl (fun h9 => ?_) (fun h9 => ?_)
  rotate_left
  · refine v_guard_on rfl rfl ?_
    refine v_pick_f rfl rfl ?_
    refine v_guard_on rfl rfl ?_
    refine v_move rfl ?_
    refine v_guard_off rfl rfl rfl ?_
    refine v_guard_off rfl rfl rfl ?_
    refine v_guard_on rfl rfl ?_
    refine v_pick_f (v := .v (.bool false)) rfl rfl ?_
    refine v_pick_f rfl rfl ?_
    refine v_nil ?_
    refine q_n ?_
    refine w_f rfl ?_
    refine w_skip ?_
    refine q_n ?_
    refine w_seq ?_
    refine w_reg rfl ?_
    refine v_move rfl ?_
    refine v_eql lay2 rfl rfl (fun h12 => ?_) (fun h12 => ?_)
    · refine v_nil ?_
      refine q_n ?_
      refine w_t rfl ?_
      refine w_reg rfl ?_
      refine v_move rfl ?_
      refine v_assign rfl ?_
      refine v_nil ?_
      refine q_bn ?_
      refine q_n ?_
      refine w_reg rfl ?_
      refine v_move rfl ?_
      refine v_add lay2 rfl rfl (i64r (by omega)) ?_
      refine v_assign rfl ?_
      refine v_nil ?_
      refine q_n ?_
      have hcell : cellOk j i n (j.2.2.1 ⟨i, hi1⟩ ⟨n, hn1⟩) := ⟨by assumption, fun hor => by first | assumption | (exfalso; omega)⟩
      refine ⟨_, _, _, ?_, ⟨n + 1, rfl, by omega, fun b hb h => ?_, rfl, rfl⟩, by omega⟩
      · first | (rw [← psm_1 (j.2.2.1 ⟨i, hi1⟩) hn1 (by assumption)]; exact turn0 ⟨tr_vw, tr_v, tr_f, tr_v, trivial⟩) | (rw [← psm_s (j.2.2.1 ⟨i, hi1⟩) hn1 (by assumption)]; exact turn0 ⟨tr_vw, tr_v, tr_f, tr_v, trivial⟩)
      · rcases Nat.lt_or_eq_of_le (Nat.le_of_lt_succ h) with h | rfl
        · exact hpn b hb h
        · exact hcell
    refine v_nil ?_
    refine q_n ?_
    refine w_f rfl ?_
    refine w_reg rfl ?_
    refine v_move rfl ?_
    refine v_move rfl ?_
    refine v_bin (c := .f _ _) lay22 rfl rfl rfl ?_
    refine v_assign rfl ?_
    refine v_nil ?_
    refine q_bn ?_
    refine q_n ?_
    refine w_reg rfl ?_
    refine v_move rfl ?_
    refine v_add lay2 rfl rfl (i64r (by omega)) ?_
    refine v_assign rfl ?_
    refine v_nil ?_
    refine q_n ?_
    have hcell : cellOk j i n (j.2.2.1 ⟨i, hi1⟩ ⟨n, hn1⟩) := ⟨by assumption, fun hor => by first | assumption | (exfalso; omega)⟩
    refine ⟨_, _, _, ?_, ⟨n + 1, rfl, by omega, fun b hb h => ?_, rfl, rfl⟩, by omega⟩
    · first | (rw [← psm_1 (j.2.2.1 ⟨i, hi1⟩) hn1 (by assumption)]; exact turn0 ⟨tr_vw, tr_v, tr_f, tr_v, trivial⟩) | (rw [← psm_s (j.2.2.1 ⟨i, hi1⟩) hn1 (by assumption)]; exact turn0 ⟨tr_vw, tr_v, tr_f, tr_v, trivial⟩)
    · rcases Nat.lt_or_eq_of_le (Nat.le_of_lt_succ h) with h | rfl
      · exact hpn b hb h
      · exact hcell
  refine v_guard_on rfl rfl ?_
  refine v_pick_f rfl rfl ?_
  refine v_guard_on rfl rfl ?_
  refine v_move rfl ?_
  refine v_guard_on rfl rfl ?_
  refine v_move rfl ?_
  refine v_guard_on rfl rfl ?_
  refine v_binb lay22 rfl rfl rfl (fun h10 => ?_) (fun h10 => ?_)
  · replace h10 : ¬ feq (j.2.2.1 ⟨i, hi1⟩ ⟨n, hn1⟩) := ne_t h10
    refine v_guard_on rfl rfl ?_
    refine v_pick_t rfl rfl ?_
    refine v_pick_f rfl rfl ?_
    refine v_nil ?_
    refine q_n ?_
    refine w_t rfl ?_
    refine w_seq ?_
    refine w_reg rfl ?_
    refine v_assign (c := .v (.bool false)) rfl ?_
    refine v_nil ?_
    refine q_n ?_
    refine w_ret (q_r (q_br (q_r (q_r (q_br (q_r (q_br (q_r (q_r (q_br (q_r ?_)))))))))))
    refine r_r rfl ?_
    exact a_b (by simp only [Bool.false_eq_true, false_iff]; exact jn_cell (n := n) (hi := hi1) (hn := hn1) fun hc => h10 (hc.2 (.inr (by omega))))
  replace h10 : feq (j.2.2.1 ⟨i, hi1⟩ ⟨n, hn1⟩) := ne_f h10
  refine v_guard_on rfl rfl ?_
  refine v_pick_t rfl rfl ?_
  refine v_pick_f rfl rfl ?_
  refine v_nil ?_
  refine q_n ?_
  refine w_f rfl ?_
  refine w_skip ?_
  refine q_n ?_
  refine w_seq ?_
  refine w_reg rfl ?_
  refine v_move rfl ?_
  refine v_eql lay2 rfl rfl (fun h11 => ?_) (fun h11 => ?_)
  · refine v_nil ?_
    refine q_n ?_
    refine w_t rfl ?_
    refine w_reg rfl ?_
    refine v_move rfl ?_
    refine v_assign rfl ?_
    refine v_nil ?_
    refine q_bn ?_
    refine q_n ?_
    refine w_reg rfl ?_
    refine v_move rfl ?_
    refine v_add lay2 rfl rfl (i64r (by omega)) ?_
    refine v_assign rfl ?_
    refine v_nil ?_
    refine q_n ?_
    have hcell : cellOk j i n (j.2.2.1 ⟨i, hi1⟩ ⟨n, hn1⟩) := ⟨by assumption, fun hor => by first | assumption | (exfalso; omega)⟩
    refine ⟨_, _, _, ?_, ⟨n + 1, rfl, by omega, fun b hb h => ?_, rfl, rfl⟩, by omega⟩
    · first | (rw [← psm_1 (j.2.2.1 ⟨i, hi1⟩) hn1 (by assumption)]; exact turn0 ⟨tr_vw, tr_v, tr_f, tr_v, trivial⟩) | (rw [← psm_s (j.2.2.1 ⟨i, hi1⟩) hn1 (by assumption)]; exact turn0 ⟨tr_vw, tr_v, tr_f, tr_v, trivial⟩)
    · rcases Nat.lt_or_eq_of_le (Nat.le_of_lt_succ h) with h | rfl
      · exact hpn b hb h
      · exact hcell
  refine v_nil ?_
  refine q_n ?_
  refine w_f rfl ?_
  refine w_reg rfl ?_
  refine v_move rfl ?_
  refine v_move rfl ?_
  refine v_bin (c := .f _ _) lay22 rfl rfl rfl ?_
  refine v_assign rfl ?_
  refine v_nil ?_
  refine q_bn ?_
  refine q_n ?_
  refine w_reg rfl ?_
  refine v_move rfl ?_
  refine v_add lay2 rfl rfl (i64r (by omega)) ?_
  refine v_assign rfl ?_
  refine v_nil ?_
  refine q_n ?_
  have hcell : cellOk j i n (j.2.2.1 ⟨i, hi1⟩ ⟨n, hn1⟩) := ⟨by assumption, fun hor => by first | assumption | (exfalso; omega)⟩
  refine ⟨_, _, _, ?_, ⟨n + 1, rfl, by omega, fun b hb h => ?_, rfl, rfl⟩, by omega⟩
  · first | (rw [← psm_1 (j.2.2.1 ⟨i, hi1⟩) hn1 (by assumption)]; exact turn0 ⟨tr_vw, tr_v, tr_f, tr_v, trivial⟩) | (rw [← psm_s (j.2.2.1 ⟨i, hi1⟩) hn1 (by assumption)]; exact turn0 ⟨tr_vw, tr_v, tr_f, tr_v, trivial⟩)
  · rcases Nat.lt_or_eq_of_le (Nat.le_of_lt_succ h) with h | rfl
    · exact hpn b hb h
    · exact hcell
end Go.VL
namespace Go.VL
open Go.RowKit
set_option maxRecDepth 20000
set_option maxHeartbeats 8000000
theorem cCyS (xs : List Slo) (b f : Int) (hx : xs.length ≤ 2 ^ 40) : PureC X 46 [.c (.vw false (pln true xs b f) 0)] (cI (cyS xs b 0)) := by
  refine PureC.of_body (drawD_ok X) (fun _ _ => Go.Proofs.Try.call46 _ _) Go.Proofs.Try.func46 rfl (n := 51) rfl ?_
  refine w_seq ?_
  refine w_reg rfl ?_
  refine v_assign (c := .v (.int .i64 0)) rfl ?_
  refine v_nil ?_
  refine q_n ?_
  refine w_seq ?_
  refine w_reg rfl ?_
  refine v_assign (c := .v (.int .i64 0)) rfl ?_
  refine v_nil ?_
  refine q_n ?_
  refine w_seq ?_
  refine w_seq ?_
  refine w_reg rfl ?_
  refine v_assign (c := .v (.int .i64 0)) rfl ?_
  refine v_nil ?_
  refine q_n ?_
  refine w_block ?_
  refine w_loop (fun k sl H => ∃ (i : Nat) (a : Int), k = xs.length - i ∧ i ≤ xs.length ∧ cyS (xs.drop i) b a = cyS xs b 0 ∧ (0 ≤ a ∧ a ≤ 240) ∧ sl = sls [(0, .c (.vw false (pln true xs b f) 0)), (3, cI a), (4, cI i)] ∧ H = []) ?_ ?_
  · refine ⟨_, _, _, ?_, 0, 0, rfl, Nat.zero_le _, rfl, by decide, rfl, rfl⟩
    exact turn0 ⟨tr_vw, tr_v, tr_v, trivial⟩
  rintro k sl H ⟨i, a, rfl, hi, hp, ha, rfl, rfl⟩
  refine w_seq ?_
  refine w_seq ?_
  refine w_reg rfl ?_
  refine v_move rfl ?_
  refine v_move rfl ?_
  refine v_nil_vw rfl ?_
  refine v_fa_vw (off' := 0) lay74 rfl rfl rfl ?_
  refine v_load_vw (.c (_)) lay72 rfl rfl rfl ?_
  refine v_len_sl lay72 rfl ?_
  refine v_lss lay3 rfl rfl (fun h1 => ?_) (fun h1 => ?_)
  rotate_left
  · refine v_nil ?_
    refine q_n ?_
    refine w_f rfl ?_
    refine w_exit ?_
    refine q_e ?_
    refine q_e ?_
    refine q_hit ?_
    refine q_n ?_
    refine w_seq ?_
    refine w_reg rfl ?_
    refine v_move rfl ?_
    refine v_assign rfl ?_
    refine v_nil ?_
    refine q_n ?_
    refine w_ret ?_
    refine r_r rfl ?_
    first | exact a_i (by rw [← hp, cyS_at hi1, if_neg (by omega)]) | exact a_i (by rw [← hp, cyS_at hi1, if_pos ⟨by assumption, by assumption⟩, if_pos (by omega)]) | exact a_i (by obtain rfl : i = xs.length := (by omega); rw [List.drop_length] at hp; exact hp)
  have hi1 : i < xs.length := by omega
  refine v_nil ?_
  refine q_n ?_
  refine w_t rfl ?_
  refine w_skip ?_
  refine q_n ?_
  refine w_seq ?_
  refine w_block ?_
  refine w_seq ?_
  refine w_seq ?_
  refine w_reg rfl ?_
  refine v_move rfl ?_
  refine v_nil_vw rfl ?_
  refine v_fa_vw (off' := 0) lay74 rfl rfl rfl ?_
  refine v_load_vw (.c (_)) lay72 rfl rfl rfl ?_
  refine v_move rfl ?_
  refine v_idx_e (k := 9) (i) stc_len lay72 lay95 rfl rfl rfl (rfl) rfl (rfl) (hi1) ?_
  refine v_fa_vw (off' := 8) lay95 rfl rfl rfl ?_
  refine v_load_vw (.c (.v _)) lay2 rfl rfl rfl ?_
  refine v_callb (cIn _ _ _) rfl rfl (.cons vw_v (.cons vw_v (.cons vw_v .nil))) (fun h3 => ?_) (fun h3 => ?_)
  rotate_left
  · refine v_not true rfl rfl ?_
    refine v_move rfl ?_
    refine v_guard_off rfl rfl rfl ?_
    refine v_guard_off rfl rfl rfl ?_
    refine v_guard_off rfl rfl rfl ?_
    refine v_guard_off rfl rfl rfl ?_
    refine v_guard_off rfl rfl rfl ?_
    refine v_guard_off rfl rfl rfl ?_
    refine v_pick_t (v := .v (.bool true)) rfl rfl ?_
    refine v_nil ?_
    refine q_n ?_
    refine w_t rfl ?_
    refine w_seq ?_
    refine w_reg rfl ?_
    refine v_assign (c := .v (.int .i64 241)) rfl ?_
    refine v_nil ?_
    refine q_n ?_
    refine w_ret (q_r (q_br (q_r (q_r (q_br (q_r ?_))))))
    refine r_r rfl ?_
    first | exact a_i (by rw [← hp, cyS_at hi1, if_neg (by omega)]) | exact a_i (by rw [← hp, cyS_at hi1, if_pos ⟨by assumption, by assumption⟩, if_pos (by omega)]) | exact a_i (by obtain rfl : i = xs.length := (by omega); rw [List.drop_length] at hp; exact hp)
  refine v_not false rfl rfl ?_
  refine v_move rfl ?_
  refine v_guard_on rfl rfl ?_
  refine v_move rfl ?_
  refine v_guard_on rfl rfl ?_
  refine v_nil_vw rfl ?_
  refine v_guard_on rfl rfl ?_
  refine v_fa_vw (off' := 1) lay74 rfl rfl rfl ?_
  refine v_guard_on rfl rfl ?_
  refine v_load_vw (.c (.v _)) lay2 rfl rfl rfl ?_
  refine v_guard_on rfl rfl ?_
  refine v_callb (cIn _ _ _) rfl rfl (.cons vw_v (.cons vw_v (.cons vw_v .nil))) (fun h4 => ?_) (fun h4 => ?_)
  rotate_left
  · refine v_guard_on rfl rfl ?_
    refine v_not true rfl rfl ?_
    refine v_pick_f rfl rfl ?_
    refine v_nil ?_
    refine q_n ?_
    refine w_t rfl ?_
    refine w_seq ?_
    refine w_reg rfl ?_
    refine v_assign (c := .v (.int .i64 241)) rfl ?_
    refine v_nil ?_
    refine q_n ?_
    refine w_ret (q_r (q_br (q_r (q_r (q_br (q_r ?_))))))
    refine r_r rfl ?_
    first | exact a_i (by rw [← hp, cyS_at hi1, if_neg (by omega)]) | exact a_i (by rw [← hp, cyS_at hi1, if_pos ⟨by assumption, by assumption⟩, if_pos (by omega)]) | exact a_i (by obtain rfl : i = xs.length := (by omega); rw [List.drop_length] at hp; exact hp)
  refine v_guard_on rfl rfl ?_
  refine v_not false rfl rfl ?_
  refine v_pick_f rfl rfl ?_
  refine v_nil ?_
  refine q_n ?_
  refine w_f rfl ?_
  refine w_skip ?_
  refine q_n ?_
  refine w_seq ?_
  refine w_draw [0, 0, 2, 6, 14, 0, 62, 126, 254, 0, 512, 1536, 3584, 8190, 16383, 32767] [⟨0, 0, []⟩, ⟨1, 0, []⟩, ⟨2, 0, []⟩, ⟨3, 0, []⟩, ⟨4, 0, []⟩, ⟨5, 0, []⟩, ⟨6, 0, []⟩, ⟨7, 0, []⟩, ⟨8, 0, []⟩, ⟨9, 0, []⟩, ⟨10, 0, []⟩, ⟨11, 0, []⟩, ⟨12, 0, []⟩, ⟨13, 0, []⟩, ⟨14, 0, []⟩, ⟨15, 0, []⟩] rfl rfl ?_
  refine d_q rfl rfl rfl rfl rfl ?_
  refine v_move rfl ?_
  refine v_nil ?_
  refine d_q rfl rfl rfl rfl rfl ?_
  refine v_move rfl ?_
  refine v_nil ?_
  refine d_q rfl rfl rfl rfl rfl ?_
  refine v_nil_vw rfl ?_
  refine v_nil ?_
  refine d_q rfl rfl rfl rfl rfl ?_
  refine v_fa_vw (off' := 0) lay74 rfl rfl rfl ?_
  refine v_nil ?_
  refine d_q rfl rfl rfl rfl rfl ?_
  refine v_load_vw (.c (_)) lay72 rfl rfl rfl ?_
  refine v_nil ?_
  refine d_q rfl rfl rfl rfl rfl ?_
  refine v_move rfl ?_
  refine v_nil ?_
  refine d_q rfl rfl rfl rfl rfl ?_
  refine v_idx_e (k := 9) (i) stc_len lay72 lay95 rfl rfl rfl (rfl) rfl (rfl) (hi1) ?_
  refine v_nil ?_
  refine d_q rfl rfl rfl rfl rfl ?_
  refine v_fa_vw (off' := 8) lay95 rfl rfl rfl ?_
  refine v_nil ?_
  refine d_q rfl rfl rfl rfl rfl ?_
  refine v_load_vw (.c (.v _)) lay2 rfl rfl rfl ?_
  refine v_nil ?_
  refine d_q rfl rfl rfl rfl rfl ?_
  refine v_move rfl ?_
  refine v_nil ?_
  refine d_q rfl rfl rfl rfl rfl ?_
  refine v_nil_vw rfl ?_
  refine v_nil ?_
  refine d_q rfl rfl rfl rfl rfl ?_
  refine v_fa_vw (off' := 1) lay74 rfl rfl rfl ?_
  refine v_nil ?_
  refine d_q rfl rfl rfl rfl rfl ?_
  refine v_load_vw (.c (.v _)) lay2 rfl rfl rfl ?_
  refine v_nil ?_
  refine d_q rfl rfl rfl rfl rfl ?_
  refine v_add lay2 rfl rfl (i64r (by omega)) ?_
  refine v_nil ?_
  refine d_q rfl rfl rfl rfl rfl ?_
  refine v_add lay2 rfl rfl (i64r (by omega)) ?_
  refine v_nil ?_
  refine d_q rfl rfl rfl rfl rfl ?_
  refine v_assign rfl ?_
  refine v_nil ?_
  refine d_nil ?_
  refine q_n ?_
  refine w_seq ?_
  refine w_reg rfl ?_
  refine v_move rfl ?_
  refine v_gtr lay2 rfl rfl (fun h6 => ?_) (fun h6 => ?_)
  rotate_left
  · refine v_nil ?_
    refine q_n ?_
    refine w_f rfl ?_
    refine w_skip ?_
    refine q_bn ?_
    refine q_n ?_
    refine w_reg rfl ?_
    refine v_move rfl ?_
    refine v_add lay3 rfl rfl (i64r (by omega)) ?_
    refine v_assign rfl ?_
    refine v_nil ?_
    refine q_n ?_
    rw [cyS_at hi1, if_pos ⟨by assumption, by assumption⟩, if_neg (by omega)] at hp
    refine ⟨_, _, _, ?_, ⟨i + 1, a + (xs[i].2 + b), rfl, by omega, hp, by omega, rfl, rfl⟩, by omega⟩
    exact turn0 ⟨tr_vw, tr_v, tr_v, trivial⟩
  refine v_nil ?_
  refine q_n ?_
  refine w_t rfl ?_
  refine w_seq ?_
  refine w_reg rfl ?_
  refine v_move rfl ?_
  refine v_assign rfl ?_
  refine v_nil ?_
  refine q_n ?_
  refine w_ret (q_br (q_r (q_r (q_br (q_r ?_)))))
  refine r_r rfl ?_
  first | exact a_i (by rw [← hp, cyS_at hi1, if_neg (by omega)]) | exact a_i (by rw [← hp, cyS_at hi1, if_pos ⟨by assumption, by assumption⟩, if_pos (by omega)]) | exact a_i (by obtain rfl : i = xs.length := (by omega); rw [List.drop_length] at hp; exact hp)
theorem cPlS (xs : List Slo) (b f : Int) (hx : xs.length ≤ 2 ^ 40) : PureC X 32 [.c (.vw false (pln true xs b f) 0)] (cB (decide (okP xs b f))) := by
  refine PureC.of_body (drawD_ok X) (fun _ _ => Go.Proofs.Try.call32 _ _) Go.Proofs.Try.func32 rfl (n := 24) rfl ?_
  refine w_seq ?_
  refine w_reg rfl ?_
  refine v_assign (c := .v (.bool false)) rfl ?_
  refine v_nil ?_
  refine q_n ?_
  refine w_seq ?_
  refine w_seq ?_
  refine w_reg rfl ?_
  refine v_move rfl ?_
  refine v_nil_vw rfl ?_
  refine v_fa_vw (off' := 0) lay74 rfl rfl rfl ?_
  refine v_load_vw (.c (_)) lay72 rfl rfl rfl ?_
  refine v_len_sl lay72 rfl ?_
  refine v_callb (cIn _ _ _) rfl rfl (.cons vw_v (.cons vw_v (.cons vw_v .nil))) (fun h1 => ?_) (fun h1 => ?_)
  rotate_left
  · refine v_not true rfl rfl ?_
    refine v_nil ?_
    refine q_n ?_
    refine w_t rfl ?_
    refine w_seq ?_
    refine w_reg rfl ?_
    refine v_assign (c := .v (.bool false)) rfl ?_
    refine v_nil ?_
    refine q_n ?_
    refine w_ret (q_r ?_)
    refine r_r rfl ?_
    exact a_b (by simp only [Bool.false_eq_true, false_iff]; exact fun h => h1 h.1.1)
  have hO := okS (xs := xs) (b := b) (f := f) h1
  refine v_not false rfl rfl ?_
  refine v_nil ?_
  refine q_n ?_
  refine w_f rfl ?_
  refine w_skip ?_
  refine q_n ?_
  refine w_seq ?_
  refine w_reg rfl ?_
  refine v_move rfl ?_
  refine v_call (cCyS _ _ _ hx) rfl rfl rfl (.cons vw_vw .nil) ?_
  refine v_assign rfl ?_
  refine v_nil ?_
  refine q_n ?_
  refine w_seq ?_
  refine w_reg rfl ?_
  refine v_move rfl ?_
  refine v_leq lay2 rfl rfl (fun h2 => ?_) (fun h2 => ?_)
  rotate_left
  · refine v_move rfl ?_
    refine v_guard_off rfl rfl rfl ?_
    refine v_guard_off rfl rfl rfl ?_
    refine v_guard_off rfl rfl rfl ?_
    refine v_guard_off rfl rfl rfl ?_
    refine v_guard_off rfl rfl rfl ?_
    refine v_guard_off rfl rfl rfl ?_
    refine v_guard_off rfl rfl rfl ?_
    refine v_pick_f (v := .v (.bool false)) rfl rfl ?_
    refine v_assign rfl ?_
    refine v_nil ?_
    refine q_n ?_
    refine w_ret ?_
    refine r_r rfl ?_
    exact a_b (by rw [← hO]; simp only [Bool.false_eq_true, false_iff]; exact fun h => h2 h.1)
  have hn := cyS_nn (xs := xs) (b := b) (a := 0) (by decide)
  refine v_move rfl ?_
  refine v_guard_on rfl rfl ?_
  refine v_move rfl ?_
  refine v_guard_on rfl rfl ?_
  refine v_nil_vw rfl ?_
  refine v_guard_on rfl rfl ?_
  refine v_fa_vw (off' := 2) lay74 rfl rfl rfl ?_
  refine v_guard_on rfl rfl ?_
  refine v_load_vw (.c (.v _)) lay2 rfl rfl rfl ?_
  refine v_guard_on rfl rfl ?_
  refine v_move rfl ?_
  refine v_guard_on rfl rfl ?_
  refine v_sub lay2 rfl rfl (i64r (by omega)) ?_
  refine v_guard_on rfl rfl ?_
  refine v_callb (cIn _ _ _) rfl rfl (.cons vw_v (.cons vw_v (.cons vw_v .nil))) (fun h3 => ?_) (fun h3 => ?_)
  · refine v_pick_t rfl rfl ?_
    refine v_assign rfl ?_
    refine v_nil ?_
    refine q_n ?_
    refine w_ret ?_
    refine r_r rfl ?_
    exact a_b (by rw [← hO]; simp only [true_iff]; exact ⟨h2, h3⟩)
  refine v_pick_t rfl rfl ?_
  refine v_assign rfl ?_
  refine v_nil ?_
  refine q_n ?_
  refine w_ret ?_
  refine r_r rfl ?_
  exact a_b (by rw [← hO]; simp only [Bool.false_eq_true, false_iff]; exact fun h => h3 h.2)
end Go.VL
namespace Go.VL
open Go.RowKit
set_option maxRecDepth 20000
set_option maxHeartbeats 8000000
end Go.VL
namespace Go.VL
open Go.RowKit
set_option maxRecDepth 20000
set_option maxHeartbeats 8000000
theorem jnc_sc (j : Jn) : (jnc j).all sc = true := rfl
end Go.VL
namespace Go.VL
open Go.RowKit
set_option maxRecDepth 20000
set_option maxHeartbeats 8000000
/-- Marks of roads that are used, each once. -/
def usd : List Int → List Bool → Bool × List Bool
  | [], u => (true, u)
  | a :: r, u => if (0 ≤ a ∧ a ≤ (u.length : Int) - 1) ∧ u.getD a.toNat true = false then usd r (u.set a.toNat true) else (false, u)
theorem usd_at {xs : List Int} {v : List Bool} {i : Nat} (h : i < xs.length) : usd (xs.drop i) v = if (0 ≤ xs[i] ∧ xs[i] ≤ (v.length : Int) - 1) ∧ v.getD xs[i].toNat true = false then usd (xs.drop (i + 1)) (v.set xs[i].toNat true) else (false, v) := by
  rw [List.drop_eq_getElem_cons h, usd]
theorem usd_go {xs : List Int} {v : List Bool} {i : Nat} (h : i < xs.length) (h0 : 0 ≤ xs[i]) (hl : xs[i].toNat < v.length) (hb : v[xs[i].toNat] = false) : usd (xs.drop i) v = usd (xs.drop (i + 1)) (v.set xs[i].toNat true) := by
  rw [usd_at h, if_pos ⟨⟨h0, by omega⟩, by rw [List.getD_eq_getElem?_getD, List.getElem?_eq_getElem hl]; exact hb⟩]
theorem usd_n1 {xs : List Int} {v : List Bool} {i : Nat} (h : i < xs.length) (h0 : ¬ (0 ≤ xs[i] ∧ xs[i] ≤ (v.length : Int) - 1)) : usd (xs.drop i) v = (false, v) := by
  rw [usd_at h, if_neg fun hc => h0 hc.1]
theorem usd_n2 {xs : List Int} {v : List Bool} {i : Nat} (h : i < xs.length) (hl : xs[i].toNat < v.length) (hb : v[xs[i].toNat] = true) : usd (xs.drop i) v = (false, v) := by
  rw [usd_at h, if_neg fun hc => ?_]
  have := hc.2
  rw [List.getD_eq_getElem?_getD, List.getElem?_eq_getElem hl] at this
  rw [show v[xs[i].toNat] = false from this] at hb
  cases hb
theorem usd_len : ∀ {xs : List Int} {u : List Bool}, (usd xs u).2.length = u.length
  | [], u => rfl
  | a :: r, u => by
    unfold usd
    split
    · rw [usd_len, List.length_set]
    · rfl
theorem cUsd0 (xs : List Int) (u w : List Bool) (hx : xs.length ≤ 2 ^ 40) (hu : u.length ≤ 2 ^ 40) : DetC X 42 [.c (ints false xs), .c (.mu 0 0 u.length 1)] [⟨flat bo u, 4, true⟩, ⟨flat bo w, 4, true⟩] (cB (usd xs u).1) [⟨flat bo (usd xs u).2, 4, true⟩, ⟨flat bo w, 4, true⟩] := by
  refine GraphC.of_body (drawD_ok X) (fun _ _ => Go.Proofs.Try.call42 _ _) Go.Proofs.Try.func42 rfl (n := 36) rfl rfl ?_
  refine w_seq ?_
  refine w_reg rfl ?_
  refine v_assign (c := .v (.bool false)) rfl ?_
  refine v_nil ?_
  refine q_n ?_
  refine w_seq ?_
  refine w_seq ?_
  refine w_reg rfl ?_
  refine v_assign (c := .v (.int .i64 0)) rfl ?_
  refine v_nil ?_
  refine q_n ?_
  refine w_block ?_
  refine w_loop (fun k sl H => ∃ (i : Nat) (v : List Bool), k = xs.length - i ∧ i ≤ xs.length ∧ usd (xs.drop i) v = usd xs u ∧ v.length = u.length ∧ sl = sls [(0, .c (ints false xs)), (1, .c (.mu 0 0 u.length 1)), (5, cI i)] ∧ H = [⟨flat bo v, 4, true⟩, ⟨flat bo w, 4, true⟩]) ?_ ?_
  · refine ⟨_, _, _, ?_, 0, u, rfl, Nat.zero_le _, rfl, rfl, rfl, rfl⟩
    exact turn [some 0, some 1] rfl rfl rfl ⟨⟨_, rfl, trc_flat bo_sc rfl⟩, ⟨_, rfl, trc_flat bo_sc rfl⟩, trivial⟩ ⟨tr_sl, tr_mu rfl, tr_v, trivial⟩
  rintro k sl H ⟨i, v, rfl, hi, hp, hvl, rfl, rfl⟩
  refine w_seq ?_
  refine w_seq ?_
  refine w_reg rfl ?_
  refine v_move rfl ?_
  refine v_move rfl ?_
  refine v_len_sl lay51 rfl ?_
  refine v_lss lay3 rfl rfl (fun h1 => ?_) (fun h1 => ?_)
  rotate_left
  · refine v_nil ?_
    refine q_n ?_
    refine w_f rfl ?_
    refine w_exit ?_
    refine q_e ?_
    refine q_e ?_
    refine q_hit ?_
    refine q_n ?_
    refine w_seq ?_
    refine w_reg rfl ?_
    refine v_assign (c := .v (.bool true)) rfl ?_
    refine v_nil ?_
    refine q_n ?_
    refine w_ret ?_
    refine r_r rfl ?_
    have he : usd xs u = (true, v) := by
      rw [← hp]
      obtain rfl : i = xs.length := by omega
      rw [List.drop_length]
      rfl
    rw [he]
    exact g_ans (H1 := [⟨flat bo v, 4, true⟩, ⟨flat bo w, 4, true⟩]) [some 0, some 1] rfl rfl rfl ⟨(fun _ => ⟨_, rfl, trc_flat bo_sc rfl⟩), (fun _ => ⟨_, rfl, trc_flat bo_sc rfl⟩), trivial⟩ tr_v ⟨rfl, rfl⟩
  have hi1 : i < xs.length := by omega
  refine v_nil ?_
  refine q_n ?_
  refine w_t rfl ?_
  refine w_skip ?_
  refine q_n ?_
  refine w_seq ?_
  refine w_block ?_
  refine w_seq ?_
  refine w_seq ?_
  refine w_reg rfl ?_
  refine v_move rfl ?_
  refine v_move rfl ?_
  refine v_idx_e (k := 1) (i) int_len lay51 lay2 rfl rfl rfl (rfl) rfl (rfl) (hi1) ?_
  refine v_load_vw (.c (.v _)) lay2 rfl rfl rfl ?_
  refine v_move rfl ?_
  refine v_len_mu lay64 rfl ?_
  refine v_sub lay2 rfl rfl (i64r (by omega)) ?_
  refine v_callb (cIn _ _ _) rfl rfl (.cons vw_v (.cons vw_v (.cons vw_v .nil))) (fun h3 => ?_) (fun h3 => ?_)
  rotate_left
  · have hnr := h3
    refine v_not true rfl rfl ?_
    refine v_move rfl ?_
    refine v_guard_off rfl rfl rfl ?_
    refine v_guard_off rfl rfl rfl ?_
    refine v_guard_off rfl rfl rfl ?_
    refine v_guard_off rfl rfl rfl ?_
    refine v_guard_off rfl rfl rfl ?_
    refine v_guard_off rfl rfl rfl ?_
    refine v_guard_off rfl rfl rfl ?_
    refine v_pick_t (v := .v (.bool true)) rfl rfl ?_
    refine v_nil ?_
    refine q_n ?_
    refine w_t rfl ?_
    refine w_seq ?_
    refine w_reg rfl ?_
    refine v_assign (c := .v (.bool false)) rfl ?_
    refine v_nil ?_
    refine q_n ?_
    refine w_ret (q_r (q_br (q_r (q_r (q_br (q_r ?_))))))
    refine r_r rfl ?_
    have he : usd xs u = (false, v) := by
      rw [← hp]
      exact usd_n1 hi1 (by omega)
    rw [he]
    exact g_ans (H1 := [⟨flat bo v, 4, true⟩, ⟨flat bo w, 4, true⟩]) [some 0, some 1] rfl rfl rfl ⟨(fun _ => ⟨_, rfl, trc_flat bo_sc rfl⟩), (fun _ => ⟨_, rfl, trc_flat bo_sc rfl⟩), trivial⟩ tr_v ⟨rfl, rfl⟩
  have hlt : xs[i].toNat < u.length := by omega
  have het : xs[i] = (xs[i].toNat : Int) := by omega
  have hlv : xs[i].toNat < v.length := by omega
  refine v_not false rfl rfl ?_
  refine v_move rfl ?_
  refine v_guard_on rfl rfl ?_
  refine v_move rfl ?_
  refine v_guard_on rfl rfl ?_
  refine v_move rfl ?_
  refine v_guard_on rfl rfl ?_
  refine v_move rfl ?_
  refine v_guard_on rfl rfl ?_
  refine v_idx_e (k := 1) (i) int_len lay51 lay2 rfl rfl rfl (rfl) rfl (rfl) (hi1) ?_
  refine v_guard_on rfl rfl ?_
  refine v_load_vw (.c (.v _)) lay2 rfl rfl rfl ?_
  refine v_guard_on rfl rfl ?_
  refine v_idx_mu_e (k := 1) (off := 0) (xs[i].toNat) lay64 lay4 rfl rfl rfl (het) (hlt) ?_
  refine v_guard_on rfl rfl ?_
  refine v_load_flatb (enc := bo) (ys := v) xs[i].toNat 0 bo_len lay4 rfl rfl (by omega) hlv (by decide) rfl (fun h6 => ?_) (fun h6 => ?_)
  · have hbt := h6
    refine v_pick_f rfl rfl ?_
    refine v_nil ?_
    refine q_n ?_
    refine w_t rfl ?_
    refine w_seq ?_
    refine w_reg rfl ?_
    refine v_assign (c := .v (.bool false)) rfl ?_
    refine v_nil ?_
    refine q_n ?_
    refine w_ret (q_r (q_br (q_r (q_r (q_br (q_r ?_))))))
    refine r_r rfl ?_
    have he : usd xs u = (false, v) := by
      rw [← hp]
      exact usd_n2 hi1 hlv hbt
    rw [he]
    exact g_ans (H1 := [⟨flat bo v, 4, true⟩, ⟨flat bo w, 4, true⟩]) [some 0, some 1] rfl rfl rfl ⟨(fun _ => ⟨_, rfl, trc_flat bo_sc rfl⟩), (fun _ => ⟨_, rfl, trc_flat bo_sc rfl⟩), trivial⟩ tr_v ⟨rfl, rfl⟩
  have hbf := h6
  refine v_pick_f rfl rfl ?_
  refine v_nil ?_
  refine q_n ?_
  refine w_f rfl ?_
  refine w_skip ?_
  refine q_n ?_
  refine w_reg rfl ?_
  refine v_move rfl ?_
  refine v_move rfl ?_
  refine v_move rfl ?_
  refine v_idx_e (k := 1) (i) int_len lay51 lay2 rfl rfl rfl (rfl) rfl (rfl) (hi1) ?_
  refine v_load_vw (.c (.v _)) lay2 rfl rfl rfl ?_
  refine v_idx_mu_e (k := 1) (off := 0) (xs[i].toNat) lay64 lay4 rfl rfl rfl (het) (hlt) ?_
  refine v_store_flat (H' := [_, _]) xs[i].toNat 0 (true) bo_len lay4 rfl rfl rfl (by omega) (hlv) rfl rfl (rfl) rfl ?_
  refine v_nil ?_
  refine q_bn ?_
  refine q_n ?_
  refine w_reg rfl ?_
  refine v_move rfl ?_
  refine v_add lay3 rfl rfl (i64r (by omega)) ?_
  refine v_assign rfl ?_
  refine v_nil ?_
  refine q_n ?_
  rw [usd_go hi1 (by omega) hlv hbf] at hp
  refine ⟨_, _, _, ?_, ⟨i + 1, v.set xs[i].toNat true, rfl, by omega, hp, by rw [List.length_set]; exact hvl, rfl, rfl⟩, by omega⟩
  exact turn [some 0, some 1] rfl rfl rfl ⟨⟨_, rfl, trc_flat bo_sc rfl⟩, ⟨_, rfl, trc_flat bo_sc rfl⟩, trivial⟩ ⟨tr_sl, tr_mu rfl, tr_v, trivial⟩
theorem cUsd1 (xs : List Int) (u w : List Bool) (hx : xs.length ≤ 2 ^ 40) (hu : u.length ≤ 2 ^ 40) : DetC X 42 [.c (ints false xs), .c (.mu 1 0 u.length 1)] [⟨flat bo w, 4, true⟩, ⟨flat bo u, 4, true⟩] (cB (usd xs u).1) [⟨flat bo w, 4, true⟩, ⟨flat bo (usd xs u).2, 4, true⟩] := by
  refine GraphC.of_body (drawD_ok X) (fun _ _ => Go.Proofs.Try.call42 _ _) Go.Proofs.Try.func42 rfl (n := 36) rfl rfl ?_
  refine w_seq ?_
  refine w_reg rfl ?_
  refine v_assign (c := .v (.bool false)) rfl ?_
  refine v_nil ?_
  refine q_n ?_
  refine w_seq ?_
  refine w_seq ?_
  refine w_reg rfl ?_
  refine v_assign (c := .v (.int .i64 0)) rfl ?_
  refine v_nil ?_
  refine q_n ?_
  refine w_block ?_
  refine w_loop (fun k sl H => ∃ (i : Nat) (v : List Bool), k = xs.length - i ∧ i ≤ xs.length ∧ usd (xs.drop i) v = usd xs u ∧ v.length = u.length ∧ sl = sls [(0, .c (ints false xs)), (1, .c (.mu 1 0 u.length 1)), (5, cI i)] ∧ H = [⟨flat bo w, 4, true⟩, ⟨flat bo v, 4, true⟩]) ?_ ?_
  · refine ⟨_, _, _, ?_, 0, u, rfl, Nat.zero_le _, rfl, rfl, rfl, rfl⟩
    exact turn [some 0, some 1] rfl rfl rfl ⟨⟨_, rfl, trc_flat bo_sc rfl⟩, ⟨_, rfl, trc_flat bo_sc rfl⟩, trivial⟩ ⟨tr_sl, tr_mu rfl, tr_v, trivial⟩
  rintro k sl H ⟨i, v, rfl, hi, hp, hvl, rfl, rfl⟩
  refine w_seq ?_
  refine w_seq ?_
  refine w_reg rfl ?_
  refine v_move rfl ?_
  refine v_move rfl ?_
  refine v_len_sl lay51 rfl ?_
  refine v_lss lay3 rfl rfl (fun h1 => ?_) (fun h1 => ?_)
  rotate_left
  · refine v_nil ?_
    refine q_n ?_
    refine w_f rfl ?_
    refine w_exit ?_
    refine q_e ?_
    refine q_e ?_
    refine q_hit ?_
    refine q_n ?_
    refine w_seq ?_
    refine w_reg rfl ?_
    refine v_assign (c := .v (.bool true)) rfl ?_
    refine v_nil ?_
    refine q_n ?_
    refine w_ret ?_
    refine r_r rfl ?_
    have he : usd xs u = (true, v) := by
      rw [← hp]
      obtain rfl : i = xs.length := by omega
      rw [List.drop_length]
      rfl
    rw [he]
    exact g_ans (H1 := [⟨flat bo w, 4, true⟩, ⟨flat bo v, 4, true⟩]) [some 0, some 1] rfl rfl rfl ⟨(fun _ => ⟨_, rfl, trc_flat bo_sc rfl⟩), (fun _ => ⟨_, rfl, trc_flat bo_sc rfl⟩), trivial⟩ tr_v ⟨rfl, rfl⟩
  have hi1 : i < xs.length := by omega
  refine v_nil ?_
  refine q_n ?_
  refine w_t rfl ?_
  refine w_skip ?_
  refine q_n ?_
  refine w_seq ?_
  refine w_block ?_
  refine w_seq ?_
  refine w_seq ?_
  refine w_reg rfl ?_
  refine v_move rfl ?_
  refine v_move rfl ?_
  refine v_idx_e (k := 1) (i) int_len lay51 lay2 rfl rfl rfl (rfl) rfl (rfl) (hi1) ?_
  refine v_load_vw (.c (.v _)) lay2 rfl rfl rfl ?_
  refine v_move rfl ?_
  refine v_len_mu lay64 rfl ?_
  refine v_sub lay2 rfl rfl (i64r (by omega)) ?_
  refine v_callb (cIn _ _ _) rfl rfl (.cons vw_v (.cons vw_v (.cons vw_v .nil))) (fun h3 => ?_) (fun h3 => ?_)
  rotate_left
  · have hnr := h3
    refine v_not true rfl rfl ?_
    refine v_move rfl ?_
    refine v_guard_off rfl rfl rfl ?_
    refine v_guard_off rfl rfl rfl ?_
    refine v_guard_off rfl rfl rfl ?_
    refine v_guard_off rfl rfl rfl ?_
    refine v_guard_off rfl rfl rfl ?_
    refine v_guard_off rfl rfl rfl ?_
    refine v_guard_off rfl rfl rfl ?_
    refine v_pick_t (v := .v (.bool true)) rfl rfl ?_
    refine v_nil ?_
    refine q_n ?_
    refine w_t rfl ?_
    refine w_seq ?_
    refine w_reg rfl ?_
    refine v_assign (c := .v (.bool false)) rfl ?_
    refine v_nil ?_
    refine q_n ?_
    refine w_ret (q_r (q_br (q_r (q_r (q_br (q_r ?_))))))
    refine r_r rfl ?_
    have he : usd xs u = (false, v) := by
      rw [← hp]
      exact usd_n1 hi1 (by omega)
    rw [he]
    exact g_ans (H1 := [⟨flat bo w, 4, true⟩, ⟨flat bo v, 4, true⟩]) [some 0, some 1] rfl rfl rfl ⟨(fun _ => ⟨_, rfl, trc_flat bo_sc rfl⟩), (fun _ => ⟨_, rfl, trc_flat bo_sc rfl⟩), trivial⟩ tr_v ⟨rfl, rfl⟩
  have hlt : xs[i].toNat < u.length := by omega
  have het : xs[i] = (xs[i].toNat : Int) := by omega
  have hlv : xs[i].toNat < v.length := by omega
  refine v_not false rfl rfl ?_
  refine v_move rfl ?_
  refine v_guard_on rfl rfl ?_
  refine v_move rfl ?_
  refine v_guard_on rfl rfl ?_
  refine v_move rfl ?_
  refine v_guard_on rfl rfl ?_
  refine v_move rfl ?_
  refine v_guard_on rfl rfl ?_
  refine v_idx_e (k := 1) (i) int_len lay51 lay2 rfl rfl rfl (rfl) rfl (rfl) (hi1) ?_
  refine v_guard_on rfl rfl ?_
  refine v_load_vw (.c (.v _)) lay2 rfl rfl rfl ?_
  refine v_guard_on rfl rfl ?_
  refine v_idx_mu_e (k := 1) (off := 0) (xs[i].toNat) lay64 lay4 rfl rfl rfl (het) (hlt) ?_
  refine v_guard_on rfl rfl ?_
  refine v_load_flatb (enc := bo) (ys := v) xs[i].toNat 0 bo_len lay4 rfl rfl (by omega) hlv (by decide) rfl (fun h6 => ?_) (fun h6 => ?_)
  · have hbt := h6
    refine v_pick_f rfl rfl ?_
    refine v_nil ?_
    refine q_n ?_
    refine w_t rfl ?_
    refine w_seq ?_
    refine w_reg rfl ?_
    refine v_assign (c := .v (.bool false)) rfl ?_
    refine v_nil ?_
    refine q_n ?_
    refine w_ret (q_r (q_br (q_r (q_r (q_br (q_r ?_))))))
    refine r_r rfl ?_
    have he : usd xs u = (false, v) := by
      rw [← hp]
      exact usd_n2 hi1 hlv hbt
    rw [he]
    exact g_ans (H1 := [⟨flat bo w, 4, true⟩, ⟨flat bo v, 4, true⟩]) [some 0, some 1] rfl rfl rfl ⟨(fun _ => ⟨_, rfl, trc_flat bo_sc rfl⟩), (fun _ => ⟨_, rfl, trc_flat bo_sc rfl⟩), trivial⟩ tr_v ⟨rfl, rfl⟩
  have hbf := h6
  refine v_pick_f rfl rfl ?_
  refine v_nil ?_
  refine q_n ?_
  refine w_f rfl ?_
  refine w_skip ?_
  refine q_n ?_
  refine w_reg rfl ?_
  refine v_move rfl ?_
  refine v_move rfl ?_
  refine v_move rfl ?_
  refine v_idx_e (k := 1) (i) int_len lay51 lay2 rfl rfl rfl (rfl) rfl (rfl) (hi1) ?_
  refine v_load_vw (.c (.v _)) lay2 rfl rfl rfl ?_
  refine v_idx_mu_e (k := 1) (off := 0) (xs[i].toNat) lay64 lay4 rfl rfl rfl (het) (hlt) ?_
  refine v_store_flat (H' := [_, _]) xs[i].toNat 0 (true) bo_len lay4 rfl rfl rfl (by omega) (hlv) rfl rfl (rfl) rfl ?_
  refine v_nil ?_
  refine q_bn ?_
  refine q_n ?_
  refine w_reg rfl ?_
  refine v_move rfl ?_
  refine v_add lay3 rfl rfl (i64r (by omega)) ?_
  refine v_assign rfl ?_
  refine v_nil ?_
  refine q_n ?_
  rw [usd_go hi1 (by omega) hlv hbf] at hp
  refine ⟨_, _, _, ?_, ⟨i + 1, v.set xs[i].toNat true, rfl, by omega, hp, by rw [List.length_set]; exact hvl, rfl, rfl⟩, by omega⟩
  exact turn [some 0, some 1] rfl rfl rfl ⟨⟨_, rfl, trc_flat bo_sc rfl⟩, ⟨_, rfl, trc_flat bo_sc rfl⟩, trivial⟩ ⟨tr_sl, tr_mu rfl, tr_v, trivial⟩
end Go.VL
namespace Go.VL
open Go.RowKit
set_option maxRecDepth 20000
set_option maxHeartbeats 8000000
def jPre (j : Jo) : Prop := jnOk j.1 ∧ (j.2.1.length : Int) = j.1.1 ∧ (j.2.2.1.length : Int) = j.1.2.1
instance (j : Jo) : Decidable (jPre j) := by unfold jPre; infer_instance
/-- Which roads are ins, and which are outs; and whether joints are as told. -/
def ends (np : Nat) : List Jo → List Bool → List Bool → List Bool × List Bool × Bool
  | [], a, b => (a, b, true)
  | j :: r, a, b => if jPre j then (if (usd j.2.1 a).1 = true then (if (usd j.2.2.1 b).1 = true then (if -1 ≤ j.2.2.2 ∧ j.2.2.2 ≤ (np : Int) - 1 then ends np r (usd j.2.1 a).2 (usd j.2.2.1 b).2 else ((usd j.2.1 a).2, (usd j.2.2.1 b).2, false)) else ((usd j.2.1 a).2, (usd j.2.2.1 b).2, false)) else ((usd j.2.1 a).2, b, false)) else (a, b, false)
section
variable {np : Nat} {js : List Jo} {a b : List Bool} {i : Nat} (h : i < js.length)
include h
theorem ends_at : ends np (js.drop i) a b = if jPre js[i] then (if (usd js[i].2.1 a).1 = true then (if (usd js[i].2.2.1 b).1 = true then (if -1 ≤ js[i].2.2.2 ∧ js[i].2.2.2 ≤ (np : Int) - 1 then ends np (js.drop (i + 1)) (usd js[i].2.1 a).2 (usd js[i].2.2.1 b).2 else ((usd js[i].2.1 a).2, (usd js[i].2.2.1 b).2, false)) else ((usd js[i].2.1 a).2, (usd js[i].2.2.1 b).2, false)) else ((usd js[i].2.1 a).2, b, false)) else (a, b, false) := by
  rw [List.drop_eq_getElem_cons h, ends]
theorem ends_0 (h0 : ¬ jPre js[i]) : ends np (js.drop i) a b = (a, b, false) := by rw [ends_at h, if_neg h0]
theorem ends_1 (h0 : jPre js[i]) (h1 : ¬ (usd js[i].2.1 a).1 = true) : ends np (js.drop i) a b = ((usd js[i].2.1 a).2, b, false) := by rw [ends_at h, if_pos h0, if_neg h1]
theorem ends_2 (h0 : jPre js[i]) (h1 : (usd js[i].2.1 a).1 = true) (h2 : ¬ (usd js[i].2.2.1 b).1 = true) : ends np (js.drop i) a b = ((usd js[i].2.1 a).2, (usd js[i].2.2.1 b).2, false) := by rw [ends_at h, if_pos h0, if_pos h1, if_neg h2]
theorem ends_3 (h0 : jPre js[i]) (h1 : (usd js[i].2.1 a).1 = true) (h2 : (usd js[i].2.2.1 b).1 = true) (h3 : ¬ (-1 ≤ js[i].2.2.2 ∧ js[i].2.2.2 ≤ (np : Int) - 1)) : ends np (js.drop i) a b = ((usd js[i].2.1 a).2, (usd js[i].2.2.1 b).2, false) := by rw [ends_at h, if_pos h0, if_pos h1, if_pos h2, if_neg h3]
theorem ends_4 (h0 : jPre js[i]) (h1 : (usd js[i].2.1 a).1 = true) (h2 : (usd js[i].2.2.1 b).1 = true) (h3 : -1 ≤ js[i].2.2.2 ∧ js[i].2.2.2 ≤ (np : Int) - 1) : ends np (js.drop i) a b = ends np (js.drop (i + 1)) (usd js[i].2.1 a).2 (usd js[i].2.2.1 b).2 := by rw [ends_at h, if_pos h0, if_pos h1, if_pos h2, if_pos h3]
end
theorem usd0 {xs : List Int} {u w : List Bool} {m : Nat} (hx : xs.length ≤ 2 ^ 40) (hu : u.length = m) (hm : m ≤ 2 ^ 40) {b : Bool} (hb : (usd xs u).1 = b) : DetC X 42 [.c (ints false xs), .c (.mu 0 0 m 1)] [⟨flat bo u, 4, true⟩, ⟨flat bo w, 4, true⟩] (cB b) [⟨flat bo (usd xs u).2, 4, true⟩, ⟨flat bo w, 4, true⟩] := by
  subst hu hb
  exact cUsd0 xs u w hx hm
theorem usd1 {xs : List Int} {u w : List Bool} {m : Nat} (hx : xs.length ≤ 2 ^ 40) (hu : u.length = m) (hm : m ≤ 2 ^ 40) {b : Bool} (hb : (usd xs u).1 = b) : DetC X 42 [.c (ints false xs), .c (.mu 1 0 m 1)] [⟨flat bo w, 4, true⟩, ⟨flat bo u, 4, true⟩] (cB b) [⟨flat bo w, 4, true⟩, ⟨flat bo (usd xs u).2, 4, true⟩] := by
  subst hu hb
  exact cUsd1 xs u w hx hm
theorem cEnds (t : Tw) (hB : tB (2 ^ 20) t) (hF : tF t) : PureC X 29 [.c (.vw false (twf true t) 0)] (.tup [.c (bls true (ends t.2.2.2.1.length t.2.2.1 (List.replicate t.1.length false) (List.replicate t.1.length false)).1), .c (bls true (ends t.2.2.2.1.length t.2.2.1 (List.replicate t.1.length false) (List.replicate t.1.length false)).2.1), cB (ends t.2.2.2.1.length t.2.2.1 (List.replicate t.1.length false) (List.replicate t.1.length false)).2.2]) := by
  refine PureC.of_body (drawD_ok X) (fun _ _ => Go.Proofs.Try.call29 _ _) Go.Proofs.Try.func29 rfl (n := 103) rfl ?_
  refine w_seq ?_
  refine w_reg rfl ?_
  refine v_assign rfl ?_
  refine v_assign rfl ?_
  refine v_assign (c := .v (.bool false)) rfl ?_
  refine v_nil ?_
  refine q_n ?_
  refine w_seq ?_
  refine w_reg rfl ?_
  refine v_move rfl ?_
  refine v_nil_vw rfl ?_
  refine v_fa_vw (off' := 0) lay28 rfl rfl rfl ?_
  refine v_load_vw (.c (_)) lay23 rfl rfl rfl ?_
  refine v_len_sl lay23 rfl ?_
  refine v_make (enc := bo) (a0 := false) (m := 0) (H' := [_]) rfl lay64 lay4 rfl rfl rfl rfl (t.1.length) (rfl) (by have := hB.1; unfold maxLen; simp only []; omega) rfl rfl ?_
  refine v_assign rfl ?_
  refine v_nil ?_
  refine q_n ?_
  refine w_seq ?_
  refine w_reg rfl ?_
  refine v_move rfl ?_
  refine v_nil_vw rfl ?_
  refine v_fa_vw (off' := 0) lay28 rfl rfl rfl ?_
  refine v_load_vw (.c (_)) lay23 rfl rfl rfl ?_
  refine v_len_sl lay23 rfl ?_
  refine v_make (enc := bo) (a0 := false) (m := 1) (H' := [_, _]) rfl lay64 lay4 rfl rfl rfl rfl (t.1.length) (rfl) (by have := hB.1; unfold maxLen; simp only []; omega) rfl rfl ?_
  refine v_assign rfl ?_
  refine v_nil ?_
  refine q_n ?_
  refine w_seq ?_
  refine w_seq ?_
  refine w_reg rfl ?_
  refine v_assign (c := .v (.int .i64 0)) rfl ?_
  refine v_nil ?_
  refine q_n ?_
  refine w_block ?_
  refine w_loop (fun k sl H => ∃ (i : Nat) (a b : List Bool), k = t.2.2.1.length - i ∧ i ≤ t.2.2.1.length ∧ ends t.2.2.2.1.length (t.2.2.1.drop i) a b = ends t.2.2.2.1.length t.2.2.1 (List.replicate t.1.length false) (List.replicate t.1.length false) ∧ a.length = t.1.length ∧ b.length = t.1.length ∧ sl = sls [(0, .c (.vw false (twf true t) 0)), (5, .c (.mu 0 0 t.1.length 1)), (6, .c (.mu 1 0 t.1.length 1)), (7, cI i)] ∧ H = [⟨flat bo a, 4, true⟩, ⟨flat bo b, 4, true⟩]) ?_ ?_
  · refine ⟨_, _, _, ?_, 0, List.replicate t.1.length false, List.replicate t.1.length false, rfl, Nat.zero_le _, rfl, by simp, by simp, rfl, rfl⟩
    exact turn [some 0, some 1] rfl rfl rfl ⟨⟨_, rfl, trc_flat bo_sc rfl⟩, ⟨_, rfl, trc_flat bo_sc rfl⟩, trivial⟩ ⟨tr_vw, tr_mu rfl, tr_mu rfl, tr_v, trivial⟩
  rintro k sl H ⟨i, a, b, rfl, hi, hp, ha, hb, rfl, rfl⟩
  refine w_seq ?_
  refine w_seq ?_
  refine w_reg rfl ?_
  refine v_move rfl ?_
  refine v_move rfl ?_
  refine v_nil_vw rfl ?_
  refine v_fa_vw (off' := 2) lay28 rfl rfl rfl ?_
  refine v_load_vw (.c (_)) lay25 rfl rfl rfl ?_
  refine v_len_sl lay25 rfl ?_
  refine v_lss lay3 rfl rfl (fun h1 => ?_) (fun h1 => ?_)
  rotate_left
  · refine v_nil ?_
    refine q_n ?_
    refine w_f rfl ?_
    refine w_exit ?_
    refine q_e ?_
    refine q_e ?_
    refine q_hit ?_
    refine q_n ?_
    refine w_seq ?_
    refine w_reg rfl ?_
    refine v_move rfl ?_
    refine v_move rfl ?_
    refine v_assign rfl ?_
    refine v_assign rfl ?_
    refine v_assign (c := .v (.bool true)) rfl ?_
    refine v_nil ?_
    refine q_n ?_
    refine w_ret ?_
    refine r_r rfl ?_
    have he : ends t.2.2.2.1.length t.2.2.1 (List.replicate t.1.length false) (List.replicate t.1.length false) = (a, b, true) := by
      rw [← hp]
      obtain rfl : i = t.2.2.1.length := by omega
      rw [List.drop_length]
      rfl
    rw [he]
    exact a_tup (.cons (a_flat2 bo_sc bo_len rfl rfl ha.symm ha) (.cons (a_flat2 bo_sc bo_len rfl rfl hb.symm hb) (.cons tr_v .nil)))
  have hi1 : i < t.2.2.1.length := by omega
  have hbl := hB.2.2.2.1 _ (List.getElem_mem hi1)
  refine v_nil ?_
  refine q_n ?_
  refine w_t rfl ?_
  refine w_skip ?_
  refine q_n ?_
  refine w_seq ?_
  refine w_block ?_
  refine w_seq ?_
  refine w_reg rfl ?_
  refine v_move rfl ?_
  refine v_nil_vw rfl ?_
  refine v_fa_vw (off' := 2) lay28 rfl rfl rfl ?_
  refine v_load_vw (.c (_)) lay25 rfl rfl rfl ?_
  refine v_move rfl ?_
  refine v_idx_e (k := 25) (i) joc_len lay25 lay53 rfl rfl rfl (rfl) rfl (rfl) (hi1) ?_
  refine v_assign rfl ?_
  refine v_nil ?_
  refine q_n ?_
  refine w_seq ?_
  refine w_draw [0, 1, 3, 7, 15, 31, 63, 127, 255, 511, 1023, 63, 2111, 6207, 14399, 30783, 65535, 131071, 262143, 524287, 1048575, 2097151, 4194303, 8388607, 524287, 17301503, 50855935, 117964799, 252182527, 536870911, 1073741823, 2147483647, 4294967295, 8589934591, 17179869183, 34359738367, 4294967295, 137438953471, 274877906943, 549755813887, 1099511627775, 2199023255551, 4398046511103, 8796093022207, 17592186044415, 2199023255551, 70368744177663, 140737488355327, 281474976710655, 562949953421311, 1125899906842623, 2251799813685247, 4503599627370495, 9007199254740991, 1125899906842623, 19140298416324607, 55169095435288575, 127226689473216511, 271341877549072383, 559572253700784127, 1152921504606846975, 2305843009213693951, 4611686018427387903] [⟨0, 0, []⟩, ⟨1, 0, []⟩, ⟨2, 0, []⟩, ⟨3, 0, []⟩, ⟨4, 0, []⟩, ⟨5, 0, []⟩, ⟨6, 0, []⟩, ⟨7, 0, []⟩, ⟨8, 0, []⟩, ⟨9, 0, []⟩, ⟨10, 0, []⟩, ⟨11, 0, []⟩, ⟨12, 0, []⟩, ⟨13, 0, []⟩, ⟨14, 0, []⟩, ⟨15, 0, []⟩, ⟨16, 0, []⟩, ⟨17, 0, []⟩, ⟨18, 0, []⟩, ⟨19, 0, []⟩, ⟨20, 0, []⟩, ⟨21, 0, []⟩, ⟨22, 0, []⟩, ⟨23, 0, []⟩, ⟨24, 0, []⟩, ⟨25, 0, []⟩, ⟨26, 0, []⟩, ⟨27, 0, []⟩, ⟨28, 0, []⟩, ⟨29, 0, []⟩, ⟨30, 0, []⟩, ⟨31, 0, []⟩, ⟨32, 0, []⟩, ⟨33, 0, []⟩, ⟨34, 0, []⟩, ⟨35, 0, []⟩, ⟨36, 0, []⟩, ⟨37, 1, []⟩, ⟨38, 0, []⟩, ⟨39, 0, []⟩, ⟨40, 0, []⟩, ⟨41, 0, []⟩, ⟨42, 0, []⟩, ⟨43, 0, []⟩, ⟨44, 0, []⟩, ⟨45, 0, []⟩, ⟨46, 1, []⟩, ⟨47, 0, []⟩, ⟨48, 0, []⟩, ⟨49, 0, []⟩, ⟨50, 0, []⟩, ⟨51, 0, []⟩, ⟨52, 0, []⟩, ⟨53, 0, []⟩, ⟨54, 0, []⟩, ⟨55, 0, []⟩, ⟨56, 0, []⟩, ⟨57, 0, []⟩, ⟨58, 0, []⟩, ⟨59, 0, []⟩, ⟨60, 0, []⟩, ⟨61, 0, []⟩, ⟨62, 0, []⟩] rfl rfl ?_
  refine d_q rfl rfl rfl rfl rfl ?_
  refine v_move rfl ?_
  refine v_nil ?_
  refine d_q rfl rfl rfl rfl rfl ?_
  refine v_nil_vw rfl ?_
  refine v_nil ?_
  refine d_q rfl rfl rfl rfl rfl ?_
  refine v_fa_vw (off' := 0) lay53 rfl rfl rfl ?_
  refine v_nil ?_
  refine d_callb (cJnS t.2.2.1[i].1 [.sl true t.2.2.1[i].2.1.length 1 (flat int t.2.2.1[i].2.1), .sl true t.2.2.1[i].2.2.1.length 1 (flat int t.2.2.1[i].2.2.1), .v (.int .i64 t.2.2.1[i].2.2.2)] (hF.2.2.1 _ (List.getElem_mem hi1))) rfl rfl rfl rfl (.cons vw_vw .nil) (fun h3 => ?_) (fun h3 => ?_)
  rotate_left
  · have hjn := h3
    refine d_q rfl rfl rfl rfl rfl ?_
    refine v_not true rfl rfl ?_
    refine v_nil ?_
    refine d_q rfl rfl rfl rfl rfl ?_
    refine v_move rfl ?_
    refine v_nil ?_
    refine d_off rfl rfl ?_
    refine d_off rfl rfl ?_
    refine d_off rfl rfl ?_
    refine d_off rfl rfl ?_
    refine d_off rfl rfl ?_
    refine d_off rfl rfl ?_
    refine d_off rfl rfl ?_
    refine d_off rfl rfl ?_
    refine d_off rfl rfl ?_
    refine d_off rfl rfl ?_
    refine d_off rfl rfl ?_
    refine d_q rfl rfl rfl rfl rfl ?_
    refine v_pick_t (v := .v (.bool true)) rfl rfl ?_
    refine v_nil ?_
    refine d_q rfl rfl rfl rfl rfl ?_
    refine v_move rfl ?_
    refine v_nil ?_
    refine d_off rfl rfl ?_
    refine d_off rfl rfl ?_
    refine d_off rfl rfl ?_
    refine d_off rfl rfl ?_
    refine d_off rfl rfl ?_
    refine d_off rfl rfl ?_
    refine d_off rfl rfl ?_
    refine d_off rfl rfl ?_
    refine d_off rfl rfl ?_
    refine d_off rfl rfl ?_
    refine d_off rfl rfl ?_
    refine d_q rfl rfl rfl rfl rfl ?_
    refine v_pick_t (v := .v (.bool true)) rfl rfl ?_
    refine v_nil ?_
    refine d_q rfl rfl rfl rfl rfl ?_
    refine v_move rfl ?_
    refine v_nil ?_
    refine d_off rfl rfl ?_
    refine d_off rfl rfl ?_
    refine d_off rfl rfl ?_
    refine d_off rfl rfl ?_
    refine d_off rfl rfl ?_
    refine d_off rfl rfl ?_
    refine d_off rfl rfl ?_
    refine d_q rfl rfl rfl rfl rfl ?_
    refine v_pick_t (v := .v (.bool true)) rfl rfl ?_
    refine v_nil ?_
    refine d_q rfl rfl rfl rfl rfl ?_
    refine v_move rfl ?_
    refine v_nil ?_
    refine d_off rfl rfl ?_
    refine d_off rfl rfl ?_
    refine d_off rfl rfl ?_
    refine d_off rfl rfl ?_
    refine d_off rfl rfl ?_
    refine d_off rfl rfl ?_
    refine d_off rfl rfl ?_
    refine d_q rfl rfl rfl rfl rfl ?_
    refine v_pick_t (v := .v (.bool true)) rfl rfl ?_
    refine v_nil ?_
    refine d_q rfl rfl rfl rfl rfl ?_
    refine v_move rfl ?_
    refine v_nil ?_
    refine d_off rfl rfl ?_
    refine d_off rfl rfl ?_
    refine d_off rfl rfl ?_
    refine d_off rfl rfl ?_
    refine d_off rfl rfl ?_
    refine d_off rfl rfl ?_
    refine d_off rfl rfl ?_
    refine d_off rfl rfl ?_
    refine d_off rfl rfl ?_
    refine d_off rfl rfl ?_
    refine d_off rfl rfl ?_
    refine d_off rfl rfl ?_
    refine d_q rfl rfl rfl rfl rfl ?_
    refine v_pick_t (v := .v (.bool true)) rfl rfl ?_
    refine v_nil ?_
    refine d_nil ?_
    refine q_n ?_
    refine w_t rfl ?_
    refine w_seq ?_
    refine w_reg rfl ?_
    refine v_move rfl ?_
    refine v_move rfl ?_
    refine v_assign rfl ?_
    refine v_assign rfl ?_
    refine v_assign (c := .v (.bool false)) rfl ?_
    refine v_nil ?_
    refine q_n ?_
    refine w_ret (q_br (q_r (q_r (q_br (q_r ?_)))))
    refine r_r rfl ?_
    have he : ends t.2.2.2.1.length t.2.2.1 (List.replicate t.1.length false) (List.replicate t.1.length false) = (a, b, false) := by
      rw [← hp]
      exact ends_0 hi1 fun h => hjn h.1
    rw [he]
    exact a_tup (.cons (a_flat2 bo_sc bo_len rfl rfl ha.symm ha) (.cons (a_flat2 bo_sc bo_len rfl rfl hb.symm hb) (.cons tr_v .nil)))
  have hjn := h3
  refine d_q rfl rfl rfl rfl rfl ?_
  refine v_not false rfl rfl ?_
  refine v_nil ?_
  refine d_q rfl rfl rfl rfl rfl ?_
  refine v_move rfl ?_
  refine v_nil ?_
  refine d_q rfl rfl rfl rfl rfl ?_
  refine v_move rfl ?_
  refine v_nil ?_
  refine d_q rfl rfl rfl rfl rfl ?_
  refine v_nil_vw rfl ?_
  refine v_nil ?_
  refine d_q rfl rfl rfl rfl rfl ?_
  refine v_fa_vw (off' := 22) lay53 rfl rfl rfl ?_
  refine v_nil ?_
  refine d_q rfl rfl rfl rfl rfl ?_
  refine v_load_vw (.c (_)) lay51 rfl rfl rfl ?_
  refine v_nil ?_
  refine d_q rfl rfl rfl rfl rfl ?_
  refine v_len_sl lay51 rfl ?_
  refine v_nil ?_
  refine d_q rfl rfl rfl rfl rfl ?_
  refine v_move rfl ?_
  refine v_nil ?_
  refine d_q rfl rfl rfl rfl rfl ?_
  refine v_nil_vw rfl ?_
  refine v_nil ?_
  refine d_q rfl rfl rfl rfl rfl ?_
  refine v_fa_vw (off' := 0) lay53 rfl rfl rfl ?_
  refine v_nil ?_
  refine d_q rfl rfl rfl rfl rfl ?_
  refine v_fa_vw (off' := 0) lay49 rfl rfl rfl ?_
  refine v_nil ?_
  refine d_q rfl rfl rfl rfl rfl ?_
  refine v_load_vw (.c (.v _)) lay2 rfl rfl rfl ?_
  refine v_nil ?_
  refine d_q rfl rfl rfl rfl rfl ?_
  refine v_neq lay2 rfl rfl (fun h4 => ?_) (fun h4 => ?_)
  · have hin := h4
    refine v_nil ?_
    refine d_q rfl rfl rfl rfl rfl ?_
    refine v_pick_f rfl rfl ?_
    refine v_nil ?_
    refine d_q rfl rfl rfl rfl rfl ?_
    refine v_move rfl ?_
    refine v_nil ?_
    refine d_off rfl rfl ?_
    refine d_off rfl rfl ?_
    refine d_off rfl rfl ?_
    refine d_off rfl rfl ?_
    refine d_off rfl rfl ?_
    refine d_off rfl rfl ?_
    refine d_off rfl rfl ?_
    refine d_off rfl rfl ?_
    refine d_off rfl rfl ?_
    refine d_off rfl rfl ?_
    refine d_off rfl rfl ?_
    refine d_q rfl rfl rfl rfl rfl ?_
    refine v_pick_t (v := .v (.bool true)) rfl rfl ?_
    refine v_nil ?_
    refine d_q rfl rfl rfl rfl rfl ?_
    refine v_move rfl ?_
    refine v_nil ?_
    refine d_off rfl rfl ?_
    refine d_off rfl rfl ?_
    refine d_off rfl rfl ?_
    refine d_off rfl rfl ?_
    refine d_off rfl rfl ?_
    refine d_off rfl rfl ?_
    refine d_off rfl rfl ?_
    refine d_q rfl rfl rfl rfl rfl ?_
    refine v_pick_t (v := .v (.bool true)) rfl rfl ?_
    refine v_nil ?_
    refine d_q rfl rfl rfl rfl rfl ?_
    refine v_move rfl ?_
    refine v_nil ?_
    refine d_off rfl rfl ?_
    refine d_off rfl rfl ?_
    refine d_off rfl rfl ?_
    refine d_off rfl rfl ?_
    refine d_off rfl rfl ?_
    refine d_off rfl rfl ?_
    refine d_off rfl rfl ?_
    refine d_q rfl rfl rfl rfl rfl ?_
    refine v_pick_t (v := .v (.bool true)) rfl rfl ?_
    refine v_nil ?_
    refine d_q rfl rfl rfl rfl rfl ?_
    refine v_move rfl ?_
    refine v_nil ?_
    refine d_off rfl rfl ?_
    refine d_off rfl rfl ?_
    refine d_off rfl rfl ?_
    refine d_off rfl rfl ?_
    refine d_off rfl rfl ?_
    refine d_off rfl rfl ?_
    refine d_off rfl rfl ?_
    refine d_off rfl rfl ?_
    refine d_off rfl rfl ?_
    refine d_off rfl rfl ?_
    refine d_off rfl rfl ?_
    refine d_off rfl rfl ?_
    refine d_q rfl rfl rfl rfl rfl ?_
    refine v_pick_t (v := .v (.bool true)) rfl rfl ?_
    refine v_nil ?_
    refine d_nil ?_
    refine q_n ?_
    refine w_t rfl ?_
    refine w_seq ?_
    refine w_reg rfl ?_
    refine v_move rfl ?_
    refine v_move rfl ?_
    refine v_assign rfl ?_
    refine v_assign rfl ?_
    refine v_assign (c := .v (.bool false)) rfl ?_
    refine v_nil ?_
    refine q_n ?_
    refine w_ret (q_br (q_r (q_r (q_br (q_r ?_)))))
    refine r_r rfl ?_
    have he : ends t.2.2.2.1.length t.2.2.1 (List.replicate t.1.length false) (List.replicate t.1.length false) = (a, b, false) := by
      rw [← hp]
      exact ends_0 hi1 fun h => by have := h.2.1; omega
    rw [he]
    exact a_tup (.cons (a_flat2 bo_sc bo_len rfl rfl ha.symm ha) (.cons (a_flat2 bo_sc bo_len rfl rfl hb.symm hb) (.cons tr_v .nil)))
  have hin := h4
  refine v_nil ?_
  refine d_q rfl rfl rfl rfl rfl ?_
  refine v_pick_f rfl rfl ?_
  refine v_nil ?_
  refine d_q rfl rfl rfl rfl rfl ?_
  refine v_move rfl ?_
  refine v_nil ?_
  refine d_q rfl rfl rfl rfl rfl ?_
  refine v_move rfl ?_
  refine v_nil ?_
  refine d_q rfl rfl rfl rfl rfl ?_
  refine v_nil_vw rfl ?_
  refine v_nil ?_
  refine d_q rfl rfl rfl rfl rfl ?_
  refine v_fa_vw (off' := 23) lay53 rfl rfl rfl ?_
  refine v_nil ?_
  refine d_q rfl rfl rfl rfl rfl ?_
  refine v_load_vw (.c (_)) lay51 rfl rfl rfl ?_
  refine v_nil ?_
  refine d_q rfl rfl rfl rfl rfl ?_
  refine v_len_sl lay51 rfl ?_
  refine v_nil ?_
  refine d_q rfl rfl rfl rfl rfl ?_
  refine v_move rfl ?_
  refine v_nil ?_
  refine d_q rfl rfl rfl rfl rfl ?_
  refine v_nil_vw rfl ?_
  refine v_nil ?_
  refine d_q rfl rfl rfl rfl rfl ?_
  refine v_fa_vw (off' := 0) lay53 rfl rfl rfl ?_
  refine v_nil ?_
  refine d_q rfl rfl rfl rfl rfl ?_
  refine v_fa_vw (off' := 1) lay49 rfl rfl rfl ?_
  refine v_nil ?_
  refine d_q rfl rfl rfl rfl rfl ?_
  refine v_load_vw (.c (.v _)) lay2 rfl rfl rfl ?_
  refine v_nil ?_
  refine d_q rfl rfl rfl rfl rfl ?_
  refine v_neq lay2 rfl rfl (fun h5 => ?_) (fun h5 => ?_)
  · have hot := h5
    refine v_nil ?_
    refine d_q rfl rfl rfl rfl rfl ?_
    refine v_pick_f rfl rfl ?_
    refine v_nil ?_
    refine d_q rfl rfl rfl rfl rfl ?_
    refine v_move rfl ?_
    refine v_nil ?_
    refine d_off rfl rfl ?_
    refine d_off rfl rfl ?_
    refine d_off rfl rfl ?_
    refine d_off rfl rfl ?_
    refine d_off rfl rfl ?_
    refine d_off rfl rfl ?_
    refine d_off rfl rfl ?_
    refine d_q rfl rfl rfl rfl rfl ?_
    refine v_pick_t (v := .v (.bool true)) rfl rfl ?_
    refine v_nil ?_
    refine d_q rfl rfl rfl rfl rfl ?_
    refine v_move rfl ?_
    refine v_nil ?_
    refine d_off rfl rfl ?_
    refine d_off rfl rfl ?_
    refine d_off rfl rfl ?_
    refine d_off rfl rfl ?_
    refine d_off rfl rfl ?_
    refine d_off rfl rfl ?_
    refine d_off rfl rfl ?_
    refine d_q rfl rfl rfl rfl rfl ?_
    refine v_pick_t (v := .v (.bool true)) rfl rfl ?_
    refine v_nil ?_
    refine d_q rfl rfl rfl rfl rfl ?_
    refine v_move rfl ?_
    refine v_nil ?_
    refine d_off rfl rfl ?_
    refine d_off rfl rfl ?_
    refine d_off rfl rfl ?_
    refine d_off rfl rfl ?_
    refine d_off rfl rfl ?_
    refine d_off rfl rfl ?_
    refine d_off rfl rfl ?_
    refine d_off rfl rfl ?_
    refine d_off rfl rfl ?_
    refine d_off rfl rfl ?_
    refine d_off rfl rfl ?_
    refine d_off rfl rfl ?_
    refine d_q rfl rfl rfl rfl rfl ?_
    refine v_pick_t (v := .v (.bool true)) rfl rfl ?_
    refine v_nil ?_
    refine d_nil ?_
    refine q_n ?_
    refine w_t rfl ?_
    refine w_seq ?_
    refine w_reg rfl ?_
    refine v_move rfl ?_
    refine v_move rfl ?_
    refine v_assign rfl ?_
    refine v_assign rfl ?_
    refine v_assign (c := .v (.bool false)) rfl ?_
    refine v_nil ?_
    refine q_n ?_
    refine w_ret (q_br (q_r (q_r (q_br (q_r ?_)))))
    refine r_r rfl ?_
    have he : ends t.2.2.2.1.length t.2.2.1 (List.replicate t.1.length false) (List.replicate t.1.length false) = (a, b, false) := by
      rw [← hp]
      exact ends_0 hi1 fun h => by have := h.2.2; omega
    rw [he]
    exact a_tup (.cons (a_flat2 bo_sc bo_len rfl rfl ha.symm ha) (.cons (a_flat2 bo_sc bo_len rfl rfl hb.symm hb) (.cons tr_v .nil)))
  have hot := h5
  refine v_nil ?_
  refine d_q rfl rfl rfl rfl rfl ?_
  refine v_pick_f rfl rfl ?_
  refine v_nil ?_
  refine d_q rfl rfl rfl rfl rfl ?_
  refine v_move rfl ?_
  refine v_nil ?_
  refine d_q rfl rfl rfl rfl rfl ?_
  refine v_move rfl ?_
  refine v_nil ?_
  refine d_q rfl rfl rfl rfl rfl ?_
  refine v_nil_vw rfl ?_
  refine v_nil ?_
  refine d_q rfl rfl rfl rfl rfl ?_
  refine v_fa_vw (off' := 22) lay53 rfl rfl rfl ?_
  refine v_nil ?_
  refine d_q rfl rfl rfl rfl rfl ?_
  refine v_load_vw (.c (_)) lay51 rfl rfl rfl ?_
  refine v_nil ?_
  refine d_q rfl rfl rfl rfl rfl ?_
  refine v_move rfl ?_
  refine v_nil ?_
  refine dec_split (p := (usd t.2.2.1[i].2.1 a).1 = true) (fun h6 => ?_) (fun h6 => ?_)
  rotate_left
  · refine d_id ?_
    have hu1 := h6
    refine d_det (H' := [_, _]) (usd0 (by have := hB.2.2.2.1 _ (List.getElem_mem hi1); omega) ha (by have := hB.1; omega) (by simpa using h6)) rfl rfl rfl rfl again_nil ?_
    refine d_q rfl rfl rfl rfl rfl ?_
    refine v_not true rfl rfl ?_
    refine v_nil ?_
    refine d_q rfl rfl rfl rfl rfl ?_
    refine v_pick_f rfl rfl ?_
    refine v_nil ?_
    refine d_q rfl rfl rfl rfl rfl ?_
    refine v_move rfl ?_
    refine v_nil ?_
    refine d_off rfl rfl ?_
    refine d_off rfl rfl ?_
    refine d_off rfl rfl ?_
    refine d_off rfl rfl ?_
    refine d_off rfl rfl ?_
    refine d_off rfl rfl ?_
    refine d_off rfl rfl ?_
    refine d_q rfl rfl rfl rfl rfl ?_
    refine v_pick_t (v := .v (.bool true)) rfl rfl ?_
    refine v_nil ?_
    refine d_q rfl rfl rfl rfl rfl ?_
    refine v_move rfl ?_
    refine v_nil ?_
    refine d_off rfl rfl ?_
    refine d_off rfl rfl ?_
    refine d_off rfl rfl ?_
    refine d_off rfl rfl ?_
    refine d_off rfl rfl ?_
    refine d_off rfl rfl ?_
    refine d_off rfl rfl ?_
    refine d_off rfl rfl ?_
    refine d_off rfl rfl ?_
    refine d_off rfl rfl ?_
    refine d_off rfl rfl ?_
    refine d_off rfl rfl ?_
    refine d_q rfl rfl rfl rfl rfl ?_
    refine v_pick_t (v := .v (.bool true)) rfl rfl ?_
    refine v_nil ?_
    refine d_nil ?_
    refine q_n ?_
    refine w_t rfl ?_
    refine w_seq ?_
    refine w_reg rfl ?_
    refine v_move rfl ?_
    refine v_move rfl ?_
    refine v_assign rfl ?_
    refine v_assign rfl ?_
    refine v_assign (c := .v (.bool false)) rfl ?_
    refine v_nil ?_
    refine q_n ?_
    refine w_ret (q_br (q_r (q_r (q_br (q_r ?_)))))
    refine r_r rfl ?_
    have he : ends t.2.2.2.1.length t.2.2.1 (List.replicate t.1.length false) (List.replicate t.1.length false) = ((usd t.2.2.1[i].2.1 a).2, b, false) := by
      rw [← hp]
      exact ends_1 hi1 ⟨hjn, by omega, by omega⟩ hu1
    rw [he]
    exact a_tup (.cons (a_flat2 bo_sc bo_len rfl rfl (by rw [usd_len]; exact ha.symm) (by rw [usd_len]; exact ha)) (.cons (a_flat2 bo_sc bo_len rfl rfl hb.symm hb) (.cons tr_v .nil)))
  refine d_id ?_
  have hu1 := h6
  refine d_det (H' := [_, _]) (usd0 (by have := hB.2.2.2.1 _ (List.getElem_mem hi1); omega) ha (by have := hB.1; omega) h6) rfl rfl rfl rfl again_nil ?_
  refine d_q rfl rfl rfl rfl rfl ?_
  refine v_not false rfl rfl ?_
  refine v_nil ?_
  refine d_q rfl rfl rfl rfl rfl ?_
  refine v_pick_f rfl rfl ?_
  refine v_nil ?_
  refine d_q rfl rfl rfl rfl rfl ?_
  refine v_move rfl ?_
  refine v_nil ?_
  refine d_q rfl rfl rfl rfl rfl ?_
  refine v_move rfl ?_
  refine v_nil ?_
  refine d_q rfl rfl rfl rfl rfl ?_
  refine v_nil_vw rfl ?_
  refine v_nil ?_
  refine d_q rfl rfl rfl rfl rfl ?_
  refine v_fa_vw (off' := 23) lay53 rfl rfl rfl ?_
  refine v_nil ?_
  refine d_q rfl rfl rfl rfl rfl ?_
  refine v_load_vw (.c (_)) lay51 rfl rfl rfl ?_
  refine v_nil ?_
  refine d_q rfl rfl rfl rfl rfl ?_
  refine v_move rfl ?_
  refine v_nil ?_
  refine dec_split (p := (usd t.2.2.1[i].2.2.1 b).1 = true) (fun h7 => ?_) (fun h7 => ?_)
  rotate_left
  · refine d_id ?_
    have hu2 := h7
    refine d_det (H' := [_, _]) (usd1 (by have := hB.2.2.2.1 _ (List.getElem_mem hi1); omega) hb (by have := hB.1; omega) (by simpa using h7)) rfl rfl rfl rfl again_nil ?_
    refine d_q rfl rfl rfl rfl rfl ?_
    refine v_not true rfl rfl ?_
    refine v_nil ?_
    refine d_q rfl rfl rfl rfl rfl ?_
    refine v_pick_f rfl rfl ?_
    refine v_nil ?_
    refine d_q rfl rfl rfl rfl rfl ?_
    refine v_move rfl ?_
    refine v_nil ?_
    refine d_off rfl rfl ?_
    refine d_off rfl rfl ?_
    refine d_off rfl rfl ?_
    refine d_off rfl rfl ?_
    refine d_off rfl rfl ?_
    refine d_off rfl rfl ?_
    refine d_off rfl rfl ?_
    refine d_off rfl rfl ?_
    refine d_off rfl rfl ?_
    refine d_off rfl rfl ?_
    refine d_off rfl rfl ?_
    refine d_off rfl rfl ?_
    refine d_q rfl rfl rfl rfl rfl ?_
    refine v_pick_t (v := .v (.bool true)) rfl rfl ?_
    refine v_nil ?_
    refine d_nil ?_
    refine q_n ?_
    refine w_t rfl ?_
    refine w_seq ?_
    refine w_reg rfl ?_
    refine v_move rfl ?_
    refine v_move rfl ?_
    refine v_assign rfl ?_
    refine v_assign rfl ?_
    refine v_assign (c := .v (.bool false)) rfl ?_
    refine v_nil ?_
    refine q_n ?_
    refine w_ret (q_br (q_r (q_r (q_br (q_r ?_)))))
    refine r_r rfl ?_
    have he : ends t.2.2.2.1.length t.2.2.1 (List.replicate t.1.length false) (List.replicate t.1.length false) = ((usd t.2.2.1[i].2.1 a).2, (usd t.2.2.1[i].2.2.1 b).2, false) := by
      rw [← hp]
      exact ends_2 hi1 ⟨hjn, by omega, by omega⟩ hu1 hu2
    rw [he]
    exact a_tup (.cons (a_flat2 bo_sc bo_len rfl rfl (by rw [usd_len]; exact ha.symm) (by rw [usd_len]; exact ha)) (.cons (a_flat2 bo_sc bo_len rfl rfl (by rw [usd_len]; exact hb.symm) (by rw [usd_len]; exact hb)) (.cons tr_v .nil)))
  refine d_id ?_
  have hu2 := h7
  refine d_det (H' := [_, _]) (usd1 (by have := hB.2.2.2.1 _ (List.getElem_mem hi1); omega) hb (by have := hB.1; omega) h7) rfl rfl rfl rfl again_nil ?_
  refine d_q rfl rfl rfl rfl rfl ?_
  refine v_not false rfl rfl ?_
  refine v_nil ?_
  refine d_q rfl rfl rfl rfl rfl ?_
  refine v_pick_f rfl rfl ?_
  refine v_nil ?_
  refine d_q rfl rfl rfl rfl rfl ?_
  refine v_move rfl ?_
  refine v_nil ?_
  refine d_q rfl rfl rfl rfl rfl ?_
  refine v_move rfl ?_
  refine v_nil ?_
  refine d_q rfl rfl rfl rfl rfl ?_
  refine v_nil_vw rfl ?_
  refine v_nil ?_
  refine d_q rfl rfl rfl rfl rfl ?_
  refine v_fa_vw (off' := 24) lay53 rfl rfl rfl ?_
  refine v_nil ?_
  refine d_q rfl rfl rfl rfl rfl ?_
  refine v_load_vw (.c (.v _)) lay2 rfl rfl rfl ?_
  refine v_nil ?_
  refine d_q rfl rfl rfl rfl rfl ?_
  refine v_move rfl ?_
  refine v_nil ?_
  refine d_q rfl rfl rfl rfl rfl ?_
  refine v_nil_vw rfl ?_
  refine v_nil ?_
  refine d_q rfl rfl rfl rfl rfl ?_
  refine v_fa_vw (off' := 3) lay28 rfl rfl rfl ?_
  refine v_nil ?_
  refine d_q rfl rfl rfl rfl rfl ?_
  refine v_load_vw (.c (_)) lay26 rfl rfl rfl ?_
  refine v_nil ?_
  refine d_q rfl rfl rfl rfl rfl ?_
  refine v_len_sl lay26 rfl ?_
  refine v_nil ?_
  refine d_q rfl rfl rfl rfl rfl ?_
  refine v_sub lay2 rfl rfl (i64r (by have q1 := hB.2.2.2.2.1; have q2 := hB.2.2.1; omega)) ?_
  refine v_nil ?_
  refine d_callb (cIn _ _ _) rfl rfl rfl rfl (.cons vw_v (.cons vw_v (.cons vw_v .nil))) (fun h8 => ?_) (fun h8 => ?_)
  · have hpl := h8
    refine d_q rfl rfl rfl rfl rfl ?_
    refine v_not false rfl rfl ?_
    refine v_nil ?_
    refine d_q rfl rfl rfl rfl rfl ?_
    refine v_pick_f rfl rfl ?_
    refine v_nil ?_
    refine d_nil ?_
    refine q_n ?_
    refine w_f rfl ?_
    refine w_skip ?_
    refine q_bn ?_
    refine q_n ?_
    refine w_reg rfl ?_
    refine v_move rfl ?_
    refine v_add lay3 rfl rfl (i64r (by have q1 := hB.2.2.2.2.1; have q2 := hB.2.2.1; omega)) ?_
    refine v_assign rfl ?_
    refine v_nil ?_
    refine q_n ?_
    rw [ends_4 hi1 ⟨hjn, by omega, by omega⟩ hu1 hu2 hpl] at hp
    refine ⟨_, _, _, ?_, ⟨i + 1, _, _, rfl, by omega, hp, by rw [usd_len]; exact ha, by rw [usd_len]; exact hb, rfl, rfl⟩, by omega⟩
    exact turn [some 0, some 1] rfl rfl rfl ⟨⟨_, rfl, trc_flat bo_sc rfl⟩, ⟨_, rfl, trc_flat bo_sc rfl⟩, trivial⟩ ⟨tr_vw, tr_mu rfl, tr_mu rfl, tr_v, trivial⟩
  have hpl := h8
  refine d_q rfl rfl rfl rfl rfl ?_
  refine v_not true rfl rfl ?_
  refine v_nil ?_
  refine d_q rfl rfl rfl rfl rfl ?_
  refine v_pick_f rfl rfl ?_
  refine v_nil ?_
  refine d_nil ?_
  refine q_n ?_
  refine w_t rfl ?_
  refine w_seq ?_
  refine w_reg rfl ?_
  refine v_move rfl ?_
  refine v_move rfl ?_
  refine v_assign rfl ?_
  refine v_assign rfl ?_
  refine v_assign (c := .v (.bool false)) rfl ?_
  refine v_nil ?_
  refine q_n ?_
  refine w_ret (q_br (q_r (q_r (q_br (q_r ?_)))))
  refine r_r rfl ?_
  have he : ends t.2.2.2.1.length t.2.2.1 (List.replicate t.1.length false) (List.replicate t.1.length false) = ((usd t.2.2.1[i].2.1 a).2, (usd t.2.2.1[i].2.2.1 b).2, false) := by
    rw [← hp]
    exact ends_3 hi1 ⟨hjn, by omega, by omega⟩ hu1 hu2 hpl
  rw [he]
  exact a_tup (.cons (a_flat2 bo_sc bo_len rfl rfl (by rw [usd_len]; exact ha.symm) (by rw [usd_len]; exact ha)) (.cons (a_flat2 bo_sc bo_len rfl rfl (by rw [usd_len]; exact hb.symm) (by rw [usd_len]; exact hb)) (.cons tr_v .nil)))
end Go.VL
