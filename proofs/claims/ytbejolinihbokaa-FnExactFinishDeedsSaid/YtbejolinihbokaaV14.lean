/- A region whose order is drawn: every order comes to what the one order says. Over any program. -/
import Derived.Test.YtbejolinihbokaaV13
namespace Go.VL
open Go.RowKit

/-- The rule for regions whose order is drawn: an order, and what is asked of it. -/
def drawD (X : Cx) (n : Nat) (ops : Array Oper) (K : Sl → List Ob → Prop) (sl : Sl) (H : List Ob) : Prop :=
  ∃ (M : List Nat) (es : List En), dstOk n ops.toList = true ∧ chkOrd M ops [] 0 es = true ∧ vopsD X ops.toList es [] K sl H

section
variable {X : Cx} {m0 : Mem} {Q : Exit → Act → World → Prop}

theorem qt_sound {m : Mem} {sl : Sl} {H : List Ob} {n : Nat} {a : Act} (hs : SlotR m n sl a) (hS : Sim X.G m H) {kind : Nat} {o : Oper} {v : V} (h : Qt X kind H (rho X.G sl) o.op v) {next : Act → World → Prop}
    (hn : ∀ (m' : Mem) (u : Value), Sim X.G m' H → Ext m m' → RV m' v u → next (a.put o.dst u) m'.w) : o.wp X.P a m.w next Q := by
  have viaV : vop X false o.op (rho X.G sl) H (fun v' H' => v' = v ∧ H' = H) → o.wp X.P a m.w next Q := fun hv =>
    vop_sound (m0 := m) (Q := Q) hs hS (Ext.refl m) hv fun v' H' m' u hK hS' hE' hrv => by
      obtain ⟨rfl, rfl⟩ := hK
      exact hn m' u hS' hE' hrv
  unfold Qt at h
  split at h
  · obtain ⟨u, m', hrun, hS', hE', hrv⟩ := good_frz (o := o) hS (fun x => rho_rel hS hs x) h
    unfold Oper.wp
    rw [hrun, Oper.upon_value]
    exact hn m' u hS' hE' hrv
  · split at h
    · rename_i f args hc
      split at h
      · rename_i g caps ht
        refine viaV ?_
        unfold vop
        rw [hc]
        simp only [ht]
        exact CallC.of_pure h ⟨rfl, rfl⟩
      · exact h.elim
    · rename_i hc
      rcases h with h | h
      · refine viaV ?_
        unfold vop
        rw [hc]
        simp only [h]
        exact ⟨trivial, trivial⟩
      · obtain ⟨u, m', hrun, hS', hE', hrv⟩ := h m H _ o rfl hS (fun x _ => rho_rel hS hs x)
        unfold Oper.wp
        rw [hrun, Oper.upon_value]
        exact hn m' u hS' hE' hrv

theorem eff_sound {m : Mem} {sl : Sl} {H : List Ob} {n : Nat} {a : Act} (hs : SlotR m n sl a) (hS : Sim X.G m H) {o : Oper} {f : Eff} (hf : eve X.lay H (rho X.G sl) o.op = some f) (hφ : f.φ) {next : Act → World → Prop}
    (hn : ∀ (m' : Mem) (u : Value), Sim X.G m' f.H → Ext m m' → RV m' f.v u → next (a.put o.dst u) m'.w) : o.wp X.P a m.w next Q := by
  obtain ⟨n, m', hrun, hS', hE', hrv⟩ := eve_sound (o := o) hS (fun x => rho_rel hS hs x) hf hφ
  unfold Oper.wp
  rcases hrv with ⟨u, rfl, hrv⟩ | ⟨rfl, hv⟩
  · rw [hrun, Oper.upon_value]
    exact hn m' u hS' hE' hrv
  · rw [hrun, Oper.upon_skip]
    exact hn m' Go.undef hS' hE' (by rw [hv]; exact .any)

theorem et_sound {m : Mem} {sl : Sl} {H H' : List Ob} {v : V} {n : Nat} {a : Act} (hs : SlotR m n sl a) (hS : Sim X.G m H) {o : Oper} (h : Et X H (rho X.G sl) o.op v H') {next : Act → World → Prop}
    (hn : ∀ (m' : Mem) (u : Value), Sim X.G m' H' → Ext m m' → RV m' v u → next (a.put o.dst u) m'.w) : o.wp X.P a m.w next Q := by
  rcases h with ⟨f, hf, hφ, rfl, rfl⟩ | ⟨f, args, g, caps, hc, ht, hcall⟩
  · exact eff_sound hs hS hf hφ hn
  · refine vop_sound (m0 := m) (raw := false) (K := fun v' H'' => v' = v ∧ H'' = H') (Q := Q) hs hS (Ext.refl m) ?_ fun v' H'' m' u hK hS' hE' hrv => ?_
    · unfold vop
      rw [hc]
      simp only [ht]
      exact hcall
    · obtain ⟨rfl, rfl⟩ := hK
      exact hn m' u hS' hE' hrv
theorem Et.congr {H H' : List Ob} {ρ ρ' : Operand → V} {o : Op} {v : V} (h : ∀ x ∈ o.operands, ρ x = ρ' x) (hq : Et X H ρ o v H') : Et X H ρ' o v H' := by
  rcases hq with ⟨f, hf, h1⟩ | ⟨f, args, g, caps, hc, ht, hcall⟩
  · exact .inl ⟨f, by rw [← eve_congr o h]; exact hf, h1⟩
  · obtain ⟨h1, h2⟩ := callOf_congr h hc
    exact .inr ⟨f, args, g, caps, hc, by rw [← h1]; exact ht, by rw [← h2]; exact hcall⟩

theorem Qt.congr {kind : Nat} {H _H' : List Ob} {ρ ρ' : Operand → V} {o : Op} {v : V} (h : ∀ x ∈ o.operands, ρ x = ρ' x) (hq : Qt X kind H ρ o v) : Qt X kind H ρ' o v := by
  unfold Qt at *
  split
  · rename_i hk; rw [if_pos hk, frz_congr o h] at hq; exact hq
  · rename_i hk
    rw [if_neg hk] at hq
    split
    · rename_i f args hc
      rw [hc] at hq
      obtain ⟨h1, h2⟩ := callOf_congr h hc
      simp only [h1, h2] at hq
      exact hq
    · rename_i hc
      rw [hc] at hq
      simp only at hq ⊢
      rcases hq with hq | hq
      · exact .inl (by rw [← evq_congr o h]; exact hq)
      · exact .inr fun m H2 ε o2 ho hS hr => hq m H2 ε o2 ho hS fun x hx => by rw [h x hx]; exact hr x hx

theorem Qt.heap {kind : Nat} {H H' : List Ob} {ρ : Operand → V} {o : Op} {v : V} (hs : sens o = false) (hq : Qt X kind H ρ o v) : Qt X kind H' ρ o v := by
  unfold Qt at *
  split
  · rename_i hk; rw [if_pos hk] at hq; exact hq
  · rename_i hk
    rw [if_neg hk] at hq
    split
    · rename_i f args hc
      exfalso
      cases o <;> simp only [callOf] at hc <;> try (cases hc; done)
      rename_i c
      obtain ⟨callee, args', tys⟩ := c
      cases callee <;> simp only at hc <;> try (cases hc; done)
      cases hs
    · rename_i hc
      rw [hc] at hq
      simp only at hq ⊢
      rcases hq with hq | hq
      · exact .inl (by rw [evq_heap o hs (H' := H)]; exact hq)
      · exact .inr hq

theorem Qt.kind {k k' : Nat} {H : List Ob} {ρ : Operand → V} {o : Op} {v : V} (h1 : k ≠ 2) (h2 : k' ≠ 2) (hq : Qt X k H ρ o v) : Qt X k' H ρ o v := by
  unfold Qt at *
  rw [if_neg h1] at hq
  rw [if_neg h2]
  exact hq

/-- The run that is told, and its order. -/
structure Told (X : Cx) (ops : Array Oper) (M : List Nat) (es : List En) (sl0 : Sl) (T : Nat → St) : Prop where
  t0 : (T 0).sl = sl0
  step : ∀ (p : Nat) (e : En), es[p]? = some e → ∃ o, Step X ops.toList es [] T p e o
  ord : ∀ (p : Nat) (e : En), es[p]? = some e → ∃ o, Ord1 M ops (fun e' => ∃ q : Nat, q < p ∧ es[q]? = some e') e o
  all : ∀ i, i < ops.size → ∃ (p : Nat) (e : En), es[p]? = some e ∧ e.i = i

variable {ops : Array Oper} {M : List Nat} {es : List En} {sl0 : Sl} {T : Nat → St}

theorem Told.at (h : Told X ops M es sl0 T) {p : Nat} {e : En} (he : es[p]? = some e) : ∃ o, ops[e.i]? = some o ∧ Step X ops.toList es [] T p e o ∧ Ord1 M ops (fun e' => ∃ q : Nat, q < p ∧ es[q]? = some e') e o := by
  obtain ⟨o, h1⟩ := h.step p e he
  obtain ⟨o', h2⟩ := h.ord p e he
  have : o' = o := by
    have a1 := h1.op
    have a2 := h2.op
    simp only [Array.getElem?_toList] at a1
    rw [a2] at a1
    exact Option.some.inj a1
  subst this
  exact ⟨o', h2.op, h1, h2⟩

theorem Told.inj (h : Told X ops M es sl0 T) {p q : Nat} {e e' : En} (he : es[p]? = some e) (he' : es[q]? = some e') (hi : e.i = e'.i) : p = q := by
  rcases Nat.lt_trichotomy p q with hlt | rfl | hlt
  · obtain ⟨o, h1, h2, h3⟩ := h.at he'
    exact absurd hi (h3.pair e ⟨p, hlt, he⟩).1
  · rfl
  · obtain ⟨o, h1, h2, h3⟩ := h.at he
    exact absurd hi.symm (h3.pair e' ⟨q, hlt, he'⟩).1

/-- What is asked of two operations. -/
theorem Told.pair (h : Told X ops M es sl0 T) {p q : Nat} {e e' : En} {o o' : Oper} (hlt : q < p) (he : es[p]? = some e) (he' : es[q]? = some e') (ho : ops[e.i]? = some o) (ho' : ops[e'.i]? = some o') :
    (∀ d, o'.dst = some d → (d ∈ o.looksAt ops → (M.getD e.i 0).testBit e'.i = true) ∧ o.dst ≠ some d) ∧ (∀ d, o.dst = some d → d ∈ o'.looksAt ops → (M.getD e.i 0).testBit e'.i = true) ∧
    (e.kind = 1 → e'.kind = 1 → (M.getD e.i 0).testBit e'.i = true) ∧ (e.kind = 1 → e'.kind = 0 → sens o'.op = true → (M.getD e.i 0).testBit e'.i = true ∨ e'.i ∈ e.chk) ∧
    (e'.kind = 1 → e.kind = 0 → sens o.op = true → (M.getD e.i 0).testBit e'.i = true) := by
  obtain ⟨o2, h1, h2, h3⟩ := h.at he
  have : o2 = o := by rw [ho] at h1; exact (Option.some.inj h1).symm
  subst this
  obtain ⟨-, o3, k1, k2⟩ := h3.pair e' ⟨q, hlt, he'⟩
  have : o3 = o' := by rw [ho'] at k1; exact (Option.some.inj k1).symm
  subst this
  unfold chkPair at k2
  simp only [Bool.and_eq_true, Bool.or_eq_true, Bool.not_eq_true'] at k2
  obtain ⟨⟨⟨a1, a2⟩, a3⟩, a4⟩ := k2
  refine ⟨fun d hd => ?_, fun d hd hm => ?_, fun hk hk' => ?_, fun hk hk' hs => ?_, fun hk' hk hs => ?_⟩
  · rw [hd] at a1
    simp only [Bool.and_eq_true, Bool.or_eq_true, Bool.not_eq_true'] at a1
    refine ⟨fun hm => a1.1.resolve_left (by simpa using hm), fun hh => ?_⟩
    rw [hh] at a1
    simp at a1
  · rw [hd] at a2
    simp only [Bool.or_eq_true, Bool.not_eq_true'] at a2
    exact a2.resolve_left (by simpa using hm)
  · rcases a3 with a3 | a3
    · simp [hk] at a3
    · exact a3.1.resolve_left (by simp [hk'])
  · rcases a3 with a3 | a3
    · simp [hk] at a3
    · rcases a3.2 with ((a | a) | a) | a
      · simp [hk'] at a
      · simp [hs] at a
      · exact .inl a
      · exact .inr (by simpa using a)
  · rcases a4 with ((a | a) | a) | a
    · simp [hk'] at a
    · simp [hk] at a
    · simp [hs] at a
    · exact a

theorem Told.slot (h : Told X ops M es sl0 T) (t : Nat) : ∀ p, p ≤ es.length →
    (∀ (q : Nat) (e : En) (o : Oper), q < p → es[q]? = some e → ops[e.i]? = some o → o.dst = some t → (T p).sl t = (T q).v) ∧
    ((∀ (q : Nat) (e : En) (o : Oper), q < p → es[q]? = some e → ops[e.i]? = some o → o.dst ≠ some t) → (T p).sl t = sl0 t)
  | 0, _ => ⟨fun q _ _ hq => absurd hq (Nat.not_lt_zero _), fun _ => by rw [h.t0]⟩
  | p + 1, hp => by
    obtain ⟨i2, i3⟩ := h.slot t p (by omega)
    have he := List.getElem?_eq_getElem (l := es) (i := p) (by omega)
    obtain ⟨o, ho, hst, hor⟩ := h.at he
    rw [hst.sl]
    refine ⟨fun q e' o' hq he' ho' hd => ?_, fun hno => ?_⟩
    · rw [putV_get]
      by_cases hqp : q = p
      · subst hqp
        rw [he] at he'
        have := Option.some.inj he'
        subst this
        have : o = o' := by rw [ho] at ho'; exact Option.some.inj ho'
        subst this
        rw [if_pos hd]
      · have hqp' : q < p := by omega
        obtain ⟨a1, -⟩ := h.pair hqp' he he' ho ho'
        rw [if_neg (a1 t hd).2]
        exact i2 q e' o' hqp' he' ho' hd
    · rw [putV_get, if_neg (hno p _ o (Nat.lt_succ_self p) he ho)]
      exact i3 fun q e' o' hq => hno q e' o' (by omega)

theorem Told.heap (h : Told X ops M es sl0 T) {p p' : Nat} (hle : p ≤ p') (hp' : p' ≤ es.length) (hno : ∀ (r : Nat) (e : En), p ≤ r → r < p' → es[r]? = some e → e.kind ≠ 1) : (T p').H = (T p).H := by
  induction p' with
  | zero => have : p = 0 := by omega
            subst this; rfl
  | succ n ih =>
    by_cases heq : p = n + 1
    · subst heq; rfl
    · have he := List.getElem?_eq_getElem (l := es) (i := n) (by omega)
      obtain ⟨o, ho, hst, hor⟩ := h.at he
      rw [← ih (by omega) (by omega) fun r e hr hr' => hno r e hr (by omega)]
      cases hr : (T n).ran with
      | false => exact (hst.off hr).2
      | true => exact (hst.quiet hr (hno n _ (by omega) (by omega) he)).2

/-- What has come up, and what the slots and objects are then. -/
structure DInv (ops : Array Oper) (es : List En) (sl0 : Sl) (T : Nat → St) (L : Array Bool) (sl : Sl) (q : Nat) : Prop where
  size : L.size = ops.size
  wr : ∀ (p : Nat) (e : En) (o : Oper) (t : Nat), es[p]? = some e → ops[e.i]? = some o → L.getD e.i false = true → o.dst = some t → sl t = (T p).v
  nw : ∀ t : Nat, (∀ (p : Nat) (e : En) (o : Oper), es[p]? = some e → ops[e.i]? = some o → L.getD e.i false = true → o.dst ≠ some t) → sl t = sl0 t
  ql : q ≤ es.length
  q : ∀ (p : Nat) (e : En), es[p]? = some e → e.kind = 1 → (L.getD e.i false = true ↔ p < q)
  closed : ∀ (i : Nat) (o : Oper), ops[i]? = some o → L.getD i false = true → ∀ x ∈ o.after.toList, Region.binds .any x = true → L.getD x.on false = true

theorem DInv.mask {L : Array Bool} {sl : Sl} {q : Nat} (h : Told X ops M es sl0 T) (hI : DInv ops es sl0 T L sl q) : ∀ (p : Nat) (e : En) (o : Oper), es[p]? = some e → ops[e.i]? = some o →
    (∀ x ∈ o.after.toList, Region.binds .any x = true → L.getD x.on false = true) → ∀ j, (M.getD e.i 0).testBit j = true → L.getD j false = true := by
  intro p
  induction p using Nat.strongRecOn with
  | _ p ih =>
    intro e o he ho hd j hj
    obtain ⟨o', ho', hst, hor⟩ := h.at he
    have : o' = o := by rw [ho] at ho'; exact (Option.some.inj ho').symm
    subst this
    obtain ⟨x, hx, hb, hj⟩ := hor.mask j hj
    rcases hj with rfl | hj
    · exact hd x hx hb
    · obtain ⟨e', ⟨q', hq', he'⟩, hi⟩ := hor.dep x hx hb
      obtain ⟨o2, ho2, -, -⟩ := h.at he'
      refine ih q' hq' e' o2 he' ho2 (fun y hy hyb => hI.closed _ o2 ho2 ?_ y hy hyb) j (by rw [hi]; exact hj)
      rw [hi]
      exact hd x hx hb

theorem DInv.done {L : Array Bool} {sl : Sl} {q : Nat} (h : Told X ops M es sl0 T) (hI : DInv ops es sl0 T L sl q) (ha : ∀ (p : Nat) (e : En), es[p]? = some e → L.getD e.i false = true) :
    sl = (T es.length).sl ∧ (T q).H = (T es.length).H := by
  constructor
  · funext t
    obtain ⟨s2, s3⟩ := h.slot t es.length (Nat.le_refl _)
    by_cases hw : ∃ (p : Nat) (e : En) (o : Oper), es[p]? = some e ∧ ops[e.i]? = some o ∧ o.dst = some t
    · obtain ⟨p, e, o, h1, h2, h3⟩ := hw
      rw [hI.wr p e o t h1 h2 (ha p e h1) h3, s2 p e o (List.getElem?_eq_some_iff.1 h1).1 h1 h2 h3]
    · rw [hI.nw t fun p e o h1 h2 _ h3 => hw ⟨p, e, o, h1, h2, h3⟩, s3 fun p e o _ h1 h2 h3 => hw ⟨p, e, o, h1, h2, h3⟩]
  · refine (h.heap hI.ql (Nat.le_refl _) fun r e hr hr' he hk => ?_).symm
    have := (hI.q r e he hk).1 (ha r e he)
    omega
end
end Go.VL
