/- Every order that is drawn comes to what the one that is told says. Over any program. -/
import Derived.Test.YtbejolinihbokaaV14
namespace Go.VL
open Go.RowKit

section
variable {X : Cx} {m0 : Mem} {Q : Exit → Act → World → Prop} {ops : Array Oper} {M : List Nat} {es : List En} {sl0 : Sl} {T : Nat → St} {K : Sl → List Ob → Prop}

def cnt (ops : Array Oper) (L : Array Bool) : Nat := (List.range ops.size).countP fun i => !L.getD i true

theorem countP_lt {α : Type} {p p' : α → Bool} : ∀ {l : List α} {x : α}, x ∈ l → p x = true → p' x = false → (∀ y, p' y = true → p y = true) → l.countP p' < l.countP p
  | y :: l, x, hx, h1, h2, h => by
    have hle : ∀ l : List α, l.countP p' ≤ l.countP p := fun l => List.countP_mono_left fun y _ => h y
    rcases List.mem_cons.1 hx with rfl | hx
    · rw [List.countP_cons_of_pos h1, List.countP_cons_of_neg (by simp [h2])]
      exact Nat.lt_succ_of_le (hle l)
    · have := countP_lt hx h1 h2 h
      rw [List.countP_cons, List.countP_cons]
      have h3 : (if p' y = true then 1 else 0) ≤ (if p y = true then 1 else 0) := by
        by_cases hy : p' y = true
        · rw [if_pos hy, if_pos (h y hy)]; exact Nat.le_refl _
        · rw [if_neg hy]; exact Nat.zero_le _
      omega

theorem cnt_set {L : Array Bool} {i : Nat} (hi : i < ops.size) (hl : L.getD i true = false) : cnt ops (L.setIfInBounds i true) < cnt ops L := by
  unfold cnt
  have hsz : i < L.size := by
    rcases Nat.lt_or_ge i L.size with h | h
    · exact h
    · simp [Array.getElem?_eq_none h] at hl
  refine countP_lt (x := i) (List.mem_range.2 hi) (by simp [hl]) ?_ fun y hy => ?_
  · simp [Array.getElem?_setIfInBounds_self_of_lt hsz]
  · by_cases hyi : i = y
    · subst hyi
      simp [Array.getElem?_setIfInBounds_self_of_lt hsz] at hy
    · simpa [Array.getElem?_setIfInBounds_ne hyi] using hy

theorem getD_tf {L : Array Bool} (hs : L.size = ops.size) {i : Nat} (hi : i < ops.size) : L.getD i true = L.getD i false := by
  simp [Array.getElem?_eq_getElem (show i < L.size by omega)]

/-- When nothing can come up, everything has. -/
theorem DInv.all {L : Array Bool} {sl : Sl} {q : Nat} (h : Told X ops M es sl0 T) (hI : DInv ops es sl0 T L sl q) (hr : Region.ready .any ops L = []) : ∀ (p : Nat) (e : En), es[p]? = some e → L.getD e.i false = true := by
  intro p
  induction p using Nat.strongRecOn with
  | _ p ih =>
    intro e he
    obtain ⟨o, ho, hst, hor⟩ := h.at he
    have hlt : e.i < ops.size := (Array.getElem?_eq_some_iff.1 ho).1
    cases hL : L.getD e.i false with
    | true => rfl
    | false =>
      have : e.i ∈ Region.ready .any ops L := mem_ready.2 ⟨by rw [getD_tf hI.size hlt]; exact hL, o, ho, fun x hx hb => by
        obtain ⟨e', ⟨q', hq', he'⟩, hi⟩ := hor.dep x (by simpa using hx) hb
        rw [← hi]
        exact ih q' hq' e' he'⟩
      rw [hr] at this
      cases this

theorem vguard_congr {all : List Oper} {sl sl' : Sl} {o : Oper} {A B : Prop} (h : ∀ j w d, o.guard = some (j, w) → (all[j]?).bind (·.dst) = some d → sl' d = sl d) (hg : vguard all sl o A B) : vguard all sl' o A B := by
  unfold vguard at *
  split
  · rename_i hgu; rw [hgu] at hg; exact hg
  · rename_i j w hgu
    rw [hgu] at hg
    simp only at hg
    split
    · rename_i d hd
      rw [hd] at hg
      simp only at hg
      rw [h j w d hgu hd]
      exact hg
    · rename_i hd
      rw [hd] at hg
      exact hg

theorem draw_main {n : Nat} (hd : dstOk n ops.toList = true) (h : Told X ops M es sl0 T) (hK : K (T es.length).sl (T es.length).H) (hQ : ∀ a w, Rel X m0 n K a w → Q .normal a w) : ∀ (fuel : Nat) (L : Array Bool) (sl : Sl) (q : Nat) (m : Mem) (a : Act),
    DInv ops es sl0 T L sl q → SlotR m n sl a → Sim X.G m (T q).H → Ext m0 m → cnt ops L ≤ fuel → wpAny X.P .any ops Q fuel L a m.w := by
  have fin : ∀ (L : Array Bool) (sl : Sl) (q : Nat) (m : Mem) (a : Act), DInv ops es sl0 T L sl q → SlotR m n sl a → Sim X.G m (T q).H → Ext m0 m → Region.ready .any ops L = [] → Q .normal a m.w := fun L sl q m a hI hs hS hE hr => by
    obtain ⟨h1, h2⟩ := hI.done h (hI.all h hr)
    exact hQ a m.w ⟨m, sl, (T q).H, rfl, hs, hS, hE, by rw [h1, h2]; exact hK⟩
  intro fuel
  induction fuel with
  | zero =>
    intro L sl q m a hI hs hS hE hc
    have hr : Region.ready .any ops L = [] := by
      refine List.eq_nil_iff_forall_not_mem.2 fun i hi => ?_
      obtain ⟨h0, o, ho, -⟩ := mem_ready.1 hi
      have := cnt_set (ops := ops) (L := L) (Array.getElem?_eq_some_iff.1 ho).1 h0
      omega
    exact ⟨hr, fin L sl q m a hI hs hS hE hr⟩
  | succ fuel ih =>
    intro L sl q m a hI hs hS hE hc
    refine ⟨fun hr => fin L sl q m a hI hs hS hE hr, fun i hi => ?_⟩
    obtain ⟨h0, o, ho, hdep⟩ := mem_ready.1 hi
    have hilt : i < ops.size := (Array.getElem?_eq_some_iff.1 ho).1
    have hun : L.getD i false = false := by rw [← getD_tf hI.size hilt]; exact h0
    have hiL : i < L.size := by rw [hI.size]; exact hilt
    obtain ⟨p, e, he, hei⟩ := h.all i hilt
    subst hei
    have hdo : ∀ d, o.dst = some d → d < n := dstOk_spec hd o (List.mem_of_getElem? (l := ops.toList) (i := e.i) (by simpa using ho))
    have hplt : p < es.length := (List.getElem?_eq_some_iff.1 he).1
    obtain ⟨o', ho', hst, hor⟩ := h.at he
    have : o' = o := by rw [ho] at ho'; exact (Option.some.inj ho').symm
    subst this
    have hdep' : ∀ x ∈ o'.after.toList, Region.binds .any x = true → L.getD x.on false = true := fun x hx hb => hdep x (by simpa using hx) hb
    have hbef := hI.mask h p e o' he ho hdep'
    -- what comes later in the order that is told, and has come up, does not wait for this one
    have hnot : ∀ (r : Nat) (e' : En), es[r]? = some e' → L.getD e'.i false = true → (M.getD e'.i 0).testBit e.i = false := fun r e' he' hl => by
      cases hb : (M.getD e'.i 0).testBit e.i with
      | false => rfl
      | true =>
        obtain ⟨o2, ho2, -, -⟩ := h.at he'
        have := hI.mask h r e' o2 he' ho2 (fun x hx hb => hI.closed _ o2 ho2 hl x hx hb) e.i hb
        rw [hun] at this
        cases this
    -- the slots that are looked at hold what they are told to
    have agree : ∀ t ∈ o'.looksAt ops, sl t = (T p).sl t := fun t ht => by
      obtain ⟨s2, s3⟩ := h.slot t p (by omega)
      by_cases hw : ∃ (r : Nat) (e2 : En) (o2 : Oper), r < p ∧ es[r]? = some e2 ∧ ops[e2.i]? = some o2 ∧ o2.dst = some t
      · obtain ⟨r, e2, o2, hr, h1, h2, h3⟩ := hw
        have hb := ((h.pair hr he h1 ho h2).1 t h3).1 ht
        rw [s2 r e2 o2 hr h1 h2 h3, hI.wr r e2 o2 t h1 h2 (hbef _ hb) h3]
      · rw [s3 fun r e2 o2 hr h1 h2 h3 => hw ⟨r, e2, o2, hr, h1, h2, h3⟩]
        refine hI.nw t fun r e2 o2 h1 h2 hl h3 => ?_
        have hpr : p < r := by
          rcases Nat.lt_trichotomy r p with hlt | rfl | hlt
          · exact absurd ⟨r, e2, o2, hlt, h1, h2, h3⟩ hw
          · rw [he] at h1
            have := Option.some.inj h1
            subst this
            rw [hun] at hl
            cases hl
          · exact hlt
        have hb := (h.pair hpr h1 he h2 ho).2.1 t h3 ht
        rw [hnot r e2 h1 hl] at hb
        cases hb
    have agreeρ : ∀ x ∈ o'.op.operands, rho X.G (T p).sl x = rho X.G sl x := fun x hx => by
      cases x with
      | tmp t =>
        simp only [rho]
        exact (agree t (by
          unfold Oper.looksAt
          refine List.mem_append_left _ (List.mem_filterMap.2 ⟨.tmp t, by simpa using hx, rfl⟩))).symm
      | _ => rfl
    have hguard : vguard ops.toList sl o' ((T p).ran = true) ((T p).ran = false) := by
      refine vguard_congr (fun j w d hg hd => ?_) hst.guard
      refine agree d ?_
      unfold Oper.looksAt
      refine List.mem_append_right _ ?_
      rw [hg]
      simp only [Array.getElem?_toList] at hd
      simp [hd]
    -- which of those that write have come up
    have effp : e.kind = 1 → ∀ (r : Nat) (e' : En), es[r]? = some e' → e'.kind = 1 → (L.getD e'.i false = true ↔ r < p) := fun hk r e' he' hk' => by
      obtain ⟨o2, ho2, -, -⟩ := h.at he'
      constructor
      · intro hl
        rcases Nat.lt_trichotomy r p with hlt | rfl | hlt
        · exact hlt
        · rw [he] at he'
          have := Option.some.inj he'
          subst this
          rw [hun] at hl
          cases hl
        · have hb := (h.pair hlt he' he ho2 ho).2.2.1 hk' hk
          rw [hnot r e' he' hl] at hb
          cases hb
      · intro hlt
        exact hbef _ ((h.pair hlt he he' ho ho2).2.2.1 hk hk')
    -- where this one leads
    let q' := if e.kind = 1 then p + 1 else q
    have hq' : q' ≤ es.length := by
      simp only [q']
      split
      · omega
      · exact hI.ql
    have hHq' : e.kind ≠ 1 → q' = q := fun hk => if_neg hk
    have hnext : ∀ (v : V), v = (T p).v → DInv ops es sl0 T (L.setIfInBounds e.i true) (putV sl o'.dst v) q' := fun v hv => by
      have hget : ∀ i, (L.setIfInBounds e.i true).getD i false = if i = e.i then true else L.getD i false := fun i => by
        by_cases hie : e.i = i
        · subst hie
          rw [if_pos rfl]
          simp [Array.getElem?_setIfInBounds_self_of_lt hiL]
        · rw [if_neg (fun h => hie h.symm)]
          simp [Array.getElem?_setIfInBounds_ne hie]
      refine ⟨by simp [hI.size], fun r e2 o2 t h1 h2 hl h3 => ?_, fun t hno => ?_, hq', fun r e2 h1 hk => ?_, fun i o2 h1 hl x hx hb => ?_⟩
      · rw [hget] at hl
        rw [putV_get]
        by_cases hie : e2.i = e.i
        · have : r = p := h.inj h1 he hie
          subst this
          rw [he] at h1
          have := Option.some.inj h1
          subst this
          have : o2 = o' := by rw [ho] at h2; exact (Option.some.inj h2).symm
          subst this
          rw [if_pos h3]
          exact hv
        · rw [if_neg hie] at hl
          have hne : o'.dst ≠ some t := fun hd => by
            rcases Nat.lt_trichotomy r p with hlt | rfl | hlt
            · exact ((h.pair hlt he h1 ho h2).1 t h3).2 hd
            · rw [he] at h1
              have := Option.some.inj h1
              subst this
              exact hie rfl
            · exact ((h.pair hlt h1 he h2 ho).1 t hd).2 h3
          rw [if_neg hne]
          exact hI.wr r e2 o2 t h1 h2 hl h3
      · rw [putV_get, if_neg (hno p e o' he ho (by rw [hget, if_pos rfl]))]
        refine hI.nw t fun r e2 o2 h1 h2 hl => hno r e2 o2 h1 h2 ?_
        rw [hget]
        split
        · rfl
        · exact hl
      · rw [hget]
        by_cases hie : e2.i = e.i
        · have : r = p := h.inj h1 he hie
          subst this
          rw [he] at h1
          have := Option.some.inj h1
          subst this
          simp only [if_true, q', if_pos hk, true_iff]
          omega
        · rw [if_neg hie]
          have hrp : r ≠ p := fun hh => by
            subst hh
            rw [he] at h1
            have := Option.some.inj h1
            subst this
            exact hie rfl
          simp only [q']
          split
          · rename_i hk'
            rw [effp hk' r e2 h1 hk]
            omega
          · exact hI.q r e2 h1 hk
      · rw [hget] at hl ⊢
        split
        · rfl
        · by_cases hie : i = e.i
          · subst hie
            have : o2 = o' := by rw [ho] at h1; exact (Option.some.inj h1).symm
            subst this
            exact hdep' x hx hb
          · rw [if_neg hie] at hl
            exact hI.closed i o2 h1 hl x hx hb
    have go : ∀ (m' : Mem) (v : V) (u : Value), v = (T p).v → Sim X.G m' (T q').H → Ext m m' → RV m' v u → wpAny X.P .any ops Q fuel (L.setIfInBounds e.i true) (a.put o'.dst u) m'.w := fun m' v u hv hS' hE' hrv =>
      ih _ _ q' m' _ (hnext v hv) ((hs.ext hE').put hdo hrv) hS' (hE.trans hE') (by have := cnt_set (ops := ops) (L := L) hilt h0; omega)
    -- the objects as this one finds them
    have hHp : e.kind = 1 → (T q).H = (T p).H := fun hk => by
      have hno : ∀ (r : Nat) (e' : En), es[r]? = some e' → e'.kind = 1 → (r < q ↔ r < p) := fun r e' he' hk' => by
        rw [← hI.q r e' he' hk', effp hk r e' he' hk']
      rcases Nat.le_total q p with hle | hle
      · exact (h.heap hle (by omega) fun r e' hr hr' he' hk' => by have := hno r e' he' hk'; omega).symm
      · exact h.heap hle hI.ql fun r e' hr hr' he' hk' => by have := hno r e' he' hk'; omega
    unfold wpOp
    rw [ho]
    simp only
    rcases vguard_sound (ops := ops) hs hguard with ⟨hw, hran⟩ | ⟨hw, hran⟩
    · rw [hw]
      simp only [if_true]
      refine .inl ?_
      by_cases hk : e.kind = 1
      · have hf := (hst.eff hran hk).congr agreeρ
        rw [← hHp hk] at hf
        refine et_sound (Q := Q) hs hS hf fun m' u hS' hE' hrv => go m' _ u rfl ?_ hE' hrv
        have : q' = p + 1 := if_pos hk
        rw [this]
        exact hS'
      · obtain ⟨hq, hH⟩ := hst.quiet hran hk
        have hqq : Qt X e.kind (T q).H (rho X.G (T p).sl) o'.op (T p).v := by
          cases hse : sens o'.op with
          | false => exact hq.heap hse
          | true =>
            by_cases hk0 : e.kind = 0
            · -- no write before it is still to come
              have hbefore : ∀ (r : Nat) (e' : En), r < p → es[r]? = some e' → e'.kind = 1 → r < q := fun r e' hr he' hk' => by
                obtain ⟨o2, ho2, -, -⟩ := h.at he'
                exact (hI.q r e' he' hk').1 (hbef _ ((h.pair hr he he' ho ho2).2.2.2.2 hk' hk0 hse))
              rcases Nat.le_total q p with hle | hle
              · rw [← h.heap hle (by omega) fun r e' hr hr' he' hk' => by have := hbefore r e' hr' he' hk'; omega]
                exact hq
              · have key : ∀ r, p ≤ r → r ≤ q → Qt X e.kind (T r).H (rho X.G (T p).sl) o'.op (T p).v := by
                  intro r hr
                  induction r with
                  | zero => intro _; have : p = 0 := by omega
                            subst this; exact hq
                  | succ n ihn =>
                    intro hnq
                    by_cases hpn : p = n + 1
                    · subst hpn; exact hq
                    · have hprev := ihn (by omega) (by omega)
                      have hql := hI.ql
                      have hen := List.getElem?_eq_getElem (l := es) (i := n) (by omega)
                      obtain ⟨o2, ho2, hst2, hor2⟩ := h.at hen
                      by_cases hk2 : es[n].kind = 1
                      · cases hr2 : (T n).ran with
                        | false => rw [(hst2.off hr2).2]; exact hprev
                        | true =>
                          have hnp : p < n := by
                            rcases Nat.lt_or_ge p n with hlt | hge
                            · exact hlt
                            · have : n = p := by omega
                              subst this
                              rw [he] at hen
                              have := Option.some.inj hen
                              rw [← this] at hk2
                              omega
                          have hl : L.getD es[n].i false = true := (hI.q n _ hen hk2).2 (by omega)
                          have hchk := (h.pair hnp hen he ho2 ho).2.2.2.1 hk2 hk0 hse
                          rw [hnot n _ hen hl] at hchk
                          have hc := hchk.resolve_left (by simp)
                          have ag := hst2.re hr2 hk2 p e o' hnp he (by simpa using ho) hk0 hse hran hc
                          unfold again at ag
                          simp only [Array.getElem?_toList, ho] at ag
                          exact ag.qt.kind (by omega) (by omega)
                      · cases hr2 : (T n).ran with
                        | false => rw [(hst2.off hr2).2]; exact hprev
                        | true => rw [(hst2.quiet hr2 hk2).2]; exact hprev
                exact key q hle (Nat.le_refl _)
            · -- a slice's literal looks at nothing
              unfold Qt at hq ⊢
              by_cases hk2 : e.kind = 2
              · rw [if_pos hk2] at hq ⊢; exact hq
              · exfalso
                have := hor.kind; omega
        refine qt_sound (Q := Q) hs hS (hqq.congr (_H' := (T q).H) agreeρ) fun m' u hS' hE' hrv => go m' _ u rfl ?_ hE' hrv
        rw [hHq' hk]
        exact hS'
    · rw [hw]
      simp only [Bool.false_eq_true, if_false]
      obtain ⟨hv, hH⟩ := hst.off hran
      refine go m .undef Go.undef hv.symm ?_ (Ext.refl m) RV.undef
      by_cases hk : e.kind = 1
      · have : q' = p + 1 := if_pos hk
        rw [this, hH, ← hHp hk]
        exact hS
      · rw [hHq' hk]
        exact hS

theorem drawD_ok (X : Cx) : DrawOk X (drawD X) := by
  intro n id ops K m0 m sl H a Q hQ hs hS hE h
  obtain ⟨M, es, hd, hchk, hv⟩ := h
  obtain ⟨T, t0, t1, t2, t3⟩ := trace es [] sl H hv
  obtain ⟨o1, o2⟩ := chkOrd_spec es [] 0 (fun i => by simp) hchk
  have ht : Told X ops M es sl T := ⟨t0, t2, fun p e he => by
    obtain ⟨o, q⟩ := o1 p e he
    exact ⟨o, q.op, q.kind, fun e' he' => q.pair e' (.inr he'), fun x hx hb => by
      obtain ⟨e', g1, g2⟩ := q.dep x hx hb
      exact ⟨e', g1.resolve_left (by simp), g2⟩, q.mask⟩, fun i hi => by
    obtain ⟨e, g1, g2⟩ := o2 i hi
    obtain ⟨p, hp⟩ := List.getElem?_of_mem (g1.resolve_left (by simp))
    exact ⟨p, e, hp, g2⟩⟩
  obtain ⟨g1, g2⟩ := hS.same (w' := { m.w with drawn := m.w.drawn + 1 }) rfl rfl rfl rfl
  have hnone : ∀ i, (Array.replicate ops.size false).getD i false = true → False := fun i hi => by
    simp only [Array.getD_eq_getD_getElem?, Array.getElem?_replicate] at hi
    split at hi <;> simp at hi
  refine wp_region_any X.mixed ?_
  refine draw_main (m0 := m0) hd ht t3 hQ ops.size (Array.replicate ops.size false) sl 0 { m with w := { m.w with drawn := m.w.drawn + 1 } } a ⟨by simp, fun p e o t _ _ hl => (hnone _ hl).elim, fun t _ => rfl, Nat.zero_le _, fun p e he hk => ⟨fun hl => (hnone _ hl).elim, fun hh => absurd hh (Nat.not_lt_zero _)⟩, fun i o _ hl => (hnone _ hl).elim⟩
    (hs.ext g2) (by rw [t1]; exact g1) (hE.trans g2) ?_
  unfold cnt
  have := List.countP_le_length (p := fun i => !(Array.replicate ops.size false).getD i true) (l := List.range ops.size)
  simpa using this
#print axioms drawD_ok
end
end Go.VL
