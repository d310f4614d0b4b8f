/- Texts of one proof, put together: V15, V16, V17, V18, V19, V20, V21, V22, V23, V24, V25, V26, V27, V28, V29, V30, V57, V31, V32, V33, V34, V35, V36, V37, V38, V39, V40, V41, V42, V43, V44, V45, V46, V47, V48, V49, V50, V51, V52, V53, V54, V55, V58, V59, V60, V61, V62, V63, V64, V65, V66, V67, V68, V69, V56, V70, V71, V72, V73, X1. -/
import Derived.Test.YtciahnkkncahjaaDoorM1
import Derived.ChangeShapes
import Derived.OpenShut
import Derived.ProofKit
import Derived.Laws.Externs
import Derived.Lib.Strings
import Derived.Lib.SliceRun
import Derived.LaidMore
import Derived.MakeChecks
import Derived.Laws.StructEq
import Derived.ChangeKeysEq
import Derived.DeepKeys
import Derived.Laws.BytesString
import Derived.Lib.AppendIntMem
import Derived.Lib.LaidTab
import Derived.Lib.ParseIntB
import Derived.Lib.Bytealg
import Derived.Lib.ItoaNum
import Derived.Test.YtciahnkkncahjaaDoorProg
namespace Go.VL
open Go.RowKit

section
variable {X : Cx} {m0 : Mem} {Q : Exit → Act → World → Prop} {ops : Array Oper} {M : List Nat} {es : List En} {sl0 : Sl} {T : Nat → St} {K : Sl → List Ob → Prop}

def cnt (ops : Array Oper) (L : Array Bool) : Nat := (List.range ops.size).countP fun i => !L.getD i true

theorem countP_lt {α : Type} {p p' : α → Bool} : ∀ {l : List α} {x : α}, x ∈ l → p x = true → p' x = false → (∀ y, p' y = true → p y = true) → l.countP p' < l.countP p
  | y :: l, x, hx, h1, h2, h => by
    have hle : ∀ l : List α, l.countP p' ≤ l.countP p := fun l => List.countP_mono_left fun y _ => h y
    rcases List.mem_cons.1 hx with rfl | hx
    · rw [List.countP_cons_of_pos h1, List.countP_cons_of_neg (by simp [h2])]
      exact Nat.lt_succ_of_le (hle l)
    · have := countP_lt hx h1 h2 h
      rw [List.countP_cons, List.countP_cons]
      have h3 : (if p' y = true then 1 else 0) ≤ (if p y = true then 1 else 0) := by
        by_cases hy : p' y = true
        · rw [if_pos hy, if_pos (h y hy)]; exact Nat.le_refl _
        · rw [if_neg hy]; exact Nat.zero_le _
      omega

theorem cnt_set {L : Array Bool} {i : Nat} (hi : i < ops.size) (hl : L.getD i true = false) : cnt ops (L.setIfInBounds i true) < cnt ops L := by
  unfold cnt
  have hsz : i < L.size := by
    rcases Nat.lt_or_ge i L.size with h | h
    · exact h
    · simp [Array.getElem?_eq_none h] at hl
  refine countP_lt (x := i) (List.mem_range.2 hi) (by simp [hl]) ?_ fun y hy => ?_
  · simp [Array.getElem?_setIfInBounds_self_of_lt hsz]
  · by_cases hyi : i = y
    · subst hyi
      simp [Array.getElem?_setIfInBounds_self_of_lt hsz] at hy
    · simpa [Array.getElem?_setIfInBounds_ne hyi] using hy

theorem getD_tf {L : Array Bool} (hs : L.size = ops.size) {i : Nat} (hi : i < ops.size) : L.getD i true = L.getD i false := by
  simp [Array.getElem?_eq_getElem (show i < L.size by omega)]

/-- When nothing can come up, everything has. -/
theorem DInv.all {L : Array Bool} {sl : Sl} {q : Nat} (h : Told X ops M es sl0 T) (hI : DInv ops es sl0 T L sl q) (hr : Region.ready .any ops L = []) : ∀ (p : Nat) (e : En), es[p]? = some e → L.getD e.i false = true := by
  intro p
  induction p using Nat.strongRecOn with
  | _ p ih =>
    intro e he
    obtain ⟨o, ho, hst, hor⟩ := h.at he
    have hlt : e.i < ops.size := (Array.getElem?_eq_some_iff.1 ho).1
    cases hL : L.getD e.i false with
    | true => rfl
    | false =>
      have : e.i ∈ Region.ready .any ops L := mem_ready.2 ⟨by rw [getD_tf hI.size hlt]; exact hL, o, ho, fun x hx hb => by
        obtain ⟨e', ⟨q', hq', he'⟩, hi⟩ := hor.dep x (by simpa using hx) hb
        rw [← hi]
        exact ih q' hq' e' he'⟩
      rw [hr] at this
      cases this

theorem vguard_congr {all : List Oper} {sl sl' : Sl} {o : Oper} {A B : Prop} (h : ∀ j w d, o.guard = some (j, w) → (all[j]?).bind (·.dst) = some d → sl' d = sl d) (hg : vguard all sl o A B) : vguard all sl' o A B := by
  unfold vguard at *
  split
  · rename_i hgu; rw [hgu] at hg; exact hg
  · rename_i j w hgu
    rw [hgu] at hg
    simp only at hg
    split
    · rename_i d hd
      rw [hd] at hg
      simp only at hg
      rw [h j w d hgu hd]
      exact hg
    · rename_i hd
      rw [hd] at hg
      exact hg

theorem draw_main {n : Nat} (hd : dstOk n ops.toList = true) (h : Told X ops M es sl0 T) (hK : K (T es.length).sl (T es.length).H) (hQ : ∀ a w, Rel X m0 n K a w → Q .normal a w) : ∀ (fuel : Nat) (L : Array Bool) (sl : Sl) (q : Nat) (m : Mem) (a : Act),
    DInv ops es sl0 T L sl q → SlotR m n sl a → Sim X.G m (T q).H → Ext m0 m → cnt ops L ≤ fuel → wpAny X.P .any ops Q fuel L a m.w := by
  have fin : ∀ (L : Array Bool) (sl : Sl) (q : Nat) (m : Mem) (a : Act), DInv ops es sl0 T L sl q → SlotR m n sl a → Sim X.G m (T q).H → Ext m0 m → Region.ready .any ops L = [] → Q .normal a m.w := fun L sl q m a hI hs hS hE hr => by
    obtain ⟨h1, h2⟩ := hI.done h (hI.all h hr)
    exact hQ a m.w ⟨m, sl, (T q).H, rfl, hs, hS, hE, by rw [h1, h2]; exact hK⟩
  intro fuel
  induction fuel with
  | zero =>
    intro L sl q m a hI hs hS hE hc
    have hr : Region.ready .any ops L = [] := by
      refine List.eq_nil_iff_forall_not_mem.2 fun i hi => ?_
      obtain ⟨h0, o, ho, -⟩ := mem_ready.1 hi
      have := cnt_set (ops := ops) (L := L) (Array.getElem?_eq_some_iff.1 ho).1 h0
      omega
    exact ⟨hr, fin L sl q m a hI hs hS hE hr⟩
  | succ fuel ih =>
    intro L sl q m a hI hs hS hE hc
    refine ⟨fun hr => fin L sl q m a hI hs hS hE hr, fun i hi => ?_⟩
    obtain ⟨h0, o, ho, hdep⟩ := mem_ready.1 hi
    have hilt : i < ops.size := (Array.getElem?_eq_some_iff.1 ho).1
    have hun : L.getD i false = false := by rw [← getD_tf hI.size hilt]; exact h0
    have hiL : i < L.size := by rw [hI.size]; exact hilt
    obtain ⟨p, e, he, hei⟩ := h.all i hilt
    subst hei
    have hdo : ∀ d, o.dst = some d → d < n := dstOk_spec hd o (List.mem_of_getElem? (l := ops.toList) (i := e.i) (by simpa using ho))
    have hplt : p < es.length := (List.getElem?_eq_some_iff.1 he).1
    obtain ⟨o', ho', hst, hor⟩ := h.at he
    have : o' = o := by rw [ho] at ho'; exact (Option.some.inj ho').symm
    subst this
    have hdep' : ∀ x ∈ o'.after.toList, Region.binds .any x = true → L.getD x.on false = true := fun x hx hb => hdep x (by simpa using hx) hb
    have hbef := hI.mask h p e o' he ho hdep'
    -- what comes later in the order that is told, and has come up, does not wait for this one
    have hnot : ∀ (r : Nat) (e' : En), es[r]? = some e' → L.getD e'.i false = true → (M.getD e'.i 0).testBit e.i = false := fun r e' he' hl => by
      cases hb : (M.getD e'.i 0).testBit e.i with
      | false => rfl
      | true =>
        obtain ⟨o2, ho2, -, -⟩ := h.at he'
        have := hI.mask h r e' o2 he' ho2 (fun x hx hb => hI.closed _ o2 ho2 hl x hx hb) e.i hb
        rw [hun] at this
        cases this
    -- the slots that are looked at hold what they are told to
    have agree : ∀ t ∈ o'.looksAt ops, sl t = (T p).sl t := fun t ht => by
      obtain ⟨s2, s3⟩ := h.slot t p (by omega)
      by_cases hw : ∃ (r : Nat) (e2 : En) (o2 : Oper), r < p ∧ es[r]? = some e2 ∧ ops[e2.i]? = some o2 ∧ o2.dst = some t
      · obtain ⟨r, e2, o2, hr, h1, h2, h3⟩ := hw
        have hb := ((h.pair hr he h1 ho h2).1 t h3).1 ht
        rw [s2 r e2 o2 hr h1 h2 h3, hI.wr r e2 o2 t h1 h2 (hbef _ hb) h3]
      · rw [s3 fun r e2 o2 hr h1 h2 h3 => hw ⟨r, e2, o2, hr, h1, h2, h3⟩]
        refine hI.nw t fun r e2 o2 h1 h2 hl h3 => ?_
        have hpr : p < r := by
          rcases Nat.lt_trichotomy r p with hlt | rfl | hlt
          · exact absurd ⟨r, e2, o2, hlt, h1, h2, h3⟩ hw
          · rw [he] at h1
            have := Option.some.inj h1
            subst this
            rw [hun] at hl
            cases hl
          · exact hlt
        have hb := (h.pair hpr h1 he h2 ho).2.1 t h3 ht
        rw [hnot r e2 h1 hl] at hb
        cases hb
    have agreeρ : ∀ x ∈ o'.op.operands, rho X.G (T p).sl x = rho X.G sl x := fun x hx => by
      cases x with
      | tmp t =>
        simp only [rho]
        exact (agree t (by
          unfold Oper.looksAt
          refine List.mem_append_left _ (List.mem_filterMap.2 ⟨.tmp t, by simpa using hx, rfl⟩))).symm
      | _ => rfl
    have hguard : vguard ops.toList sl o' ((T p).ran = true) ((T p).ran = false) := by
      refine vguard_congr (fun j w d hg hd => ?_) hst.guard
      refine agree d ?_
      unfold Oper.looksAt
      refine List.mem_append_right _ ?_
      rw [hg]
      simp only [Array.getElem?_toList] at hd
      simp [hd]
    -- which of those that write have come up
    have effp : e.kind = 1 → ∀ (r : Nat) (e' : En), es[r]? = some e' → e'.kind = 1 → (L.getD e'.i false = true ↔ r < p) := fun hk r e' he' hk' => by
      obtain ⟨o2, ho2, -, -⟩ := h.at he'
      constructor
      · intro hl
        rcases Nat.lt_trichotomy r p with hlt | rfl | hlt
        · exact hlt
        · rw [he] at he'
          have := Option.some.inj he'
          subst this
          rw [hun] at hl
          cases hl
        · have hb := (h.pair hlt he' he ho2 ho).2.2.1 hk' hk
          rw [hnot r e' he' hl] at hb
          cases hb
      · intro hlt
        exact hbef _ ((h.pair hlt he he' ho ho2).2.2.1 hk hk')
    -- where this one leads
    let q' := if e.kind = 1 then p + 1 else q
    have hq' : q' ≤ es.length := by
      simp only [q']
      split
      · omega
      · exact hI.ql
    have hHq' : e.kind ≠ 1 → q' = q := fun hk => if_neg hk
    have hnext : ∀ (v : V), v = (T p).v → DInv ops es sl0 T (L.setIfInBounds e.i true) (putV sl o'.dst v) q' := fun v hv => by
      have hget : ∀ i, (L.setIfInBounds e.i true).getD i false = if i = e.i then true else L.getD i false := fun i => by
        by_cases hie : e.i = i
        · subst hie
          rw [if_pos rfl]
          simp [Array.getElem?_setIfInBounds_self_of_lt hiL]
        · rw [if_neg (fun h => hie h.symm)]
          simp [Array.getElem?_setIfInBounds_ne hie]
      refine ⟨by simp [hI.size], fun r e2 o2 t h1 h2 hl h3 => ?_, fun t hno => ?_, hq', fun r e2 h1 hk => ?_, fun i o2 h1 hl x hx hb => ?_⟩
      · rw [hget] at hl
        rw [putV_get]
        by_cases hie : e2.i = e.i
        · have : r = p := h.inj h1 he hie
          subst this
          rw [he] at h1
          have := Option.some.inj h1
          subst this
          have : o2 = o' := by rw [ho] at h2; exact (Option.some.inj h2).symm
          subst this
          rw [if_pos h3]
          exact hv
        · rw [if_neg hie] at hl
          have hne : o'.dst ≠ some t := fun hd => by
            rcases Nat.lt_trichotomy r p with hlt | rfl | hlt
            · exact ((h.pair hlt he h1 ho h2).1 t h3).2 hd
            · rw [he] at h1
              have := Option.some.inj h1
              subst this
              exact hie rfl
            · exact ((h.pair hlt h1 he h2 ho).1 t hd).2 h3
          rw [if_neg hne]
          exact hI.wr r e2 o2 t h1 h2 hl h3
      · rw [putV_get, if_neg (hno p e o' he ho (by rw [hget, if_pos rfl]))]
        refine hI.nw t fun r e2 o2 h1 h2 hl => hno r e2 o2 h1 h2 ?_
        rw [hget]
        split
        · rfl
        · exact hl
      · rw [hget]
        by_cases hie : e2.i = e.i
        · have : r = p := h.inj h1 he hie
          subst this
          rw [he] at h1
          have := Option.some.inj h1
          subst this
          simp only [if_true, q', if_pos hk, true_iff]
          omega
        · rw [if_neg hie]
          have hrp : r ≠ p := fun hh => by
            subst hh
            rw [he] at h1
            have := Option.some.inj h1
            subst this
            exact hie rfl
          simp only [q']
          split
          · rename_i hk'
            rw [effp hk' r e2 h1 hk]
            omega
          · exact hI.q r e2 h1 hk
      · rw [hget] at hl ⊢
        split
        · rfl
        · by_cases hie : i = e.i
          · subst hie
            have : o2 = o' := by rw [ho] at h1; exact (Option.some.inj h1).symm
            subst this
            exact hdep' x hx hb
          · rw [if_neg hie] at hl
            exact hI.closed i o2 h1 hl x hx hb
    have go : ∀ (m' : Mem) (v : V) (u : Value), v = (T p).v → Sim X.G m' (T q').H → Ext m m' → RV m' v u → wpAny X.P .any ops Q fuel (L.setIfInBounds e.i true) (a.put o'.dst u) m'.w := fun m' v u hv hS' hE' hrv =>
      ih _ _ q' m' _ (hnext v hv) ((hs.ext hE').put hdo hrv) hS' (hE.trans hE') (by have := cnt_set (ops := ops) (L := L) hilt h0; omega)
    -- the objects as this one finds them
    have hHp : e.kind = 1 → (T q).H = (T p).H := fun hk => by
      have hno : ∀ (r : Nat) (e' : En), es[r]? = some e' → e'.kind = 1 → (r < q ↔ r < p) := fun r e' he' hk' => by
        rw [← hI.q r e' he' hk', effp hk r e' he' hk']
      rcases Nat.le_total q p with hle | hle
      · exact (h.heap hle (by omega) fun r e' hr hr' he' hk' => by have := hno r e' he' hk'; omega).symm
      · exact h.heap hle hI.ql fun r e' hr hr' he' hk' => by have := hno r e' he' hk'; omega
    unfold wpOp
    rw [ho]
    simp only
    rcases vguard_sound (ops := ops) hs hguard with ⟨hw, hran⟩ | ⟨hw, hran⟩
    · rw [hw]
      simp only [if_true]
      refine .inl ?_
      by_cases hk : e.kind = 1
      · have hf := (hst.eff hran hk).congr agreeρ
        rw [← hHp hk] at hf
        refine et_sound (Q := Q) hs hS hf fun m' u hS' hE' hrv => go m' _ u rfl ?_ hE' hrv
        have : q' = p + 1 := if_pos hk
        rw [this]
        exact hS'
      · obtain ⟨hq, hH⟩ := hst.quiet hran hk
        have hqq : Qt X e.kind (T q).H (rho X.G (T p).sl) o'.op (T p).v := by
          cases hse : sens o'.op with
          | false => exact hq.heap hse
          | true =>
            by_cases hk0 : e.kind = 0
            · -- no write before it is still to come
              have hbefore : ∀ (r : Nat) (e' : En), r < p → es[r]? = some e' → e'.kind = 1 → r < q := fun r e' hr he' hk' => by
                obtain ⟨o2, ho2, -, -⟩ := h.at he'
                exact (hI.q r e' he' hk').1 (hbef _ ((h.pair hr he he' ho ho2).2.2.2.2 hk' hk0 hse))
              rcases Nat.le_total q p with hle | hle
              · rw [← h.heap hle (by omega) fun r e' hr hr' he' hk' => by have := hbefore r e' hr' he' hk'; omega]
                exact hq
              · have key : ∀ r, p ≤ r → r ≤ q → Qt X e.kind (T r).H (rho X.G (T p).sl) o'.op (T p).v := by
                  intro r hr
                  induction r with
                  | zero => intro _; have : p = 0 := by omega
                            subst this; exact hq
                  | succ n ihn =>
                    intro hnq
                    by_cases hpn : p = n + 1
                    · subst hpn; exact hq
                    · have hprev := ihn (by omega) (by omega)
                      have hql := hI.ql
                      have hen := List.getElem?_eq_getElem (l := es) (i := n) (by omega)
                      obtain ⟨o2, ho2, hst2, hor2⟩ := h.at hen
                      by_cases hk2 : es[n].kind = 1
                      · cases hr2 : (T n).ran with
                        | false => rw [(hst2.off hr2).2]; exact hprev
                        | true =>
                          have hnp : p < n := by
                            rcases Nat.lt_or_ge p n with hlt | hge
                            · exact hlt
                            · have : n = p := by omega
                              subst this
                              rw [he] at hen
                              have := Option.some.inj hen
                              rw [← this] at hk2
                              omega
                          have hl : L.getD es[n].i false = true := (hI.q n _ hen hk2).2 (by omega)
                          have hchk := (h.pair hnp hen he ho2 ho).2.2.2.1 hk2 hk0 hse
                          rw [hnot n _ hen hl] at hchk
                          have hc := hchk.resolve_left (by simp)
                          have ag := hst2.re hr2 hk2 p e o' hnp he (by simpa using ho) hk0 hse hran hc
                          unfold again at ag
                          simp only [Array.getElem?_toList, ho] at ag
                          exact ag.qt.kind (by omega) (by omega)
                      · cases hr2 : (T n).ran with
                        | false => rw [(hst2.off hr2).2]; exact hprev
                        | true => rw [(hst2.quiet hr2 hk2).2]; exact hprev
                exact key q hle (Nat.le_refl _)
            · -- a slice's literal looks at nothing
              unfold Qt at hq ⊢
              by_cases hk2 : e.kind = 2
              · rw [if_pos hk2] at hq ⊢; exact hq
              · exfalso
                have := hor.kind; omega
        refine qt_sound (Q := Q) hs hS (hqq.congr (_H' := (T q).H) agreeρ) fun m' u hS' hE' hrv => go m' _ u rfl ?_ hE' hrv
        rw [hHq' hk]
        exact hS'
    · rw [hw]
      simp only [Bool.false_eq_true, if_false]
      obtain ⟨hv, hH⟩ := hst.off hran
      refine go m .undef Go.undef hv.symm ?_ (Ext.refl m) RV.undef
      by_cases hk : e.kind = 1
      · have : q' = p + 1 := if_pos hk
        rw [this, hH, ← hHp hk]
        exact hS
      · rw [hHq' hk]
        exact hS

theorem drawD_ok (X : Cx) : DrawOk X (drawD X) := by
  intro n id ops K m0 m sl H a Q hQ hs hS hE h
  obtain ⟨M, es, hd, hchk, hv⟩ := h
  obtain ⟨T, t0, t1, t2, t3⟩ := trace es [] sl H hv
  obtain ⟨o1, o2⟩ := chkOrd_spec es [] 0 (fun i => by simp) hchk
  have ht : Told X ops M es sl T := ⟨t0, t2, fun p e he => by
    obtain ⟨o, q⟩ := o1 p e he
    exact ⟨o, q.op, q.kind, fun e' he' => q.pair e' (.inr he'), fun x hx hb => by
      obtain ⟨e', g1, g2⟩ := q.dep x hx hb
      exact ⟨e', g1.resolve_left (by simp), g2⟩, q.mask⟩, fun i hi => by
    obtain ⟨e, g1, g2⟩ := o2 i hi
    obtain ⟨p, hp⟩ := List.getElem?_of_mem (g1.resolve_left (by simp))
    exact ⟨p, e, hp, g2⟩⟩
  obtain ⟨g1, g2⟩ := hS.same (w' := { m.w with drawn := m.w.drawn + 1 }) rfl rfl rfl rfl
  have hnone : ∀ i, (Array.replicate ops.size false).getD i false = true → False := fun i hi => by
    simp only [Array.getD_eq_getD_getElem?, Array.getElem?_replicate] at hi
    split at hi <;> simp at hi
  refine wp_region_any X.mixed ?_
  refine draw_main (m0 := m0) hd ht t3 hQ ops.size (Array.replicate ops.size false) sl 0 { m with w := { m.w with drawn := m.w.drawn + 1 } } a ⟨by simp, fun p e o t _ _ hl => (hnone _ hl).elim, fun t _ => rfl, Nat.zero_le _, fun p e he hk => ⟨fun hl => (hnone _ hl).elim, fun hh => absurd hh (Nat.not_lt_zero _)⟩, fun i o _ hl => (hnone _ hl).elim⟩
    (hs.ext g2) (by rw [t1]; exact g1) (hE.trans g2) ?_
  unfold cnt
  have := List.countP_le_length (p := fun i => !(Array.replicate ops.size false).getD i true) (l := List.range ops.size)
  simpa using this
#print axioms drawD_ok
end
end Go.VL
namespace Go.VL
open Go.RowKit

def kindOf (P : Program) : TypeDesc → Option LK
  | .bool => some .bool
  | .string => some .string
  | .int k => some (.int k)
  | .float k => some (.float k)
  | .slice e => some (.slice e)
  | .array n e => some (.array n e)
  | .struct fields => if fields.toList.all fun f => P.cellsOf f.type != 0 then some (.struct (fields.toList.map fun f => (f.type, f.offset))) else none
  | .func _ _ _ => some .other
  | .pointer _ => some .other
  | _ => none

def layOf (P : Program) (t : TypeId) : Option Lay :=
  match P.underlying t, P.info? t with
  | some d, some i => match i.zero with
    | some z => if z.cells.size = i.size ∧ z.cells.toList.all plain = true then (kindOf P d).map fun k => ⟨k, i.size, i.bytes, z.cells.toList⟩ else none
    | none => none
  | _, _ => none

theorem layOf_ok {P : Program} {t : TypeId} {L : Lay} (h : layOf P t = some L) : LayOk P t L := by
  unfold layOf at h
  split at h
  · rename_i d i hd hi
    split at h
    · rename_i z hz
      split at h
      · rename_i hc
        obtain ⟨k, hk, rfl⟩ := Option.map_eq_some_iff.1 h
        refine ⟨?_, hc.2, i, z, hi, rfl, rfl, hz, rfl, hc.1⟩
        cases d <;> simp only [kindOf, Option.some.injEq] at hk <;> try (cases hk; done)
        all_goals try (subst hk; exact hd)
        all_goals try (subst hk; exact ⟨_, hd, rfl⟩)
        split at hk
        · rename_i fields ha
          simp only [Option.some.injEq] at hk
          subst hk
          exact ⟨fields, hd, rfl, ha⟩
        · cases hk
      · cases h
    · cases h
  · cases h

end Go.VL
namespace Go.VL
open Go.RowKit

section
variable {X : Cx} {n N0 : Nat} {D : DR} {Q : VQ} {sl : Sl} {H : List Ob}

theorem w_seq {a b : Code} (h : vwp X n N0 D a (VQ.then (vwp X n N0 D b Q) Q) sl H) : vwp X n N0 D (.seq a b) Q sl H := h
theorem w_reg {id : Nat} {l : List Oper} (hd : dstOk n l = true) (h : vops X l l (Q .normal) sl H) : vwp X n N0 D (.region id l.toArray false) Q sl H := ⟨hd, h⟩
theorem w_draw {id : Nat} {l : List Oper} (M : List Nat) (es : List En) (hd : dstOk n l = true) (hc : chkOrd M l.toArray [] 0 es = true) (h : vopsD X l es [] (Q .normal) sl H) : vwp X n N0 (drawD X) (.region id l.toArray true) Q sl H := ⟨M, es, hd, hc, h⟩
theorem w_t {c : Operand} {x y : Code} (hc : rho X.G sl c = .c (.v (.bool true))) (h : vwp X n N0 D x Q sl H) : vwp X n N0 D (.cond c x y) Q sl H := by
  simp only [vwp, hc, if_true]; exact h
theorem w_f {c : Operand} {x y : Code} (hc : rho X.G sl c = .c (.v (.bool false))) (h : vwp X n N0 D y Q sl H) : vwp X n N0 D (.cond c x y) Q sl H := by
  simp only [vwp, hc, Bool.false_eq_true, if_false]; exact h
theorem w_block {id : Nat} {c : Code} (h : vwp X n N0 D c (VQ.block id Q) sl H) : vwp X n N0 D (.block id c) Q sl H := h
theorem w_skip (h : Q .normal sl H) : vwp X n N0 D .skip Q sl H := h
theorem w_ret (h : Q .ret sl H) : vwp X n N0 D .ret Q sl H := h
theorem w_exit {id : Nat} (h : Q (.exit id) sl H) : vwp X n N0 D (.exit id) Q sl H := h
theorem w_loop {c : Code} (I : Nat → Sl → List Ob → Prop) (h0 : ∃ k sl0 H0, Turn N0 sl H sl0 H0 ∧ I k sl0 H0)
    (h : ∀ k sl H, I k sl H → vwp X n N0 D c (VQ.then (fun sl' H' => ∃ k' sl'' H'', Turn N0 sl' H' sl'' H'' ∧ I k' sl'' H'' ∧ k' < k) Q) sl H) : vwp X n N0 D (.loop c) Q sl H := ⟨I, h0, h⟩

theorem q_n {next : Sl → List Ob → Prop} (h : next sl H) : VQ.then next Q .normal sl H := h
theorem q_r {next : Sl → List Ob → Prop} (h : Q .ret sl H) : VQ.then next Q .ret sl H := h
theorem q_e {next : Sl → List Ob → Prop} {id : Nat} (h : Q (.exit id) sl H) : VQ.then next Q (.exit id) sl H := h
theorem q_bn {id : Nat} (h : Q .normal sl H) : VQ.block id Q .normal sl H := h
theorem q_br {id : Nat} (h : Q .ret sl H) : VQ.block id Q .ret sl H := h
theorem q_hit {id : Nat} (h : Q .normal sl H) : VQ.block id Q (.exit id) sl H := by simp only [VQ.block, if_true]; exact h
theorem r_r {rs : List ResultVar} {P : V → List Ob → Prop} {r : V} (hr : resV X rs sl H = some r) (h : P r H) : retQ X rs P .ret sl H := ⟨r, hr, h⟩
end

/-! ### Single operations -/
section
variable {X : Cx} {all r : List Oper} {K : Sl → List Ob → Prop} {sl : Sl} {H : List Ob} {d : Tmp} {ty : TypeId} {ps : String} {af : Array Edge}

theorem v_nil (h : K sl H) : vops X all [] K sl H := h

theorem v_guard_on {j : Nat} {w : Bool} {dst : Option Tmp} {op : Op} {d' : Tmp} (hj : (all[j]?).bind (·.dst) = some d') (hb : sl d' = .c (.v (.bool w))) (h : vops X all (⟨dst, op, ty, ps, af, none⟩ :: r) K sl H) :
    vops X all (⟨dst, op, ty, ps, af, some (j, w)⟩ :: r) K sl H := by
  simp only [vops, vguard, hj, hb, if_true] at h ⊢
  exact h
theorem v_guard_off {j : Nat} {w b : Bool} {dst : Option Tmp} {op : Op} {d' : Tmp} (hj : (all[j]?).bind (·.dst) = some d') (hb : sl d' = .c (.v (.bool b))) (hne : (b == w) = false) (h : vops X all r K (putV sl dst .undef) H) :
    vops X all (⟨dst, op, ty, ps, af, some (j, w)⟩ :: r) K sl H := by
  have hne' : b ≠ w := fun he => by subst he; simp at hne
  simp only [vops, vguard, hj, hb, if_neg hne']
  exact h
theorem v_guard_un {j : Nat} {w : Bool} {dst : Option Tmp} {op : Op} {d' : Tmp} (hj : (all[j]?).bind (·.dst) = some d') (hb : sl d' = .tup []) (h : vops X all r K (putV sl dst .undef) H) :
    vops X all (⟨dst, op, ty, ps, af, some (j, w)⟩ :: r) K sl H := by
  simp only [vops, vguard, hj, hb]
  exact h

/-- An operation that writes nothing. -/
theorem v_q {op : Op} (v : V) (hc : callOf op = none) (hv : evq X.lay H (rho X.G sl) op = some v) (h : vops X all r K (upd sl d v) H) : vops X all (⟨some d, op, ty, ps, af, none⟩ :: r) K sl H := by
  simp only [vops, vguard, vop, hc, hv, putV]
  exact h
/-- An operation that writes. -/
theorem v_e {op : Op} {dst : Option Tmp} {f : Eff} (hc : callOf op = none) (hq : evq X.lay H (rho X.G sl) op = none) (hv : eve X.lay H (rho X.G sl) op = some f) (hφ : f.φ) {sl' : Sl} {H' : List Ob} (hs : putV sl dst f.v = sl') (hH : f.H = H') (h : vops X all r K sl' H') :
    vops X all (⟨dst, op, ty, ps, af, none⟩ :: r) K sl H := by
  subst hs hH
  simp only [vops, vguard, vop, hc, hq, hv]
  exact ⟨hφ, h⟩

theorem v_move {x : Operand} {c : C} (hx : rho X.G sl x = .c c) (h : vops X all r K (upd sl d (.c c)) H) : vops X all (⟨some d, .move x, ty, ps, af, none⟩ :: r) K sl H :=
  v_q (.c c) rfl (by simp only [evq, hx]) h
theorem v_move_t {x : Operand} {vs : List V} (hx : rho X.G sl x = .tup vs) (h : vops X all r K (upd sl d (.tup vs)) H) : vops X all (⟨some d, .move x, ty, ps, af, none⟩ :: r) K sl H :=
  v_q (.tup vs) rfl (by simp only [evq, hx]) h
theorem v_assign {x : Operand} {c : C} (hx : rho X.G sl x = .c c) (h : vops X all r K (upd sl d (.c c)) H) : vops X all (⟨some d, .assign x, ty, ps, af, none⟩ :: r) K sl H :=
  v_q (.c c) rfl (by simp only [evq, hx]) h
theorem v_pick_t {c a b : Operand} {v : C} (hc : rho X.G sl c = .c (.v (.bool true))) (ha : rho X.G sl a = .c v) (h : vops X all r K (upd sl d (.c v)) H) : vops X all (⟨some d, .pick c a b, ty, ps, af, none⟩ :: r) K sl H :=
  v_q (.c v) rfl (by simp only [evq, hc, ha, if_true]) h
theorem v_pick_f {c a b : Operand} {v : C} (hc : rho X.G sl c = .c (.v (.bool false))) (hb : rho X.G sl b = .c v) (h : vops X all r K (upd sl d (.c v)) H) : vops X all (⟨some d, .pick c a b, ty, ps, af, none⟩ :: r) K sl H :=
  v_q (.c v) rfl (by simp only [evq, hc, hb, Bool.false_eq_true, if_false]) h

theorem v_load_vw {t : TypeId} {x : Operand} {L : Lay} {o : Bool} {cs : List C} {off : Nat} (v : V) (hL : X.lay t = some L) (hx : rho X.G sl x = .c (.vw o cs off)) (hl : Nat.ble (off + L.size) cs.length = true) (hv : mkV L.kind.agg (reowns o (sub cs off L.size)) = some v)
    (h : vops X all r K (upd sl d v) H) : vops X all (⟨some d, .load t x, ty, ps, af, none⟩ :: r) K sl H :=
  v_q v rfl (by simp only [evq, hL, hx]; rw [if_pos (Nat.le_of_ble_eq_true hl)]; exact hv) h
theorem v_load_pt {t : TypeId} {x : Operand} {L : Lay} {id off : Nat} {cs : List C} {tt : TypeId} (v : V) (hL : X.lay t = some L) (hx : rho X.G sl x = .c (.pt id off)) (ho : H[id]? = some ⟨cs, tt, true⟩) (hl : Nat.ble (off + L.size) cs.length = true) (hv : mkV L.kind.agg (sub cs off L.size) = some v)
    (h : vops X all r K (upd sl d v) H) : vops X all (⟨some d, .load t x, ty, ps, af, none⟩ :: r) K sl H :=
  v_q v rfl (by simp only [evq, hL, hx, ho]; rw [if_pos ⟨trivial, Nat.le_of_ble_eq_true hl⟩]; exact hv) h
theorem v_fa_pt {s : TypeId} {x : Operand} {f : Nat} {fs : List (TypeId × Nat)} {a b : Nat} {z : List Value} {id off : Nat} {p : TypeId × Nat} (hL : X.lay s = some ⟨.struct fs, a, b, z⟩) (hx : rho X.G sl x = .c (.pt id off)) (hp : fs[f]? = some p) {off' : Nat} (ho : off + p.2 = off')
    (h : vops X all r K (upd sl d (.c (.pt id off'))) H) : vops X all (⟨some d, .fieldAddr s x f, ty, ps, af, none⟩ :: r) K sl H :=
  v_q _ rfl (by simp only [evq, hL, hx, hp, Option.map_some, ho]) h
theorem v_fa_vw {s : TypeId} {x : Operand} {f : Nat} {fs : List (TypeId × Nat)} {a b : Nat} {z : List Value} {o : Bool} {cs : List C} {off : Nat} {p : TypeId × Nat} (hL : X.lay s = some ⟨.struct fs, a, b, z⟩) (hx : rho X.G sl x = .c (.vw o cs off)) (hp : fs[f]? = some p) {off' : Nat} (ho : off + p.2 = off')
    (h : vops X all r K (upd sl d (.c (.vw o cs off'))) H) : vops X all (⟨some d, .fieldAddr s x f, ty, ps, af, none⟩ :: r) K sl H :=
  v_q _ rfl (by simp only [evq, hL, hx, hp, Option.map_some, ho]) h
theorem v_nil_pt {x : Operand} {id off : Nat} (hx : rho X.G sl x = .c (.pt id off)) (h : vops X all r K (upd sl d (.c (.pt id off))) H) : vops X all (⟨some d, .nilCheck x, ty, ps, af, none⟩ :: r) K sl H :=
  v_q _ rfl (by simp only [evq, hx]) h
theorem v_extract_c {x : Operand} {i : Nat} {vs : List V} {c : C} (hx : rho X.G sl x = .tup vs) (hi : vs[i]? = some (.c c)) (h : vops X all r K (upd sl d (.c c)) H) : vops X all (⟨some d, .extract x i, ty, ps, af, none⟩ :: r) K sl H :=
  v_q _ rfl (by simp only [evq, hx, hi]) h
theorem v_extract_a {x : Operand} {i : Nat} {vs : List V} {cs : List C} (hx : rho X.G sl x = .tup vs) (hi : vs[i]? = some (.agg cs)) (h : vops X all r K (upd sl d (.agg cs)) H) : vops X all (⟨some d, .extract x i, ty, ps, af, none⟩ :: r) K sl H :=
  v_q _ rfl (by simp only [evq, hx, hi]) h
theorem v_fn {g : FuncId} {caps : Array Operand} {cs : List C} (hcs : capsOf (rho X.G sl) caps.toList = some cs) (h : vops X all r K (upd sl d (.c (.fn g cs))) H) : vops X all (⟨some d, .makeFunc (.func g) #[] caps, ty, ps, af, none⟩ :: r) K sl H :=
  v_q _ rfl (by simp only [evq, hcs]; rfl) h

theorem v_len_sl {x : Operand} {t e : TypeId} {a b : Nat} {z : List Value} {o : Bool} {m k : Nat} {cs : List C} (hL : X.lay t = some ⟨.slice e, a, b, z⟩) (hx : rho X.G sl x = .c (.sl o m k cs)) (h : vops X all r K (upd sl d (.c (.v (.int .i64 (m : Int))))) H) :
    vops X all (⟨some d, .call ⟨.builtin .len, #[x], #[t]⟩, ty, ps, af, none⟩ :: r) K sl H :=
  v_q _ rfl (by simp only [evq, hL, hx, lenV, Option.map_some]) h
theorem v_len_mu {x : Operand} {t e : TypeId} {a b : Nat} {z : List Value} {id off m k : Nat} (hL : X.lay t = some ⟨.slice e, a, b, z⟩) (hx : rho X.G sl x = .c (.mu id off m k)) (h : vops X all r K (upd sl d (.c (.v (.int .i64 (m : Int))))) H) :
    vops X all (⟨some d, .call ⟨.builtin .len, #[x], #[t]⟩, ty, ps, af, none⟩ :: r) K sl H :=
  v_q _ rfl (by simp only [evq, hL, hx, lenV, Option.map_some]) h
theorem v_len_s {x : Operand} {t : TypeId} {a b : Nat} {z : List Value} {s : ByteArray} (hL : X.lay t = some ⟨.string, a, b, z⟩) (hx : rho X.G sl x = .c (.v (.string s))) (h : vops X all r K (upd sl d (.c (.v (.int .i64 (s.size : Int))))) H) :
    vops X all (⟨some d, .call ⟨.builtin .len, #[x], #[t]⟩, ty, ps, af, none⟩ :: r) K sl H :=
  v_q _ rfl (by simp only [evq, hL, hx]) h
/-! Numbers -/
theorem v_bin {op : BinOp} {t ty2 : TypeId} {x y : Operand} {L : Lay} {a b c : C} (hL : X.lay t = some L) (hx : rho X.G sl x = .c a) (hy : rho X.G sl y = .c b) (hc : bin op L.kind a b = some c) (h : vops X all r K (upd sl d (.c c)) H) : vops X all (⟨some d, .binOp op t x y ty2, ty, ps, af, none⟩ :: r) K sl H :=
  v_q _ rfl (by simp only [evq, hL, hx, hy, hc, Option.map_some]) h
theorem wrap_of {k : IntKind} {a : Int} (h : k.min ≤ a ∧ a ≤ k.max) : k.wrap a = a := by
  obtain ⟨h1, h2⟩ := h
  cases k <;> simp only [IntKind.min, IntKind.max, IntKind.wrap, IntKind.bits, IntKind.signed] at * <;> simp at * <;> omega
theorem v_add {t ty2 : TypeId} {x y : Operand} {L : Lay} {k : IntKind} {a b : Int} (hL : X.lay t = some L) (hx : rho X.G sl x = .c (.v (.int k a))) (hy : rho X.G sl y = .c (.v (.int k b))) (hw : k.min ≤ a + b ∧ a + b ≤ k.max) (h : vops X all r K (upd sl d (.c (.v (.int k (a + b))))) H) :
    vops X all (⟨some d, .binOp .add t x y ty2, ty, ps, af, none⟩ :: r) K sl H :=
  v_bin hL hx hy (by simp only [bin, if_true, binI, wrap_of hw]) h
theorem v_sub {t ty2 : TypeId} {x y : Operand} {L : Lay} {k : IntKind} {a b : Int} (hL : X.lay t = some L) (hx : rho X.G sl x = .c (.v (.int k a))) (hy : rho X.G sl y = .c (.v (.int k b))) (hw : k.min ≤ a - b ∧ a - b ≤ k.max) (h : vops X all r K (upd sl d (.c (.v (.int k (a - b))))) H) :
    vops X all (⟨some d, .binOp .sub t x y ty2, ty, ps, af, none⟩ :: r) K sl H :=
  v_bin hL hx hy (by simp only [bin, if_true, binI, wrap_of hw]) h
theorem v_mul {t ty2 : TypeId} {x y : Operand} {L : Lay} {k : IntKind} {a b : Int} (hL : X.lay t = some L) (hx : rho X.G sl x = .c (.v (.int k a))) (hy : rho X.G sl y = .c (.v (.int k b))) (hw : k.min ≤ a * b ∧ a * b ≤ k.max) (h : vops X all r K (upd sl d (.c (.v (.int k (a * b))))) H) :
    vops X all (⟨some d, .binOp .mul t x y ty2, ty, ps, af, none⟩ :: r) K sl H :=
  v_bin hL hx hy (by simp only [bin, if_true, binI, wrap_of hw]) h
theorem cmp_step {op : BinOp} {t ty2 : TypeId} {x y : Operand} {L : Lay} {a b : C} {p : Prop} [Decidable p] (hL : X.lay t = some L) (hx : rho X.G sl x = .c a) (hy : rho X.G sl y = .c b) (hb : bin op L.kind a b = some (.v (.bool (decide p))))
    (h1 : p → vops X all r K (upd sl d (.c (.v (.bool true)))) H) (h2 : ¬ p → vops X all r K (upd sl d (.c (.v (.bool false)))) H) : vops X all (⟨some d, .binOp op t x y ty2, ty, ps, af, none⟩ :: r) K sl H := by
  refine v_bin hL hx hy hb ?_
  by_cases hp : p
  · simp only [hp, decide_true]; exact h1 hp
  · simp only [hp, decide_false]; exact h2 hp
theorem v_lss {t ty2 : TypeId} {x y : Operand} {L : Lay} {k : IntKind} {a b : Int} (hL : X.lay t = some L) (hx : rho X.G sl x = .c (.v (.int k a))) (hy : rho X.G sl y = .c (.v (.int k b)))
    (h1 : a < b → vops X all r K (upd sl d (.c (.v (.bool true)))) H) (h2 : ¬ a < b → vops X all r K (upd sl d (.c (.v (.bool false)))) H) : vops X all (⟨some d, .binOp .lss t x y ty2, ty, ps, af, none⟩ :: r) K sl H :=
  cmp_step hL hx hy (p := a < b) (by simp only [bin, if_true, binI]) h1 h2
theorem v_leq {t ty2 : TypeId} {x y : Operand} {L : Lay} {k : IntKind} {a b : Int} (hL : X.lay t = some L) (hx : rho X.G sl x = .c (.v (.int k a))) (hy : rho X.G sl y = .c (.v (.int k b)))
    (h1 : a ≤ b → vops X all r K (upd sl d (.c (.v (.bool true)))) H) (h2 : ¬ a ≤ b → vops X all r K (upd sl d (.c (.v (.bool false)))) H) : vops X all (⟨some d, .binOp .leq t x y ty2, ty, ps, af, none⟩ :: r) K sl H :=
  cmp_step hL hx hy (p := a ≤ b) (by simp only [bin, if_true, binI]) h1 h2
theorem v_gtr {t ty2 : TypeId} {x y : Operand} {L : Lay} {k : IntKind} {a b : Int} (hL : X.lay t = some L) (hx : rho X.G sl x = .c (.v (.int k a))) (hy : rho X.G sl y = .c (.v (.int k b)))
    (h1 : b < a → vops X all r K (upd sl d (.c (.v (.bool true)))) H) (h2 : ¬ b < a → vops X all r K (upd sl d (.c (.v (.bool false)))) H) : vops X all (⟨some d, .binOp .gtr t x y ty2, ty, ps, af, none⟩ :: r) K sl H :=
  cmp_step hL hx hy (p := b < a) (by simp only [bin, if_true, binI]) h1 h2
theorem v_geq {t ty2 : TypeId} {x y : Operand} {L : Lay} {k : IntKind} {a b : Int} (hL : X.lay t = some L) (hx : rho X.G sl x = .c (.v (.int k a))) (hy : rho X.G sl y = .c (.v (.int k b)))
    (h1 : b ≤ a → vops X all r K (upd sl d (.c (.v (.bool true)))) H) (h2 : ¬ b ≤ a → vops X all r K (upd sl d (.c (.v (.bool false)))) H) : vops X all (⟨some d, .binOp .geq t x y ty2, ty, ps, af, none⟩ :: r) K sl H :=
  cmp_step hL hx hy (p := b ≤ a) (by simp only [bin, if_true, binI]) h1 h2
theorem beq_dec (a b : Int) : (a == b) = decide (a = b) := by
  by_cases h : a = b <;> simp [h]
theorem bne_dec (a b : Int) : (a != b) = decide (¬ a = b) := by
  by_cases h : a = b <;> simp [h]
theorem v_eql {t ty2 : TypeId} {x y : Operand} {L : Lay} {k : IntKind} {a b : Int} (hL : X.lay t = some L) (hx : rho X.G sl x = .c (.v (.int k a))) (hy : rho X.G sl y = .c (.v (.int k b)))
    (h1 : a = b → vops X all r K (upd sl d (.c (.v (.bool true)))) H) (h2 : ¬ a = b → vops X all r K (upd sl d (.c (.v (.bool false)))) H) : vops X all (⟨some d, .binOp .eql t x y ty2, ty, ps, af, none⟩ :: r) K sl H :=
  cmp_step hL hx hy (p := a = b) (by simp only [bin, if_true, binI, beq_dec]) h1 h2
theorem v_neq {t ty2 : TypeId} {x y : Operand} {L : Lay} {k : IntKind} {a b : Int} (hL : X.lay t = some L) (hx : rho X.G sl x = .c (.v (.int k a))) (hy : rho X.G sl y = .c (.v (.int k b)))
    (h1 : ¬ a = b → vops X all r K (upd sl d (.c (.v (.bool true)))) H) (h2 : a = b → vops X all r K (upd sl d (.c (.v (.bool false)))) H) : vops X all (⟨some d, .binOp .neq t x y ty2, ty, ps, af, none⟩ :: r) K sl H :=
  cmp_step hL hx hy (p := ¬ a = b) (by simp only [bin, if_true, binI, bne_dec]) h1 (fun h => h2 (Decidable.of_not_not h))
theorem v_not {t : TypeId} {x : Operand} {b : Bool} (b' : Bool) (hx : rho X.G sl x = .c (.v (.bool b))) (hb : (!b) = b') (h : vops X all r K (upd sl d (.c (.v (.bool b')))) H) : vops X all (⟨some d, .unOp .not t x, ty, ps, af, none⟩ :: r) K sl H :=
  v_q _ rfl (by simp only [evq, hx, un, Option.map_some, hb]) h

/-! Writing -/
theorem v_box {t : TypeId} {x : Operand} {L : Lay} {cs : List C} {H' : List Ob} (hL : X.lay t = some L) (hx : (rho X.G sl x).cells = some cs) (hH : H ++ [⟨cs, t, true⟩] = H') {m : Nat} (hm : H.length = m) (h : vops X all r K (upd sl d (.c (.pt m 0))) H') :
    vops X all (⟨some d, .box t x, ty, ps, af, none⟩ :: r) K sl H :=
  v_e (f := ⟨.c (.pt m 0), H', True⟩) rfl rfl (by simp only [eve, hL, hx, hH, hm]) trivial rfl rfl h
theorem v_alloc {t : TypeId} {L : Lay} {H' : List Ob} (hL : X.lay t = some L) (hH : H ++ [⟨L.zero.map cOf, t, true⟩] = H') {m : Nat} (hm : H.length = m) (h : vops X all r K (upd sl d (.c (.pt m 0))) H') :
    vops X all (⟨some d, .alloc t, ty, ps, af, none⟩ :: r) K sl H :=
  v_e (f := ⟨.c (.pt m 0), H', True⟩) rfl rfl (by simp only [eve, hL, hH, hm]) trivial rfl rfl h
theorem v_store {t : TypeId} {a x : Operand} {L : Lay} {id off : Nat} {cs ocs : List C} {tt : TypeId} {H' : List Ob} (hL : X.lay t = some L) (ha : rho X.G sl a = .c (.pt id off)) (hx : (rho X.G sl x).cells = some cs) (ho : H[id]? = some ⟨ocs, tt, true⟩)
    (hl : Nat.beq cs.length L.size = true) (hf : Nat.ble (off + L.size) ocs.length = true) (hH : H.set id ⟨setCells ocs off cs, tt, true⟩ = H') (h : vops X all r K sl H') :
    vops X all (⟨none, .store t a x, ty, ps, af, none⟩ :: r) K sl H :=
  v_e (f := ⟨.any, H', True⟩) rfl rfl (by simp only [eve, hL, ha, hx, ho]; rw [if_pos ⟨trivial, Nat.eq_of_beq_eq_true hl, Nat.le_of_ble_eq_true hf⟩, hH]) trivial rfl rfl h

/-! Calls -/
theorem vw_v {x : Value} : VwV H (.c (.v x)) (.c (.v x)) := .c (.dn .v rfl)
theorem vw_f {k : FloatKind} {x : Option Nat} : VwV H (.c (.f k x)) (.c (.f k x)) := .c (.dn .f rfl)
theorem vw_sl {b : Bool} {m k : Nat} {cs : List C} : VwV H (.c (.sl b m k cs)) (.c (.sl false m k cs)) := .c (.dn (.sl (fun h => by cases h)) rfl)
theorem vw_vw {b : Bool} {off : Nat} {cs : List C} : VwV H (.c (.vw b cs off)) (.c (.vw false cs off)) := .c (.dn (.vw (fun h => by cases h)) rfl)
inductive VwL (H : List Ob) : List C → List C → Prop
  | nil : VwL H [] []
  | cons {c c' : C} {cs cs' : List C} (h : VwV H (.c c) (.c c')) (hs : VwL H cs cs') : VwL H (c :: cs) (c' :: cs')
theorem VwL.spec {cs cs' : List C} (h : VwL H cs cs') : cs'.length = cs.length ∧ ∀ (j : Nat) (c c' : C), cs[j]? = some c → cs'[j]? = some c' → Vw H c c' := by
  induction h with
  | nil => exact ⟨rfl, fun j c c' h => by simp at h⟩
  | cons h hs ih =>
    refine ⟨by simp [ih.1], fun j x x' hj hj' => ?_⟩
    cases j with
    | zero => simp at hj hj'; subst hj hj'; cases h with | c h => exact h
    | succ j => exact ih.2 j x x' (by simpa using hj) (by simpa using hj')
theorem vw_agg {cs cs' : List C} (h : VwL H cs cs') : VwV H (.agg cs) (.agg cs') := .agg h.spec.1 h.spec.2
theorem vw_fn {g : FuncId} {cs cs' : List C} (h : VwL H cs cs') : VwV H (.c (.fn g cs)) (.c (.fn g cs')) := .c (.fn h.spec.1 h.spec.2)

/-- A call on data, by its contract. -/
theorem v_call {f : Operand} {args : Array Operand} {tys : Array TypeId} {g : FuncId} {caps : List C} {args' : List V} {res : V} (hp : PureC X g args' res) (ho : ownV res = true) (hf : rho X.G sl f = .c (.fn g caps)) {ags : List V} (has : args.toList.map (rho X.G sl) ++ caps.map .c = ags) (hv : Views H ags args')
    (h : vops X all r K (upd sl d res) H) : vops X all (⟨some d, .call ⟨.value f, args, tys⟩, ty, ps, af, none⟩ :: r) K sl H := by
  subst has
  simp only [vops, vguard, vop, callOf, hf, target, putV]
  exact CallC.of_pure ⟨args', hv, hp, ho⟩ h
end

/-! ### Slices of things that are written as so many cells -/
def flat {α : Type} (enc : α → List C) (xs : List α) : List C := xs.flatMap enc

theorem flat_length {α : Type} {enc : α → List C} {k : Nat} (he : ∀ a, (enc a).length = k) (xs : List α) : (flat enc xs).length = xs.length * k := by
  induction xs with
  | nil => simp [flat]
  | cons x xs ih =>
    simp only [flat, List.flatMap_cons, List.length_append, List.length_cons] at *
    rw [ih, he, Nat.add_mul]; omega
theorem flat_append {α : Type} {enc : α → List C} (xs ys : List α) : flat enc (xs ++ ys) = flat enc xs ++ flat enc ys := by simp [flat]
theorem sub_flat {α : Type} {enc : α → List C} {k : Nat} (he : ∀ a, (enc a).length = k) : ∀ {xs : List α} {i : Nat} (hi : i < xs.length), sub (flat enc xs) (i * k) k = enc xs[i]
  | x :: xs, 0, _ => by
    simp only [sub, flat, List.flatMap_cons, Nat.zero_mul, List.drop_zero]
    rw [List.take_append_of_le_length (by rw [he]; exact Nat.le_refl _), List.take_of_length_le (by rw [he]; exact Nat.le_refl _)]; rfl
  | x :: xs, i + 1, hi => by
    have := sub_flat he (xs := xs) (i := i) (by simpa using hi)
    simp only [sub, flat, List.flatMap_cons] at this ⊢
    have hd : (i + 1) * k = (enc x).length + i * k := by rw [he, Nat.add_mul]; omega
    rw [hd, ← List.drop_drop, List.drop_left]
    exact this

section
variable {X : Cx} {all r : List Oper} {K : Sl → List Ob → Prop} {sl : Sl} {H : List Ob} {d : Tmp} {ty : TypeId} {ps : String} {af : Array Edge}

end
end Go.VL
namespace Go.VL
open Go.RowKit

/-- The slots that count. -/
def sls : List (Nat × V) → Sl
  | [] => fun _ => .any
  | (t, v) :: r => upd (sls r) t v

def TrL (H : List Ob) (g : List (Option Nat)) (sl : Sl) : List (Nat × V) → Prop
  | [] => True
  | (t, v) :: r => TrV H g (sl t) v ∧ TrL H g sl r

theorem TrL.spec {H : List Ob} {g : List (Option Nat)} {sl : Sl} : ∀ {l : List (Nat × V)}, TrL H g sl l → ∀ t, TrV H g (sl t) (sls l t)
  | [], _, t => .any
  | (d, v) :: r, h, t => by
    have h2 := h.2.spec t
    simp only [sls, upd]
    cases hb : Nat.beq t d with
    | true =>
      have : t = d := Nat.eq_of_beq_eq_true hb
      subst this
      exact h.1
    | false => exact h2

section
variable {H : List Ob} {g : List (Option Nat)}
theorem tr_v {x : Value} : TrV H g (.c (.v x)) (.c (.v x)) := .c (.dn .v)
theorem tr_f {k : FloatKind} {x : Option Nat} : TrV H g (.c (.f k x)) (.c (.f k x)) := .c (.dn .f)
theorem tr_sl {b : Bool} {n k : Nat} {cs : List C} : TrV H g (.c (.sl b n k cs)) (.c (.sl b n k cs)) := .c (.sl (fun h => h))
theorem tr_pt {i id off : Nat} (h : g[i]? = some (some id)) : TrV H g (.c (.pt id off)) (.c (.pt i off)) := .c (.pt h)
theorem tr_mu {i id off n k : Nat} (h : g[i]? = some (some id)) : TrV H g (.c (.mu id off n k)) (.c (.mu i off n k)) := .c (.mu h)
theorem tr_nil {i k : Nat} (h : g[i]? = some none) : TrV H g (.c (.v (.slice none 0 0))) (.c (.mu i 0 0 k)) := .c (.nil h)
end

/-- A cell that is no live object, and looks the same wherever one looks from. -/
def stays : C → Bool
  | .v _ => true
  | .f _ _ => true
  | .sl _ _ _ _ => true
  | .vw _ _ _ => true
  | .any => true
  | _ => false
theorem Tr.stay {H : List Ob} {g : List (Option Nat)} {c : C} (h : stays c = true) : Tr H g c c := by
  cases c with
  | v x => exact .dn .v
  | f k x => exact .dn .f
  | sl b n k cs => exact .sl (fun h => h)
  | vw b cs off => exact .vw (fun h => h)
  | any => exact .dn .any
  | _ => cases h

/-- Cells, one by one. -/
inductive TrC (H : List Ob) (g : List (Option Nat)) : List C → List C → Prop
  | nil : TrC H g [] []
  | cons {c c' : C} {cs cs' : List C} (h : TrV H g (.c c) (.c c')) (hs : TrC H g cs cs') : TrC H g (c :: cs) (c' :: cs')
  | stay {cs : List C} (h : ∀ c ∈ cs, stays c = true) : TrC H g cs cs
theorem TrC.spec {H : List Ob} {g : List (Option Nat)} {cs cs' : List C} (h : TrC H g cs cs') : cs'.length = cs.length ∧ ∀ (j : Nat) (c c' : C), cs[j]? = some c → cs'[j]? = some c' → Tr H g c c' := by
  induction h with
  | nil => exact ⟨rfl, fun j c c' h => by simp at h⟩
  | cons h hs ih =>
    refine ⟨by simp [ih.1], fun j x x' hj hj' => ?_⟩
    cases j with
    | zero => simp at hj hj'; subst hj hj'; cases h with | c h => exact h
    | succ j => exact ih.2 j x x' (by simpa using hj) (by simpa using hj')
  | stay h =>
    refine ⟨rfl, fun j c c' hj hj' => ?_⟩
    rw [hj] at hj'
    have := Option.some.inj hj'
    subst this
    exact .stay (h c (List.mem_of_getElem? hj))
theorem tr_agg {H : List Ob} {g : List (Option Nat)} {cs cs' : List C} (h : TrC H g cs cs') : TrV H g (.agg cs) (.agg cs') := .agg h.spec.1 h.spec.2

/-- The objects, one by one: 'i': how many stand before. -/
def TurnO (H : List Ob) (g : List (Option Nat)) : List (Option Nat) → List Ob → Prop
  | [], [] => True
  | none :: gs, o :: os => o.cs = [] ∧ TurnO H g gs os
  | some id :: gs, o' :: os => (∃ cs, H[id]? = some ⟨cs, o'.t, true⟩ ∧ TrC H g cs o'.cs) ∧ TurnO H g gs os
  | _, _ => False
def nodupO : List (Option Nat) → Bool
  | [] => true
  | none :: r => nodupO r
  | some i :: r => !r.contains (some i) && nodupO r
def fixO (g : List (Option Nat)) : Nat → Bool
  | 0 => true
  | n + 1 => g[n]? == some (some n) && fixO g n

theorem TurnO.spec {H : List Ob} {g : List (Option Nat)} : ∀ {gs : List (Option Nat)} {os : List Ob}, TurnO H g gs os → gs.length = os.length ∧
    (∀ (i id : Nat) (o' : Ob), os[i]? = some o' → gs[i]? = some (some id) → ∃ cs, H[id]? = some ⟨cs, o'.t, true⟩ ∧ TrC H g cs o'.cs) ∧ (∀ (i : Nat) (o' : Ob), os[i]? = some o' → gs[i]? = some none → o'.cs = [])
  | [], [], _ => ⟨rfl, fun i id o h => by simp at h, fun i o h => by simp at h⟩
  | none :: gs, o :: os, h => by
    obtain ⟨h1, h2, h3⟩ := h.2.spec
    refine ⟨by simp [h1], fun i id o' ho hg => ?_, fun i o' ho hg => ?_⟩
    · cases i with
      | zero => simp at hg
      | succ i => exact h2 i id o' (by simpa using ho) (by simpa using hg)
    · cases i with
      | zero => simp at ho; subst ho; exact h.1
      | succ i => exact h3 i o' (by simpa using ho) (by simpa using hg)
  | some id0 :: gs, o :: os, h => by
    obtain ⟨h1, h2, h3⟩ := h.2.spec
    refine ⟨by simp [h1], fun i id o' ho hg => ?_, fun i o' ho hg => ?_⟩
    · cases i with
      | zero => simp at ho hg; subst ho hg; exact h.1
      | succ i => exact h2 i id o' (by simpa using ho) (by simpa using hg)
    · cases i with
      | zero => simp at hg
      | succ i => exact h3 i o' (by simpa using ho) (by simpa using hg)

theorem nodupO_spec : ∀ {g : List (Option Nat)}, nodupO g = true → ∀ (i j id : Nat), g[i]? = some (some id) → g[j]? = some (some id) → i = j
  | [], _, i, j, id, h, _ => by simp at h
  | none :: r, h, i, j, id, hi, hj => by
    cases i with
    | zero => simp at hi
    | succ i => cases j with
      | zero => simp at hj
      | succ j => rw [nodupO_spec (g := r) h i j id (by simpa using hi) (by simpa using hj)]
  | some a :: r, h, i, j, id, hi, hj => by
    simp only [nodupO, Bool.and_eq_true, Bool.not_eq_true'] at h
    have hno : ∀ k : Nat, r[k]? ≠ some (some a) := fun k hk => by
      have : (some a) ∈ r := List.mem_of_getElem? hk
      have h1 := h.1
      simp [this] at h1
    cases i with
    | zero => cases j with
      | zero => rfl
      | succ j => simp at hi hj; subst hi; exact absurd hj (hno j)
    | succ i => cases j with
      | zero => simp at hi hj; subst hj; exact absurd hi (hno i)
      | succ j => rw [nodupO_spec (g := r) h.2 i j id (by simpa using hi) (by simpa using hj)]

theorem fixO_spec {g : List (Option Nat)} : ∀ {n : Nat}, fixO g n = true → ∀ i, i < n → g[i]? = some (some i)
  | n + 1, h, i, hi => by
    simp only [fixO, Bool.and_eq_true, beq_iff_eq] at h
    by_cases he : i = n
    · subst he; exact h.1
    · exact fixO_spec h.2 i (by omega)

/-- Looking anew: the slots that are kept, the objects that are kept. -/
theorem turn {N0 : Nat} {sl : Sl} {H H' : List Ob} (g : List (Option Nat)) {l : List (Nat × V)} (hn : nodupO g = true) (hf : fixO g N0 = true) (hlt : (g.all fun x => match x with | some i => Nat.blt i H.length | none => true) = true) (ho : TurnO H g g H') (hs : TrL H g sl l) : Turn N0 sl H (sls l) H' := by
  obtain ⟨h1, h2, h3⟩ := ho.spec
  refine ⟨g, ⟨h1, fixO_spec hf, fun i id o' hi hl hg => ?_, fun i o' hi hl hg => h3 i o' hi hg, nodupO_spec hn, fun i id hi => ?_⟩, hs.spec⟩
  · obtain ⟨cs, k1, k2⟩ := h2 i id o' hi hg
    obtain ⟨k3, k4⟩ := k2.spec
    exact ⟨_, k1, rfl, rfl, Nat.le_of_eq k3, k4⟩
  · have := List.all_eq_true.1 hlt _ (List.mem_of_getElem? hi)
    exact Nat.le_of_ble_eq_true this

/-- No objects. -/
theorem turn0 {sl : Sl} {H : List Ob} {l : List (Nat × V)} (hs : TrL H [] sl l) : Turn 0 sl H (sls l) [] :=
  turn [] rfl rfl rfl trivial hs

/-! What a function answers -/
theorem a_b {H : List Ob} {b : Bool} {p : Prop} [Decidable p] (h : b = true ↔ p) : TrV H [] (.c (.v (.bool b))) (.c (.v (.bool (decide p)))) := by
  have : b = decide p := by
    cases b with
    | true => simp [h.1 rfl]
    | false =>
      have : ¬ p := fun hp => by have := h.2 hp; cases this
      simp [this]
  rw [this]
  exact tr_v
end Go.VL
namespace Go.VL
open Go.RowKit

def eveOp : Op → Bool
  | .box _ _ => true
  | .alloc _ => true
  | .store _ _ _ => true
  | .buildSlice _ _ _ => true
  | .makeSlice _ _ _ => true
  | .call { callee := .builtin .append, args := _, argTypes := _ } => true
  | .call { callee := .builtin .copy, args := _, argTypes := _ } => true
  | .call { callee := .builtin .clear, args := _, argTypes := _ } => true
  | _ => false
theorem eve_none {lay : TypeId → Option Lay} {H : List Ob} {ρ : Operand → V} {op : Op} (h : eveOp op = false) : eve lay H ρ op = none := by
  cases op <;> try rfl
  all_goals try (cases h; done)
  rename_i c
  obtain ⟨callee, args, tys⟩ := c
  cases callee with
  | builtin b => cases b <;> first | rfl | (cases h; done)
  | value f => rfl
  | invoke r m => rfl
theorem evq_none {lay : TypeId → Option Lay} {H : List Ob} {ρ : Operand → V} {op : Op} (h : eveOp op = true) : evq lay H ρ op = none ∧ callOf op = none := by
  cases op <;> try (cases h; done)
  all_goals try exact ⟨rfl, rfl⟩
  rename_i c
  obtain ⟨callee, args, tys⟩ := c
  cases callee with
  | builtin b => cases b <;> first | exact ⟨rfl, rfl⟩ | (cases h; done)
  | value f => cases h
  | invoke r m => cases h

def gb (all : List Oper) (sl : Sl) : Option (Nat × Bool) → Option Bool
  | none => some true
  | some (j, w) => match (all[j]?).bind (·.dst) with
    | some d => match sl d with
      | .c (.v (.bool b)) => some (b == w)
      | .tup _ => some false
      | _ => none
    | none => none
theorem gb_on {all : List Oper} {sl : Sl} {o : Oper} {A B : Prop} (h : gb all sl o.guard = some true) (hA : A) : vguard all sl o A B := by
  unfold gb at h
  unfold vguard
  split
  · exact hA
  · rename_i j w hg
    rw [hg] at h
    simp only at h
    split
    · rename_i d hd
      rw [hd] at h
      simp only at h
      split at h
      · rename_i b hb
        rw [hb]
        simp only [Option.some.injEq, beq_iff_eq] at h
        simp only [if_pos h]
        exact hA
      · cases h
      · cases h
    · rename_i hd
      rw [hd] at h
      cases h
theorem upd_same (sl : Sl) (d : Tmp) (v : V) : upd sl d v d = v := by simp [upd]

section
variable {X : Cx} {all : List Oper} {r : List En} {hist : Hist} {K : Sl → List Ob → Prop} {sl : Sl} {H : List Ob} {i : Nat} {chk : List Nat} {d : Tmp} {op : Op} {ty : TypeId} {ps : String} {af : Array Edge} {g : Option (Nat × Bool)}

theorem d_nil (h : K sl H) : vopsD X all [] hist K sl H := h
/-- An operation that writes nothing, and is no call. -/
theorem d_q {b : Bool} (ho : all[i]? = some ⟨some d, op, ty, ps, af, g⟩) (hg : gb all sl g = some true) (hc : callOf op = none) (he : eveOp op = false) (hs : sens op = b)
    (h : vops X [] [⟨some d, op, ty, ps, af, none⟩] (fun sl' H' => vopsD X all r (if b then (i, sl, sl' d) :: hist else hist) K sl' H') sl H) : vopsD X all (⟨i, 0, chk⟩ :: r) hist K sl H := by
  simp only [vopsD, ho]
  refine gb_on hg ?_
  rw [if_neg (by omega)]
  simp only [vops, vguard, vop, hc, eve_none he] at h
  unfold vq
  rw [if_neg (by omega), hc]
  simp only
  split at h
  · rename_i v hv
    subst hs
    first
    | (simp only [putV, upd_same] at h ⊢; simpa using h; done)
    | (simp only [putV, upd_same, hv] at h ⊢; simpa using h)
  · exact absurd h.1 (by decide)
/-- An operation that writes. -/
theorem d_e {dst : Option Tmp} (ho : all[i]? = some ⟨dst, op, ty, ps, af, g⟩) (hg : gb all sl g = some true) (he : eveOp op = true)
    (h : vops X [] [⟨dst, op, ty, ps, af, none⟩] (fun sl' H' => againAll X all H' chk hist ∧ vopsD X all r hist K sl' H') sl H) : vopsD X all (⟨i, 1, chk⟩ :: r) hist K sl H := by
  simp only [vopsD, ho]
  refine gb_on hg ?_
  rw [if_pos trivial]
  obtain ⟨h1, h2⟩ := evq_none (lay := X.lay) (H := H) (ρ := rho X.G sl) he
  simp only [vops, vguard, vop, h2, h1] at h
  split at h
  · rename_i f hf
    exact ⟨f.v, f.H, .inl ⟨f, hf, h.1, rfl, rfl⟩, h.2.1, h.2.2⟩
  · exact absurd h.1 (by decide)
/-- A slice's literal, frozen at once. -/
theorem d_z (v : V) (ho : all[i]? = some ⟨some d, op, ty, ps, af, g⟩) (hg : gb all sl g = some true) (hv : frz X.lay (rho X.G sl) op = some v) (h : vopsD X all r hist K (upd sl d v) H) : vopsD X all (⟨i, 2, chk⟩ :: r) hist K sl H := by
  simp only [vopsD, ho]
  refine gb_on hg ?_
  rw [if_neg (by omega)]
  unfold vq
  rw [if_pos rfl, hv]
  simpa [putV] using h
/-- A call on data, by its contract. -/
theorem d_call {f : Operand} {args : Array Operand} {tys : Array TypeId} {gf : FuncId} {caps : List C} {args' : List V} {res : V} (hp : PureC X gf args' res) (hown : ownV res = true) (ho : all[i]? = some ⟨some d, .call ⟨.value f, args, tys⟩, ty, ps, af, g⟩) (hg : gb all sl g = some true)
    (hf : rho X.G sl f = .c (.fn gf caps)) {ags : List V} (has : args.toList.map (rho X.G sl) ++ caps.map .c = ags) (hv : Views H ags args') (h : vopsD X all r ((i, sl, res) :: hist) K (upd sl d res) H) : vopsD X all (⟨i, 0, chk⟩ :: r) hist K sl H := by
  subst has
  simp only [vopsD, ho]
  refine gb_on hg ?_
  rw [if_neg (by omega)]
  unfold vq
  rw [if_neg (by omega)]
  simp only [callOf, hf, target]
  exact ⟨res, ⟨args', hv, hp, hown⟩, by simpa [sens, putV] using h⟩
theorem d_callb {f : Operand} {args : Array Operand} {tys : Array TypeId} {gf : FuncId} {caps : List C} {args' : List V} {p : Prop} [Decidable p] (hp : PureC X gf args' (.c (.v (.bool (decide p))))) (ho : all[i]? = some ⟨some d, .call ⟨.value f, args, tys⟩, ty, ps, af, g⟩) (hg : gb all sl g = some true)
    (hf : rho X.G sl f = .c (.fn gf caps)) {ags : List V} (has : args.toList.map (rho X.G sl) ++ caps.map .c = ags) (hv : Views H ags args') (h1 : p → vopsD X all r ((i, sl, .c (.v (.bool true))) :: hist) K (upd sl d (.c (.v (.bool true)))) H)
    (h2 : ¬ p → vopsD X all r ((i, sl, .c (.v (.bool false))) :: hist) K (upd sl d (.c (.v (.bool false)))) H) : vopsD X all (⟨i, 0, chk⟩ :: r) hist K sl H := by
  by_cases hpp : p
  · rw [show decide p = true by simp [hpp]] at hp
    exact d_call hp rfl ho hg hf has hv (h1 hpp)
  · rw [show decide p = false by simp [hpp]] at hp
    exact d_call hp rfl ho hg hf has hv (h2 hpp)
theorem again_nil {H' : List Ob} : againAll X all H' [] hist := by
  induction hist with
  | nil => trivial
  | cons x h ih => exact ⟨by simp, ih⟩
end

section
variable {X : Cx} {all r : List Oper} {K : Sl → List Ob → Prop} {sl : Sl} {H : List Ob} {d : Tmp} {ty : TypeId} {ps : String} {af : Array Edge}
theorem v_callb {f : Operand} {args : Array Operand} {tys : Array TypeId} {g : FuncId} {caps : List C} {args' : List V} {p : Prop} [Decidable p] (hp : PureC X g args' (.c (.v (.bool (decide p))))) (hf : rho X.G sl f = .c (.fn g caps)) {ags : List V} (has : args.toList.map (rho X.G sl) ++ caps.map .c = ags) (hv : Views H ags args')
    (h1 : p → vops X all r K (upd sl d (.c (.v (.bool true)))) H) (h2 : ¬ p → vops X all r K (upd sl d (.c (.v (.bool false)))) H) : vops X all (⟨some d, .call ⟨.value f, args, tys⟩, ty, ps, af, none⟩ :: r) K sl H := by
  by_cases hpp : p
  · rw [show decide p = true by simp [hpp]] at hp
    exact v_call hp rfl hf has hv (h1 hpp)
  · rw [show decide p = false by simp [hpp]] at hp
    exact v_call hp rfl hf has hv (h2 hpp)
end
end Go.VL
namespace Go.VL
open Go.RowKit

theorem flat_cons {α : Type} (enc : α → List C) (x : α) (xs : List α) : flat enc (x :: xs) = enc x ++ flat enc xs := by simp [flat]
theorem zeros_flat {α : Type} {enc : α → List C} {L : Lay} {a : α} (h : enc a = L.zero.map cOf) : ∀ n, zeros L n = flat enc (List.replicate n a)
  | 0 => rfl
  | n + 1 => by rw [List.replicate_succ, flat_cons, zeros, zeros_flat h n, h]
theorem sub_flat2 {α : Type} {enc : α → List C} {k : Nat} (he : ∀ a, (enc a).length = k) {xs : List α} {i f n : Nat} (hi : i < xs.length) (hf : f + n ≤ k) : sub (flat enc xs) (i * k + f) n = sub (enc xs[i]) f n := by
  rw [← sub_flat he hi]
  unfold sub
  rw [List.drop_take, List.take_take, List.drop_drop]
  congr 1
  omega
theorem setCells_flat {α : Type} {enc : α → List C} {k : Nat} (he : ∀ a, (enc a).length = k) {cs : List C} : ∀ {xs : List α} {i f : Nat} (hi : i < xs.length) (_hf : f + cs.length ≤ k) {y : α}, enc y = setCells (enc xs[i]) f cs → setCells (flat enc xs) (i * k + f) cs = flat enc (xs.set i y)
  | x :: xs, 0, f, _, hf, y, hy => by
    simp only [List.set_cons_zero, flat_cons, Nat.zero_mul, Nat.zero_add]
    simp only [List.getElem_cons_zero] at hy
    rw [hy]
    unfold setCells
    rw [List.take_append_of_le_length (by rw [he]; omega), List.drop_append_of_le_length (by rw [he]; omega)]
    simp only [List.append_assoc]
  | x :: xs, i + 1, f, hi, hf, y, hy => by
    have ih := setCells_flat he (xs := xs) (i := i) (f := f) (by simpa using hi) hf (y := y) (by simpa using hy)
    simp only [List.set_cons_succ, flat_cons]
    rw [← ih]
    unfold setCells
    have h1 : (i + 1) * k + f = (enc x).length + (i * k + f) := by rw [he, Nat.add_mul]; omega
    rw [h1, List.take_append, List.take_of_length_le (by omega), Nat.add_sub_cancel_left, Nat.add_assoc, ← List.drop_drop, List.drop_left]
    simp only [List.append_assoc]

/-- A cell that is a number, a word, a float. -/
def sc : C → Bool
  | .v _ => true
  | .f _ _ => true
  | _ => false
theorem sc_flat {α : Type} {enc : α → List C} (h : ∀ a, (enc a).all sc = true) (xs : List α) : ∀ c ∈ flat enc xs, sc c = true := fun c hc => by
  obtain ⟨a, -, ha⟩ := List.mem_flatMap.1 hc
  exact List.all_eq_true.1 (h a) c ha
theorem reown_sc {o : Bool} {c : C} (h : sc c = true) : reown o c = c := by
  cases o with
  | true => rfl
  | false => cases c <;> first | rfl | cases h
theorem reowns_flat {α : Type} {enc : α → List C} (h : ∀ a, (enc a).all sc = true) (o : Bool) (xs : List α) : reowns o (flat enc xs) = flat enc xs := by
  cases o with
  | true => rfl
  | false =>
    simp only [reowns]
    rw [List.map_congr_left fun c hc => reown_sc (o := false) (sc_flat h xs c hc), List.map_id']
theorem Dn.sc {o : Bool} {H : List Ob} {gone : Nat → Prop} {c : C} (h : sc c = true) : Dn o H gone c c := by
  cases c with
  | v x => exact .v
  | f k x => exact .f
  | _ => cases h
theorem stays_flat {α : Type} {enc : α → List C} (h : ∀ a, (enc a).all sc = true) (xs : List α) : ∀ c ∈ flat enc xs, stays c = true := fun c hc => by
  have := sc_flat h xs c hc
  cases c <;> first | rfl | cases this
theorem same_of {cs : List C} {p : C → C → Prop} (h : ∀ c ∈ cs, p c c) : ∀ (j : Nat) (c c' : C), cs[j]? = some c → cs[j]? = some c' → p c c' := fun j c c' h1 h2 => by
  rw [h1] at h2
  have := Option.some.inj h2
  subst this
  exact h c (List.mem_of_getElem? h1)

/-- Cells as frozen data. -/
inductive DnL (o : Bool) (H : List Ob) (gone : Nat → Prop) : List C → List C → Prop
  | nil : DnL o H gone [] []
  | cons {c c' : C} {cs cs' : List C} (h : Dn o H gone c c') (hs : DnL o H gone cs cs') : DnL o H gone (c :: cs) (c' :: cs')
  | sc {cs : List C} (h : ∀ c ∈ cs, sc c = true) : DnL o H gone cs cs
theorem DnL.spec {o : Bool} {H : List Ob} {gone : Nat → Prop} {cs cs' : List C} (h : DnL o H gone cs cs') : cs'.length = cs.length ∧ ∀ (j : Nat) (c c' : C), cs[j]? = some c → cs'[j]? = some c' → Dn o H gone c c' := by
  induction h with
  | nil => exact ⟨rfl, fun j c c' h => by simp at h⟩
  | cons h hs ih =>
    refine ⟨by simp [ih.1], fun j x x' hj hj' => ?_⟩
    cases j with
    | zero => simp at hj hj'; subst hj hj'; exact h
    | succ j => exact ih.2 j x x' (by simpa using hj) (by simpa using hj')
  | sc h => exact ⟨rfl, same_of fun c hc => .sc (h c hc)⟩

/-- A live slice, all of it, as frozen data. -/
theorem dn_mu {o b' : Bool} {H : List Ob} {gone : Nat → Prop} {id n k : Nat} {cs cs' : List C} {t : TypeId} (ho : H[id]? = some ⟨cs, t, true⟩) (hg : gone id) (hn : cs.length = n * k) (h : DnL o H gone cs cs') : Dn o H gone (.mu id 0 n k) (.sl b' n k cs') := by
  obtain ⟨h1, h2⟩ := h.spec
  have hs : sub cs 0 (n * k) = cs := by unfold sub; rw [← hn]; simp
  exact .mu ho rfl hg (by simp only [Nat.zero_add]; exact Nat.le_of_eq hn.symm) (by rw [h1, hn]) (by simp only [hs]; exact h2)
theorem dn_pt {o b' : Bool} {H : List Ob} {gone : Nat → Prop} {id off : Nat} {cs cs' : List C} {t : TypeId} (ho : H[id]? = some ⟨cs, t, true⟩) (hg : gone id) (h : DnL o H gone cs cs') : Dn o H gone (.pt id off) (.vw b' cs' off) :=
  .pt ho rfl hg h.spec.1 h.spec.2
theorem dn_flat {α : Type} {enc : α → List C} {o b' : Bool} {H : List Ob} {gone : Nat → Prop} {id n k : Nat} {xs : List α} {t : TypeId} (hsc : ∀ a, (enc a).all sc = true) (he : ∀ a, (enc a).length = k) (ho : H[id]? = some ⟨flat enc xs, t, true⟩) (hg : gone id) (hn : n = xs.length) :
    Dn o H gone (.mu id 0 n k) (.sl b' n k (flat enc xs)) := dn_mu ho hg (by rw [flat_length he, hn]) (.sc (sc_flat hsc xs))

section
variable {H : List Ob}
theorem vw_dn {c c' : C} (h : Dn false H (fun _ => True) c c') (ho : c'.own = false) : VwV H (.c c) (.c c') := .c (.dn h ho)
theorem vw_mu {α : Type} {enc : α → List C} {id n k : Nat} {xs : List α} {t : TypeId} (hsc : ∀ a, (enc a).all sc = true) (he : ∀ a, (enc a).length = k) (ho : H[id]? = some ⟨flat enc xs, t, true⟩) (hn : n = xs.length) : VwV H (.c (.mu id 0 n k)) (.c (.sl false n k (flat enc xs))) :=
  vw_dn (dn_flat hsc he ho trivial hn) rfl
theorem vw_pt {id off : Nat} {cs cs' : List C} {t : TypeId} (ho : H[id]? = some ⟨cs, t, true⟩) (h : DnL false H (fun _ => True) cs cs') : VwV H (.c (.pt id off)) (.c (.vw false cs' off)) := vw_dn (dn_pt ho trivial h) rfl
theorem a_dn {c c' : C} (h : Dn true H (fun id => ∀ i : Nat, ([] : List (Option Nat))[i]? ≠ some (some id)) c c') : TrV H [] (.c c) (.c c') := .c (.dn h)
theorem gone_nil {id : Nat} : ∀ i : Nat, ([] : List (Option Nat))[i]? ≠ some (some id) := fun i => by simp
theorem a_flat {α : Type} {enc : α → List C} {id n k : Nat} {xs : List α} {t : TypeId} (hsc : ∀ a, (enc a).all sc = true) (he : ∀ a, (enc a).length = k) (ho : H[id]? = some ⟨flat enc xs, t, true⟩) (hn : n = xs.length) : TrV H [] (.c (.mu id 0 n k)) (.c (.sl true n k (flat enc xs))) :=
  a_dn (dn_flat hsc he ho gone_nil hn)
/-- What a function answers, cell by cell. -/
theorem a_agg {cs cs' : List C} (h : TrC H [] cs cs') : TrV H [] (.agg cs) (.agg cs') := tr_agg h
end

section
variable {X : Cx} {all r : List Oper} {K : Sl → List Ob → Prop} {sl : Sl} {H : List Ob} {d : Tmp} {ty : TypeId} {ps : String} {af : Array Edge}

theorem v_make {α : Type} {enc : α → List C} {a0 : α} {t e : TypeId} {l c : Operand} {a b : Nat} {z : List Value} {L : Lay} {kl kc : IntKind} {n : Int} {k m : Nat} {H' : List Ob} (hz : enc a0 = L.zero.map cOf) (hL : X.lay t = some ⟨.slice e, a, b, z⟩) (hLe : X.lay e = some L) (hk : L.size = k) (hk0 : Nat.blt 0 k = true)
    (hl : rho X.G sl l = .c (.v (.int kl n))) (hc : rho X.G sl c = .c (.v (.int kc n))) (q : Nat) (hq : n = (q : Int)) (hn : (q : Int) ≤ maxLen ∧ (L.bytes : Int) * q ≤ 140737488355328) (hm : H.length = m) (hH : H ++ [⟨flat enc (List.replicate q a0), e, true⟩] = H') (h : vops X all r K (upd sl d (.c (.mu m 0 q k))) H') :
    vops X all (⟨some d, .makeSlice t l c, ty, ps, af, none⟩ :: r) K sl H := by
  subst hq
  refine v_e (f := ⟨.c (.mu m 0 q k), H', 0 < L.size ∧ (0 : Int) ≤ q ∧ (q : Int) ≤ maxLen ∧ (L.bytes : Int) * q ≤ 140737488355328⟩) rfl rfl ?_ ⟨by rw [hk]; exact Nat.le_of_ble_eq_true hk0, by omega, hn⟩ rfl rfl h
  simp only [eve, hL, hLe, hl, hc, if_true, Int.toNat_natCast, hk, hm]
  rw [zeros_flat hz, hH]

theorem v_store_flat {α : Type} {enc : α → List C} {t : TypeId} {a x : Operand} {L : Lay} {id off k : Nat} {cs : List C} {ys : List α} {tt : TypeId} {H' : List Ob} (q f : Nat) (y : α) (he : ∀ a, (enc a).length = k) (hL : X.lay t = some L) (ha : rho X.G sl a = .c (.pt id off)) (hx : (rho X.G sl x).cells = some cs) (ho : H[id]? = some ⟨flat enc ys, tt, true⟩)
    (hoff : off = q * k + f) (hq : q < ys.length) (hl : Nat.beq cs.length L.size = true) (hf : Nat.ble (f + L.size) k = true) (hy : enc y = setCells (enc ys[q]) f cs) (hH : H.set id ⟨flat enc (ys.set q y), tt, true⟩ = H') (h : vops X all r K sl H') :
    vops X all (⟨none, .store t a x, ty, ps, af, none⟩ :: r) K sl H := by
  subst hoff
  have hf' := Nat.le_of_ble_eq_true hf
  have hl' := Nat.eq_of_beq_eq_true hl
  refine v_e (f := ⟨.any, H', True⟩) rfl rfl ?_ trivial rfl rfl h
  simp only [eve, hL, ha, hx, ho]
  have hb : q * k + f + L.size ≤ (flat enc ys).length := by
    rw [flat_length he]
    have : (q + 1) * k ≤ ys.length * k := Nat.mul_le_mul_right k hq
    rw [Nat.add_mul] at this
    omega
  rw [if_pos ⟨trivial, hl', hb⟩, setCells_flat he hq (by omega) hy, hH]
theorem v_load_flat {α : Type} {enc : α → List C} {t : TypeId} {x : Operand} {L : Lay} {id off k : Nat} {ys : List α} {tt : TypeId} (q f : Nat) (v : V) (he : ∀ a, (enc a).length = k) (hL : X.lay t = some L) (hx : rho X.G sl x = .c (.pt id off)) (ho : H[id]? = some ⟨flat enc ys, tt, true⟩)
    (hoff : off = q * k + f) (hq : q < ys.length) (hf : Nat.ble (f + L.size) k = true) (hv : mkV L.kind.agg (sub (enc ys[q]) f L.size) = some v) (h : vops X all r K (upd sl d v) H) : vops X all (⟨some d, .load t x, ty, ps, af, none⟩ :: r) K sl H := by
  subst hoff
  have hf' := Nat.le_of_ble_eq_true hf
  refine v_q v rfl ?_ h
  simp only [evq, hL, hx, ho]
  have hb : q * k + f + L.size ≤ (flat enc ys).length := by
    rw [flat_length he]
    have : (q + 1) * k ≤ ys.length * k := Nat.mul_le_mul_right k hq
    rw [Nat.add_mul] at this
    omega
  rw [if_pos ⟨trivial, hb⟩, sub_flat2 he hq hf', hv]
end
end Go.VL
namespace Go.VL
open Go.RowKit

def szOf (lay : TypeId → Option Lay) (t : TypeId) : Nat := match lay t with
  | some L => L.size
  | none => 0

/-- Cells that hold a value of a type. -/
inductive Cty (lay : TypeId → Option Lay) : TypeId → List C → Prop
  | bool {t : TypeId} {a b : Nat} {z : List Value} {x : Bool} (h : lay t = some ⟨.bool, a, b, z⟩) : Cty lay t [.v (.bool x)]
  | int {t : TypeId} {a b : Nat} {z : List Value} {k : IntKind} {n : Int} (h : lay t = some ⟨.int k, a, b, z⟩) (hn : k.min ≤ n ∧ n ≤ k.max) : Cty lay t [.v (.int k n)]
  | float {t : TypeId} {a b : Nat} {z : List Value} {k : FloatKind} {x : Nat} (h : lay t = some ⟨.float k, a, b, z⟩) (hw : (Lit.float k x).wf = true) : Cty lay t [.f k (fOf k x)]
  | string {t : TypeId} {a b : Nat} {z : List Value} {s : ByteArray} (h : lay t = some ⟨.string, a, b, z⟩) (hs : s.size ≤ maxLen) : Cty lay t [.v (.string s)]
  | slice {t e : TypeId} {a b : Nat} {z : List Value} (h : lay t = some ⟨.slice e, a, b, z⟩) (xs : List (List C)) (hx : ∀ cs ∈ xs, Cty lay e cs) (hl : ∀ cs ∈ xs, cs.length = szOf lay e) (hn : xs.length ≤ maxLen) : Cty lay t [.sl true xs.length (szOf lay e) xs.flatten]
  | struct {t : TypeId} {fs : List (TypeId × Nat)} {a b : Nat} {z : List Value} (h : lay t = some ⟨.struct fs, a, b, z⟩) (cs : List C) (hl : cs.length = a) (hf : ∀ p ∈ fs, Cty lay p.1 (sub cs p.2 (szOf lay p.1))) : Cty lay t cs
  | array {t e : TypeId} {n a b : Nat} {z : List Value} (h : lay t = some ⟨.array n e, a, b, z⟩) (cs : List C) (hl : cs.length = a) (hf : ∀ i, i < n → Cty lay e (sub cs (i * szOf lay e) (szOf lay e))) : Cty lay t cs

/-- The fields lie one behind the other. -/
def tile (lay : TypeId → Option Lay) : Nat → List (TypeId × Nat) → Nat → Bool
  | off, [], a => Nat.beq off a
  | off, p :: r, a => Nat.beq p.2 off && tile lay (off + szOf lay p.1) r a

/-- Types whose values are such data. -/
def okT (lay : TypeId → Option Lay) : Nat → TypeId → Bool
  | 0, _ => false
  | f + 1, t => match lay t with
    | some ⟨.bool, a, _, _⟩ => Nat.beq a 1
    | some ⟨.int _, a, _, _⟩ => Nat.beq a 1
    | some ⟨.float _, a, _, _⟩ => Nat.beq a 1
    | some ⟨.string, a, _, _⟩ => Nat.beq a 1
    | some ⟨.slice e, a, _, _⟩ => okT lay f e && Nat.beq a 1
    | some ⟨.struct fs, a, _, _⟩ => (fs.all fun p => okT lay f p.1) && tile lay 0 fs a
    | some ⟨.array n e, a, _, _⟩ => okT lay f e && Nat.beq (n * szOf lay e) a
    | _ => false

theorem tile_le {lay : TypeId → Option Lay} : ∀ {fs : List (TypeId × Nat)} {off a : Nat}, tile lay off fs a = true → off ≤ a ∧ ∀ p ∈ fs, p.2 + szOf lay p.1 ≤ a
  | [], off, a, h => ⟨Nat.le_of_eq (Nat.eq_of_beq_eq_true h), fun p hp => by cases hp⟩
  | q :: r, off, a, h => by
    simp only [tile, Bool.and_eq_true] at h
    have h0 := Nat.eq_of_beq_eq_true h.1
    obtain ⟨h1, h2⟩ := tile_le h.2
    refine ⟨by omega, fun p hp => ?_⟩
    rcases List.mem_cons.1 hp with rfl | hp
    · omega
    · exact h2 p hp
theorem tile_range {lay : TypeId → Option Lay} {e : TypeId} : ∀ (n i : Nat), tile lay (i * szOf lay e) ((List.range' i n).map fun j => (e, j * szOf lay e)) ((i + n) * szOf lay e) = true
  | 0, i => by simp [tile]
  | n + 1, i => by
    rw [List.range'_succ, List.map_cons]
    simp only [tile, Bool.and_eq_true]
    refine ⟨by simp, ?_⟩
    have := tile_range (lay := lay) (e := e) n (i + 1)
    rw [show i * szOf lay e + szOf lay e = (i + 1) * szOf lay e by rw [Nat.add_mul]; omega, show i + (n + 1) = i + 1 + n by omega]
    exact this

theorem mapM_get {α β : Type} {f : α → Option β} : ∀ {l : List α} {r : List β}, l.mapM f = some r → r.length = l.length ∧ ∀ (j : Nat) (x : α), l[j]? = some x → ∃ y, r[j]? = some y ∧ f x = some y
  | [], r, h => by simp at h; subst h; exact ⟨rfl, fun j x h => by simp at h⟩
  | a :: l, r, h => by
    rw [List.mapM_cons] at h
    obtain ⟨b, hb, h⟩ := Option.bind_eq_some_iff.1 h
    obtain ⟨bs, hbs, h⟩ := Option.bind_eq_some_iff.1 h
    simp at h
    subst h
    obtain ⟨h1, h2⟩ := mapM_get hbs
    refine ⟨by simp [h1], fun j x hj => ?_⟩
    cases j with
    | zero => simp at hj; subst hj; exact ⟨b, rfl, hb⟩
    | succ j => simpa using h2 j x (by simpa using hj)

theorem flatten_get {k : Nat} : ∀ {xs : List (List C)} (_hl : ∀ x ∈ xs, x.length = k) {j : Nat} {c : C}, xs.flatten[j]? = some c → ∃ (i r : Nat) (x : List C), xs[i]? = some x ∧ x[r]? = some c ∧ j = i * k + r ∧ r < k
  | [], _, j, c, h => by simp at h
  | x :: xs, hl, j, c, h => by
    rw [List.flatten_cons] at h
    have hx := hl x (by simp)
    by_cases hj : j < x.length
    · rw [List.getElem?_append_left hj] at h
      exact ⟨0, j, x, rfl, h, by omega, by omega⟩
    · rw [List.getElem?_append_right (by omega)] at h
      obtain ⟨i, r, y, h1, h2, h3, h4⟩ := flatten_get (fun y hy => hl y (by simp [hy])) h
      refine ⟨i + 1, r, y, by simpa using h1, h2, ?_, h4⟩
      rw [Nat.add_mul]; omega
theorem flatten_len {k : Nat} : ∀ {xs : List (List C)} (_hl : ∀ x ∈ xs, x.length = k), xs.flatten.length = xs.length * k
  | [], _ => by simp
  | x :: xs, hl => by
    rw [List.flatten_cons, List.length_append, flatten_len (fun y hy => hl y (by simp [hy])), hl x (by simp), List.length_cons, Nat.add_mul]; omega

theorem cells?_get {w : World} {a : Addr} {n : Nat} {cs : List Value} (h : w.cells? 0 a n = some cs) : cs.length = n ∧ ∀ (j : Nat) (u : Value), cs[j]? = some u → w.cell? (a.add j) = some u := by
  unfold World.cells? at h
  rw [if_pos (Nat.zero_le _)] at h
  obtain ⟨h1, h2⟩ := mapM_get h
  refine ⟨by simpa using h1, fun j u hj => ?_⟩
  have hlt : j < n := by
    have := (List.getElem?_eq_some_iff.1 hj).1
    rw [h1] at this
    simpa using this
  obtain ⟨y, h3, h4⟩ := h2 j j (by simp [hlt])
  rw [hj] at h3
  have := Option.some.inj h3
  subst this
  exact h4

theorem cell?_spot {w : World} {a : Addr} {u : Value} (h : w.cell? a = some u) : a.spot = none ∧ a.block < w.heap.size := by
  unfold World.cell? at h
  split at h
  · rename_i c t r hb
    refine ⟨?_, ?_⟩
    · cases hs : a.spot with
      | none => rfl
      | some x => rw [hs] at h; simp at h
    · exact (Array.getElem?_eq_some_iff.1 hb).1
  · cases h

section
variable {T : Type} {enc : TypeId × Value → T} {X : Cx} {m : Mem}

theorem tile_cells {vs : List Value} {a : Nat} : ∀ {fs : List (TypeId × Nat)} {off : Nat}, tile X.lay off fs a = true → (∀ p ∈ fs, ∃ cs, Cty X.lay p.1 cs ∧ cs.length = szOf X.lay p.1 ∧ ∀ (j : Nat) (c : C), cs[j]? = some c → ∃ u, vs[p.2 + j]? = some u ∧ RF m false c u) →
    ∃ cs, off + cs.length = a ∧ (∀ p ∈ fs, off ≤ p.2 ∧ Cty X.lay p.1 (sub cs (p.2 - off) (szOf X.lay p.1))) ∧ ∀ (j : Nat) (c : C), cs[j]? = some c → ∃ u, vs[off + j]? = some u ∧ RF m false c u
  | [], off, h, _ => ⟨[], by simpa using Nat.eq_of_beq_eq_true h, fun p hp => (by cases hp), fun j c h => by simp at h⟩
  | q :: r, off, h, hp => by
    simp only [tile, Bool.and_eq_true] at h
    have h0 := Nat.eq_of_beq_eq_true h.1
    obtain ⟨c1, k1, k2, k3⟩ := hp q (by simp)
    obtain ⟨c2, l1, l2, l3⟩ := tile_cells (vs := vs) h.2 (fun p hpp => hp p (by simp [hpp]))
    refine ⟨c1 ++ c2, by simp; omega, fun p hpp => ?_, fun j c hj => ?_⟩
    · rcases List.mem_cons.1 hpp with rfl | hpp
      · refine ⟨by omega, ?_⟩
        have : sub (c1 ++ c2) (p.2 - off) (szOf X.lay p.1) = c1 := by
          unfold sub
          rw [show p.2 - off = 0 by omega, List.drop_zero, ← k2, List.take_left]
        rw [this]; exact k1
      · obtain ⟨g1, g2⟩ := l2 p hpp
        refine ⟨by omega, ?_⟩
        have : sub (c1 ++ c2) (p.2 - off) (szOf X.lay p.1) = sub c2 (p.2 - (off + szOf X.lay q.1)) (szOf X.lay p.1) := by
          unfold sub
          rw [show p.2 - off = c1.length + (p.2 - (off + szOf X.lay q.1)) by omega, ← List.drop_drop, List.drop_left]
        rw [this]; exact g2
    · by_cases hlt : j < c1.length
      · rw [List.getElem?_append_left hlt] at hj
        rw [← h0]
        exact k3 j c hj
      · rw [List.getElem?_append_right (by omega)] at hj
        obtain ⟨u, g1, g2⟩ := l3 _ c hj
        refine ⟨u, ?_, g2⟩
        rw [show off + j = off + szOf X.lay q.1 + (j - c1.length) by omega]
        exact g1

theorem open_trod (hF : ∀ b, b < m.w.heap.size → m.F b) : ∀ (f g : Nat) (t : TypeId) (vs : List Value) (x : DataW T × List MemPlace), okT X.lay f t = true → DataW.trod enc X.P m.w 0 (fun _ => true) true g t vs = some x →
    ∃ cs, Cty X.lay t cs ∧ cs.length = szOf X.lay t ∧ vs.length = cs.length ∧ ∀ (j : Nat) (c : C), cs[j]? = some c → ∃ u, vs[j]? = some u ∧ RF m false c u := by
  intro f
  induction f with
  | zero => intro g t vs x hok h; cases hok
  | succ f ih =>
    intro g t vs x hok h
    have one : ∀ {c : C} {u : Value}, RF m false c u → ∀ (j : Nat) (c' : C), [c][j]? = some c' → ∃ u', [u][j]? = some u' ∧ RF m false c' u' := fun {c u} hr j c' hj => by
      cases j with
      | zero => simp at hj; subst hj; exact ⟨u, rfl, hr⟩
      | succ j => simp at hj
    have cellsOf : ∀ {t : TypeId} {L : Lay}, X.lay t = some L → X.P.cellsOf t = szOf X.lay t := fun {t L} h => by
      obtain ⟨-, -, i, z, h1, h2, -⟩ := X.ok t L h
      simp [Program.cellsOf, h1, h2, szOf, h]
    unfold okT at hok
    cases hL : X.lay t with
    | none => rw [hL] at hok; cases hok
    | some L =>
      rw [hL] at hok
      have hk := (X.ok t L hL).kind
      have hsz : szOf X.lay t = L.size := by unfold szOf; rw [hL]
      obtain ⟨kind, a, b, z⟩ := L
      have hco := cellsOf hL
      simp only at hsz
      have arr : ∀ {off n e g' : Nat} {vs : List Value} {y : DataW T × List MemPlace}, okT X.lay f e = true → off + szOf X.lay e ≤ n → vs.length = n → DataW.trod enc X.P m.w 0 (fun _ => true) true g' e ((vs.drop off).take (szOf X.lay e)) = some y →
          ∃ cs, Cty X.lay e cs ∧ cs.length = szOf X.lay e ∧ ∀ (j : Nat) (c : C), cs[j]? = some c → ∃ u, vs[off + j]? = some u ∧ RF m false c u := fun {off n e g' vs y} ho hb hv hy => by
        obtain ⟨cs, h1, h2, h3, h4⟩ := ih _ _ _ _ ho hy
        refine ⟨cs, h1, h2, fun j c hj => ?_⟩
        obtain ⟨u, h5, h6⟩ := h4 j c hj
        have hlt := (List.getElem?_eq_some_iff.1 hj).1
        rw [List.getElem?_take_of_lt (by omega), List.getElem?_drop] at h5
        exact ⟨u, h5, h6⟩
      cases kind with
      | other => simp at hok
      | bool =>
        have hok' : a = 1 := Nat.eq_of_beq_eq_true hok
        obtain ⟨bb, rfl, -⟩ := DataW.trod_bool (show X.P.underlying t = some .bool from hk) h
        exact ⟨_, .bool hL, by rw [hsz, hok']; rfl, rfl, one (.v rfl)⟩
      | string =>
        have hok' : a = 1 := Nat.eq_of_beq_eq_true hok
        obtain ⟨s, rfl, -, hs⟩ := DataW.trod_string (show X.P.underlying t = some .string from hk) h
        exact ⟨_, .string hL hs, by rw [hsz, hok']; rfl, rfl, one (.v rfl)⟩
      | int k =>
        have hok' : a = 1 := Nat.eq_of_beq_eq_true hok
        obtain ⟨n, rfl, -, hw⟩ := DataW.trod_int (show X.P.underlying t = some (.int k) from hk) h
        simp only [Lit.wf, Bool.and_eq_true, decide_eq_true_eq] at hw
        exact ⟨_, .int hL hw, by rw [hsz, hok']; rfl, rfl, one (.v rfl)⟩
      | float k =>
        have hok' : a = 1 := Nat.eq_of_beq_eq_true hok
        have hu : X.P.underlying t = some (.float k) := hk
        have : ∃ bb, vs = [.float k bb] ∧ (Lit.float k bb).wf = true := by
          cases g with
          | zero => simp [DataW.trod] at h
          | succ g =>
            unfold DataW.trod at h
            rw [hu] at h
            simp only at h
            split at h
            all_goals first
              | (rename_i heq; cases heq; done)
              | (rename_i heq _; cases heq; done)
              | (rename_i k1 k2 bb heq1; split at h
                 · rename_i hc; cases heq1; exact ⟨bb, by rw [hc.1], hc.2⟩
                 · cases h)
              | (cases h; done)
        obtain ⟨bb, rfl, hwf⟩ := this
        refine ⟨[.f k (fOf k bb)], .float hL hwf, by rw [hsz, hok']; rfl, rfl, one ?_⟩
        unfold fOf
        by_cases hn : isNaN k bb = true
        · rw [if_pos hn]; exact .fn hn
        · rw [if_neg hn]; exact .fs (by simpa using hn)
      | slice e =>
        simp only [Bool.and_eq_true] at hok
        obtain ⟨hok, hok1⟩ := hok
        have hok' : a = 1 := Nat.eq_of_beq_eq_true hok1
        have heL : ∃ Le, X.lay e = some Le := by
          cases f with
          | zero => cases hok
          | succ f =>
            unfold okT at hok
            cases he : X.lay e with
            | none => rw [he] at hok; cases hok
            | some Le => exact ⟨Le, rfl⟩
        obtain ⟨Le, hLe⟩ := heL
        have hce := cellsOf hLe
        rcases DataW.trod_slice (show X.P.underlying t = some (.slice e) from hk) h with ⟨rfl, -⟩ | ⟨ad, len, cap, elems, rest, g', -, rfl, -, -, hlc, hcm, hel, hget, -⟩
        · have := Cty.slice hL [] (by simp) (by simp) (Nat.zero_le _)
          exact ⟨_, this, by rw [hsz, hok']; rfl, rfl, one .nil⟩
        · have each : ∀ i, i < len → ∃ cs, Cty X.lay e cs ∧ cs.length = szOf X.lay e ∧ ∀ (j : Nat) (c : C), cs[j]? = some c → ∃ u, m.w.cell? ((ad.add (i * szOf X.lay e)).add j) = some u ∧ RF m false c u := fun i hi => by
            have h1 := hget i hi
            rw [List.getElem?_eq_getElem (by omega), hce] at h1
            obtain ⟨vs, h2, h3⟩ := Option.bind_eq_some_iff.1 h1
            obtain ⟨h4, h5⟩ := cells?_get h2
            obtain ⟨cs, k1, k2, k3, k4⟩ := ih _ _ _ _ hok h3
            refine ⟨cs, k1, k2, fun j c hj => ?_⟩
            obtain ⟨u, k5, k6⟩ := k4 j c hj
            exact ⟨u, h5 j u k5, k6⟩
          obtain ⟨xs, hxl, hxs⟩ := choose_list (cs := List.range len) (p := fun i _ (cs : List C) => Cty X.lay e cs ∧ cs.length = szOf X.lay e ∧ ∀ (j : Nat) (c : C), cs[j]? = some c → ∃ u, m.w.cell? ((ad.add (i * szOf X.lay e)).add j) = some u ∧ RF m false c u) (fun i q hi => by
            have := (List.getElem?_eq_some_iff.1 hi).1
            exact each i (by simpa using this))
          have hxl' : xs.length = len := by simpa using hxl
          have hxi : ∀ (i : Nat) (cs : List C), xs[i]? = some cs → Cty X.lay e cs ∧ cs.length = szOf X.lay e ∧ ∀ (j : Nat) (c : C), cs[j]? = some c → ∃ u, m.w.cell? ((ad.add (i * szOf X.lay e)).add j) = some u ∧ RF m false c u := fun i cs hi => by
            have hlt := (List.getElem?_eq_some_iff.1 hi).1
            obtain ⟨cs', h1, h2⟩ := hxs i i (by rw [List.getElem?_range (by omega)])
            rw [hi] at h1
            have := Option.some.inj h1
            subst this
            exact h2
          have hmem : ∀ cs ∈ xs, Cty X.lay e cs ∧ cs.length = szOf X.lay e := fun cs hc => by
            obtain ⟨i, hi⟩ := List.getElem?_of_mem hc
            exact ⟨(hxi i cs hi).1, (hxi i cs hi).2.1⟩
          have hsp : xs.flatten ≠ [] → ad.spot = none ∧ ad.block < m.w.heap.size := fun hne => by
            have h0 : 0 < xs.flatten.length := List.length_pos_iff.2 hne
            obtain ⟨i, r, cs, h1, h2, h3, h4⟩ := flatten_get (fun x hx => (hmem x hx).2) (List.getElem?_eq_getElem h0)
            have hi0 : i * szOf X.lay e = 0 := by omega
            have hr0 : r = 0 := by omega
            obtain ⟨u, h5, h6⟩ := (hxi i cs h1).2.2 r _ h2
            rw [hi0, hr0] at h5
            simp only [Addr.add, if_true] at h5
            exact cell?_spot h5
          have hall : ∀ (j : Nat) (c : C), xs.flatten[j]? = some c → ∃ u, m.w.cell? ⟨ad.block, ad.off + j, none⟩ = some u ∧ RF m false c u := fun j c hj => by
            have hs := (hsp (by intro h; rw [h] at hj; simp at hj)).1
            obtain ⟨i, r, cs, h1, h2, h3, h4⟩ := flatten_get (fun x hx => (hmem x hx).2) hj
            obtain ⟨u, h5, h6⟩ := (hxi i cs h1).2.2 r c h2
            obtain ⟨ab, ao, ags⟩ := ad
            simp only at hs
            subst hs
            rw [addr_add, addr_add, Nat.add_assoc, ← h3] at h5
            exact ⟨u, h5, h6⟩
          obtain ⟨us, hul, hus⟩ := choose_list hall
          refine ⟨_, .slice hL xs (fun cs hc => (hmem cs hc).1) (fun cs hc => (hmem cs hc).2) (by omega), by rw [hsz, hok']; rfl, rfl, one ?_⟩
          rw [hxl']
          refine .sl (fun j => us.getD j default) hlc hcm (by rw [flatten_len (fun x hx => (hmem x hx).2), hxl']) (fun hne => ?_) (fun j c hj => ?_) (fun j c hj => ?_)
          · exact ⟨(hsp hne).1, hF _ (hsp hne).2, fun h => by cases h⟩
          · obtain ⟨u, h1, h2, h3⟩ := hus j c hj
            simpa [List.getD, h1] using h2
          · obtain ⟨u, h1, h2, h3⟩ := hus j c hj
            simpa [List.getD, h1] using h3
      | array n e =>
        simp only [Bool.and_eq_true] at hok
        obtain ⟨hok, hb⟩ := hok
        have hb' := Nat.eq_of_beq_eq_true hb
        obtain ⟨xs, g', -, -, hvl, hxl, hget⟩ := DataW.trod_array (show X.P.underlying t = some (.array n e) from hk) h
        rw [hco, hsz] at hvl
        have hLe : ∃ Le, X.lay e = some Le := by
          cases f with
          | zero => cases hok
          | succ f =>
            unfold okT at hok
            cases he : X.lay e with
            | none => rw [he] at hok; cases hok
            | some Le => exact ⟨Le, rfl⟩
        obtain ⟨Le, hLe⟩ := hLe
        have hc := cellsOf hLe
        have ht := tile_range (lay := X.lay) (e := e) n 0
        rw [Nat.zero_mul, Nat.zero_add, hb'] at ht
        obtain ⟨cs, h1, h2, h3⟩ := tile_cells (vs := vs) (m := m) ht (fun p hp => by
          obtain ⟨i, hi, rfl⟩ := List.mem_map.1 hp
          have hin : i < n := by simpa using List.mem_range'_1.1 hi
          have h3 := hget i hin
          rw [List.getElem?_eq_getElem (by omega), hc] at h3
          have : (i + 1) * szOf X.lay e ≤ n * szOf X.lay e := Nat.mul_le_mul_right _ hin
          rw [Nat.add_mul] at this
          exact arr hok (by simp only; omega) hvl h3)
        refine ⟨cs, .array hL cs (by omega) (fun i hi => ?_), by rw [hsz]; omega, by omega, fun j c hj => by simpa using h3 j c hj⟩
        have := (h2 (e, i * szOf X.lay e) (List.mem_map.2 ⟨i, by simp [List.mem_range'_1]; exact hi, rfl⟩)).2
        simpa using this
      | struct fs =>
        obtain ⟨fields, hu, hfs, -⟩ := hk
        obtain ⟨xs, g', -, -, hvl, hxl, hget⟩ := DataW.trod_struct hu h
        rw [hco, hsz] at hvl
        simp only [Bool.and_eq_true] at hok
        obtain ⟨hok, htile⟩ := hok
        have hfield : ∀ (i : Nat) (p : TypeId × Nat), fs[i]? = some p → ∃ cs, Cty X.lay p.1 cs ∧ cs.length = szOf X.lay p.1 ∧ ∀ (j : Nat) (c : C), cs[j]? = some c → ∃ u, vs[p.2 + j]? = some u ∧ RF m false c u := fun i p hp => by
          have hmem := List.all_eq_true.1 hok p (List.mem_of_getElem? hp)
          have hb := (tile_le htile).2 p (List.mem_of_getElem? hp)
          have hp' := hp
          rw [← hfs, List.getElem?_map, Option.map_eq_some_iff] at hp'
          obtain ⟨fd, h1, h2⟩ := hp'
          have h3 := hget i fd (by simpa using h1)
          have hilt : i < xs.length := by rw [hxl]; have := (List.getElem?_eq_some_iff.1 h1).1; simpa using this
          have hLp : ∃ Lp, X.lay p.1 = some Lp := by
            have := hmem
            cases f with
            | zero => cases this
            | succ f =>
              unfold okT at this
              cases he : X.lay p.1 with
              | none => rw [he] at this; cases this
              | some Le => exact ⟨Le, rfl⟩
          obtain ⟨Lp, hLp⟩ := hLp
          have hc := cellsOf hLp
          rw [List.getElem?_eq_getElem hilt] at h3
          have e1 : fd.type = p.1 := by rw [← h2]
          have e2 : fd.offset = p.2 := by rw [← h2]
          rw [e1, e2, hc] at h3
          exact arr hmem hb hvl h3
        obtain ⟨cs, h1, h2, h3⟩ := tile_cells (vs := vs) (m := m) htile (fun p hp => by
          obtain ⟨i, hi⟩ := List.getElem?_of_mem hp
          exact hfield i p hi)
        exact ⟨cs, .struct hL cs (by omega) (fun p hp => by simpa using (h2 p hp).2), by rw [hsz]; omega, by omega, fun j c hj => by simpa using h3 j c hj⟩
end
end Go.VL
namespace Go.VL
open Go.RowKit Go.WideShapes Go.ChangeShapes Go.ChangeAt

/-- A slot that holds a value of a type. -/
def VTy (lay : TypeId → Option Lay) (t : TypeId) (v : V) : Prop := match lay t with
  | some L => if L.kind.agg then ∃ cs, v = .agg (reowns false cs) ∧ Cty lay t cs else ∃ c, v = .c (reown false c) ∧ Cty lay t [c]
  | none => False

section
variable {T : Type} {enc : TypeId × Value → T} {X : Cx}

theorem not_agg {w : World} {base : Nat} {t : TypeId} {v : Value} {k : LK} (hk : k.ok X.P t) (ha : k.agg = false) (ho : k ≠ .other) (h : Value.okWide X.P w .any base t v) : v.cells = #[v] := by
  unfold Value.okWide at h
  cases k <;> simp only [LK.agg] at ha <;> try (cases ha; done)
  case other => exact absurd rfl ho
  all_goals
    have hu : X.P.underlying t = some _ := hk
    rw [hu] at h
    simp only [Cell.okWide, hu, Cell.ok] at h
    cases v <;> first
      | rfl
      | (exact absurd h (by simp))

theorem open_arg {m : Mem} (hF : ∀ b, b < m.w.heap.size → m.F b) {base f : Nat} {t : TypeId} {v : Value} {d : DataW T} {ps : List MemPlace} (hok : okT X.lay f t = true) (hv : Value.okWide X.P m.w .any base t v) (h : DataW.Trod enc X.P m.w 0 (fun _ => true) true t v d ps) :
    ∃ x, VTy X.lay t x ∧ RV m x v := by
  obtain ⟨g, hg⟩ := h
  obtain ⟨cs, h1, h2, h3, h4⟩ := open_trod hF f g t _ _ hok hg
  have hok0 := hok
  cases f with
  | zero => cases hok
  | succ f =>
  unfold okT at hok
  cases hL : X.lay t with
  | none => rw [hL] at hok; cases hok
  | some L =>
    have hk := (X.ok t L hL).kind
    have hRV : ∀ (j : Nat) (c : C), cs[j]? = some c → ∃ u, v.cells[j]? = some u ∧ R m (reown false c) u := fun j c hj => by
      obtain ⟨u, k1, k2⟩ := h4 j c hj
      exact ⟨u, by simpa using k1, k2.r⟩
    cases hagg : L.kind.agg with
    | true =>
      refine ⟨.agg (reowns false cs), by unfold VTy; rw [hL]; simp only [hagg, if_true]; exact ⟨cs, rfl, h1⟩, ?_⟩
      have hva : ∃ arr, v = .agg arr := by
        unfold Value.okWide at hv
        cases hkk : L.kind <;> rw [hkk] at hagg hk <;> simp only [LK.agg] at hagg <;> try (cases hagg; done)
        · have hu : X.P.underlying t = some (.array _ _) := hk
          rw [hu] at hv
          obtain ⟨arr, rfl, -⟩ := hv
          exact ⟨arr, rfl⟩
        · obtain ⟨fields, hu, -⟩ := hk
          rw [hu] at hv
          obtain ⟨arr, rfl, -⟩ := hv
          exact ⟨arr, rfl⟩
      obtain ⟨arr, rfl⟩ := hva
      refine .agg (by rw [reowns_length]; simpa [Value.cells] using h3) fun j c hj => ?_
      obtain ⟨c', k1, rfl⟩ := reowns_get hj
      exact hRV j c' k1
    | false =>
      have hno : L.kind ≠ .other := by
        intro h
        obtain ⟨kd, a, b, z⟩ := L
        simp only at h
        subst h
        rw [hL] at hok
        cases hok
      have hc := not_agg hk hagg hno hv
      rw [hc] at h3 hRV
      have hl1 : cs.length = 1 := by simpa using h3.symm
      match cs, hl1, h1, hRV with
      | [c], _, h1, hRV =>
        refine ⟨.c (reown false c), by unfold VTy; rw [hL]; simp only [hagg, Bool.false_eq_true, if_false]; exact ⟨c, rfl, h1⟩, .c ?_⟩
        obtain ⟨u, k1, k2⟩ := hRV 0 c rfl
        simp at k1
        rw [k1]
        exact k2

theorem open_args {m : Mem} (hF : ∀ b, b < m.w.heap.size → m.F b) {base f : Nat} : ∀ {ts : List TypeId} {vs : List Value} {ds : List (DataW T)} {ps : List MemPlace}, (∀ t ∈ ts, okT X.lay f t = true) →
    (∀ (j : Nat) (t : TypeId) (v : Value), ts[j]? = some t → vs[j]? = some v → Value.okWide X.P m.w .any base t v) → DataW.TrodAll enc X.P m.w 0 (fun _ => true) true ts vs ds ps →
    ∃ xs : List V, xs.length = ts.length ∧ vs.length = ts.length ∧ (∀ (j : Nat) (t : TypeId) (x : V), ts[j]? = some t → xs[j]? = some x → VTy X.lay t x) ∧ ∀ (j : Nat) (x : V), xs[j]? = some x → ∃ u, vs[j]? = some u ∧ RV m x u
  | [], vs, ds, ps, _, _, h => by
    obtain ⟨rfl, rfl, rfl⟩ := trodAll_nil h
    exact ⟨[], rfl, rfl, fun j t x h => by simp at h, fun j x h => by simp at h⟩
  | t :: ts, vs, ds, ps, hok, hv, h => by
    obtain ⟨v, vs', d, ds', p, q, rfl, rfl, rfl, h0, h1⟩ := trodAll_cons h
    obtain ⟨x, k1, k2⟩ := open_arg hF (hok t (by simp)) (hv 0 t v rfl rfl) h0
    obtain ⟨xs, l1, l0, l2, l3⟩ := open_args hF (base := base) (fun u hu => hok u (by simp [hu])) (fun j u w h1 h2 => hv (j + 1) u w (by simpa using h1) (by simpa using h2)) h1
    refine ⟨x :: xs, by simp [l1], by simp [l0], fun j u y hj hy => ?_, fun j y hy => ?_⟩
    · cases j with
      | zero => simp at hj hy; subst hj hy; exact k1
      | succ j => exact l2 j u y (by simpa using hj) (by simpa using hy)
    · cases j with
      | zero => simp at hy; subst hy; exact ⟨v, rfl, k2⟩
      | succ j => simpa using l3 j y (by simpa using hy)

/-! What cells of a type are -/
theorem cty_string {lay : TypeId → Option Lay} {t : TypeId} {a b : Nat} {z : List Value} (hL : lay t = some ⟨.string, a, b, z⟩) {cs : List C} (h : Cty lay t cs) : ∃ s : ByteArray, cs = [.v (.string s)] ∧ s.size ≤ maxLen := by
  cases h with
  | string h hs => exact ⟨_, rfl, hs⟩
  | _ => first
    | (rename_i h; rw [hL] at h; simp at h; done)
    | (rename_i h _; rw [hL] at h; simp at h; done)
    | (rename_i h _ _; rw [hL] at h; simp at h; done)
    | (rename_i h _ _ _; rw [hL] at h; simp at h; done)
    | (rename_i h _ _ _ _; rw [hL] at h; simp at h; done)
end
end Go.VL
namespace Go.VL
open Go.RowKit

section
variable {X : Cx} {all r : List Oper} {K : Sl → List Ob → Prop} {sl : Sl} {H : List Ob} {d : Tmp} {ty : TypeId} {ps : String} {af : Array Edge}

theorem v_build {t : TypeId} {parts : Array (Nat × Operand)} {fs : List (TypeId × Nat)} {a b : Nat} {z : List Value} (places : List (Nat × Nat)) (cs : List C) (hL : X.lay t = some ⟨.struct fs, a, b, z⟩) (hp : fs.mapM (fun p => (X.lay p.1).map fun L => (p.2, L.size)) = some places)
    (hc : fillC (places[·]?) (z.map cOf) (parts.toList.map fun p => (p.1, rho X.G sl p.2)) = some cs) (h : vops X all r K (upd sl d (.agg cs)) H) : vops X all (⟨some d, .build t parts, ty, ps, af, none⟩ :: r) K sl H :=
  v_q (.agg cs) rfl (by simp only [evq, hL, hp, hc, Option.map_some]) h
theorem v_build_a {t e : TypeId} {parts : Array (Nat × Operand)} {n a b : Nat} {z : List Value} {L : Lay} (cs : List C) (hL : X.lay t = some ⟨.array n e, a, b, z⟩) (hLe : X.lay e = some L)
    (hc : fillC (fun i => some (i * L.size, L.size)) (z.map cOf) (parts.toList.map fun p => (p.1, rho X.G sl p.2)) = some cs) (h : vops X all r K (upd sl d (.agg cs)) H) : vops X all (⟨some d, .build t parts, ty, ps, af, none⟩ :: r) K sl H :=
  v_q (.agg cs) rfl (by simp only [evq, hL, hLe, hc, Option.map_some]) h
/-- An operation that answers yes or no. -/
theorem v_binb {op : BinOp} {t ty2 : TypeId} {x y : Operand} {L : Lay} {a b : C} {q : Bool} (hL : X.lay t = some L) (hx : rho X.G sl x = .c a) (hy : rho X.G sl y = .c b) (hb : bin op L.kind a b = some (.v (.bool q)))
    (h1 : q = true → vops X all r K (upd sl d (.c (.v (.bool true)))) H) (h2 : q = false → vops X all r K (upd sl d (.c (.v (.bool false)))) H) : vops X all (⟨some d, .binOp op t x y ty2, ty, ps, af, none⟩ :: r) K sl H := by
  cases q with
  | true => exact v_bin hL hx hy hb (h1 rfl)
  | false => exact v_bin hL hx hy hb (h2 rfl)
theorem v_conv_if {s t : TypeId} {x : Operand} {k' : IntKind} {k : FloatKind} {a b a' b' : Nat} {z z' : List Value} {kk : IntKind} {n : Int} (hs : X.lay s = some ⟨.int k', a, b, z⟩) (ht : X.lay t = some ⟨.float k, a', b', z'⟩) (hx : rho X.G sl x = .c (.v (.int kk n)))
    (h : vops X all r K (upd sl d (.c (.f k (some (k.nearest n))))) H) : vops X all (⟨some d, .convert s t x, ty, ps, af, none⟩ :: r) K sl H :=
  v_q _ rfl (by simp only [evq, hs, ht, hx]) h
theorem v_conv_ii {s t : TypeId} {x : Operand} {k' k : IntKind} {a b a' b' : Nat} {z z' : List Value} {kk : IntKind} {n : Int} (hs : X.lay s = some ⟨.int k', a, b, z⟩) (ht : X.lay t = some ⟨.int k, a', b', z'⟩) (hx : rho X.G sl x = .c (.v (.int kk n)))
    (hw : k.min ≤ n ∧ n ≤ k.max) (h : vops X all r K (upd sl d (.c (.v (.int k n)))) H) : vops X all (⟨some d, .convert s t x, ty, ps, af, none⟩ :: r) K sl H :=
  v_q _ rfl (by simp only [evq, hs, ht, hx, wrap_of hw]) h
theorem v_conv_ff {s t : TypeId} {x : Operand} {k1 k k' : FloatKind} {a b a' b' : Nat} {z z' : List Value} {p : Option Nat} (y : Option Nat) (hs : X.lay s = some ⟨.float k1, a, b, z⟩) (ht : X.lay t = some ⟨.float k, a', b', z'⟩) (hx : rho X.G sl x = .c (.f k' p))
    (hc : convF k' k p = some y) (h : vops X all r K (upd sl d (.c (.f k y))) H) : vops X all (⟨some d, .convert s t x, ty, ps, af, none⟩ :: r) K sl H :=
  v_q _ rfl (by simp only [evq, hs, ht, hx, hc]) h
/-- A slice's literal, as an object. -/
theorem v_lit {t e : TypeId} {m : Nat} {parts : Array (Nat × Operand)} {a b : Nat} {z : List Value} {L : Lay} (cs : List C) {k q : Nat} {H' : List Ob} (hL : X.lay t = some ⟨.slice e, a, b, z⟩) (hLe : X.lay e = some L) (hk : L.size = k)
    (hc : fillC (fun i => some (i * L.size, L.size)) (zeros L m) (parts.toList.map fun p => (p.1, rho X.G sl p.2)) = some cs) (h0 : 0 < L.size ∧ m * L.size ≤ 2 ^ 24) (hq : H.length = q) (hH : H ++ [⟨cs, e, true⟩] = H') (h : vops X all r K (upd sl d (.c (.mu q 0 m k))) H') :
    vops X all (⟨some d, .buildSlice t m parts, ty, ps, af, none⟩ :: r) K sl H :=
  v_e (f := ⟨.c (.mu q 0 m k), H', True⟩) rfl rfl (by simp only [eve, hL, hLe, hc]; rw [if_pos h0]; simp only [hk, hq, hH]) trivial rfl rfl h
/-- append onto a live slice. -/
theorem v_app_mu {s x : Operand} {t e : TypeId} {a b : Nat} {z : List Value} {L : Lay} {id m n k q : Nat} {ocs cs : List C} {H' : List Ob} (hL : X.lay t = some ⟨.slice e, a, b, z⟩) (hLe : X.lay e = some L) (hs : rho X.G sl s = .c (.mu id 0 m k)) (ho : H[id]? = some ⟨ocs, e, true⟩) (hx : srcOf H (rho X.G sl x) = some (n, k, cs))
    (hk : L.size = k) (hk0 : 0 < k) (hm : ocs.length = m * k) (hn : m + n ≤ maxLen ∧ (m + n) * L.bytes ≤ 140737488355328) (hq : H.length = q) (hH : H.set id ⟨ocs, e, false⟩ ++ [⟨ocs ++ cs, e, true⟩] = H') (h : vops X all r K (upd sl d (.c (.mu q 0 (m + n) k))) H') :
    vops X all (⟨some d, .call ⟨.builtin .append, #[s, x], #[t, t]⟩, ty, ps, af, none⟩ :: r) K sl H := by
  refine v_e (f := ⟨.c (.mu q 0 (m + n) k), H', L.size = k ∧ k = k ∧ 0 < k ∧ true = true ∧ e = e ∧ 0 + m * k ≤ ocs.length ∧ m + n ≤ maxLen ∧ (m + n) * L.bytes ≤ 140737488355328⟩) rfl rfl ?_ ⟨hk, rfl, hk0, rfl, rfl, by omega, hn⟩ rfl rfl h
  have hsub : sub ocs 0 (m * k) = ocs := by unfold sub; rw [← hm]; simp
  simp only [eve, hL, hLe, hs, ho, hx, if_true, hsub, hq, hH]
end
end Go.VL
namespace Go.VL
open Go.RowKit

section
variable {X : Cx} {g : FuncId} {fn : Func} {e : Array Value → Sem Value}

theorem one_arg {m : Mem} {v : V} {arr : Array Value} (h : RVs m [v] arr) : ∃ u, arr = #[u] ∧ RV m v u := by
  obtain ⟨h1, h2⟩ := h
  obtain ⟨u, h3, h4⟩ := h2 0 v rfl
  refine ⟨u, ?_, h4⟩
  refine Array.ext (by simpa using h1) fun i hi hi' => ?_
  have : i = 0 := by simp at hi'; omega
  subst this
  have := (Array.getElem?_eq_some_iff.1 h3).2
  simpa using this

end
end Go.VL
namespace Go.VL
open Go.RowKit

theorem read_num (k : FloatKind) (b : Nat) : (∃ s t, k.format.read b = .nan s t) ∨ (∃ s, k.format.read b = .infinity s) ∨ ∃ s m e, k.format.read b = .number s m e := by
  cases h : k.format.read b with
  | number s m e => exact .inr (.inr ⟨s, m, e, rfl⟩)
  | infinity s => exact .inr (.inl ⟨s, rfl⟩)
  | nan s t => exact .inl ⟨s, t, rfl⟩
/-- What a single's number is made of. -/
theorem read_single {b : Nat} {s : Bool} {m : Nat} {e : Int} (h : FloatKind.f32.format.read b = .number s m e) : m < 2 ^ 24 ∧ -149 ≤ e ∧ e ≤ 104 := by
  unfold Ieee.Format.read at h
  have hs : (FloatKind.f32.format).signWeight = 2147483648 := by decide
  have hb : (FloatKind.f32.format).binade = 8388608 := by decide
  have hi : (FloatKind.f32.format).infRung = 2139095040 := by decide
  have hl : (FloatKind.f32.format).leastPlace = -149 := by decide
  simp only [hs, hb, hi, hl] at h
  generalize b % 2147483648 = r at h
  split at h
  · simp only [Ieee.Datum.number.injEq] at h
    omega
  · split at h
    · simp only [Ieee.Datum.number.injEq] at h
      omega
    · split at h <;> cases h
theorem cut_zero (s : Bool) (n : Nat) : Ieee.Toward.even.cut s n 0 = n := by
  simp [Ieee.Toward.cut, Nat.mod_one]
/-- A single's number has its double. -/
theorem nearest_wide {s : Bool} {m : Nat} {e : Int} (hm : m < 2 ^ 24) (he : -149 ≤ e ∧ e ≤ 104) : ∃ r, FloatKind.f64.format.nearest s m e = FloatKind.f64.format.word s r ∧ r < 9218868437227405312 := by
  unfold Ieee.Format.nearest
  by_cases h0 : m = 0
  · rw [if_pos h0]; exact ⟨0, rfl, by decide⟩
  · rw [if_neg h0]
    have hfb : (FloatKind.f64.format).fractionBits = 52 := by decide
    have hb : (FloatKind.f64.format).binade = 4503599627370496 := by decide
    have hi : (FloatKind.f64.format).infRung = 9218868437227405312 := by decide
    have hl : (FloatKind.f64.format).leastPlace = -1074 := by decide
    have hlog : m.log2 ≤ 23 := by
      have := (Nat.log2_lt h0).2 hm
      omega
    simp only [hfb, hb, hi, hl]
    have hlast : max (e + (m.log2 : Int) - (52 : Nat)) (-1074) = e + m.log2 - 52 := by omega
    rw [hlast]
    have hdrop : (e + (m.log2 : Int) - 52 - e).toNat = 0 := by omega
    rw [hdrop, cut_zero]
    have hsh : (e - (e + (m.log2 : Int) - 52)).toNat = 52 - m.log2 := by omega
    rw [hsh, Nat.shiftLeft_eq]
    have hlt : m < 2 ^ (m.log2 + 1) := Nat.lt_log2_self
    have hk : m * 2 ^ (52 - m.log2) < 2 ^ 53 := by
      calc m * 2 ^ (52 - m.log2) < 2 ^ (m.log2 + 1) * 2 ^ (52 - m.log2) := Nat.mul_lt_mul_of_pos_right hlt (Nat.two_pow_pos _)
        _ = 2 ^ 53 := by rw [← Nat.pow_add]; congr 1; omega
    refine ⟨_, rfl, ?_⟩
    have h1 : (e + (m.log2 : Int) - 52 - -1074).toNat ≤ 1149 := by omega
    have h2 : (e + (m.log2 : Int) - 52 - -1074).toNat * 4503599627370496 ≤ 1149 * 4503599627370496 := Nat.mul_le_mul_right _ h1
    refine Nat.lt_of_le_of_lt (Nat.min_le_left _ _) ?_
    have : (2 : Nat) ^ 53 = 9007199254740992 := by decide
    omega
/-- A double below infinity reads as a number of its sign. -/
theorem read_word {s : Bool} {r : Nat} (h : r < 9218868437227405312) : ∃ m e, FloatKind.f64.format.read (FloatKind.f64.format.word s r) = .number s m e := by
  have hs : (FloatKind.f64.format).signWeight = 9223372036854775808 := by decide
  have hb : (FloatKind.f64.format).binade = 4503599627370496 := by decide
  have hi : (FloatKind.f64.format).infRung = 9218868437227405312 := by decide
  unfold Ieee.Format.read Ieee.Format.word
  simp only [hs, hb, hi]
  have h1 : (if s then 9223372036854775808 + r else r) % 9223372036854775808 = r := by cases s <;> simp <;> omega
  have h2 : ((if s then 9223372036854775808 + r else r) / 9223372036854775808 % 2 == 1) = s := by
    cases s
    · have : r / 9223372036854775808 = 0 := by omega
      simp [this]
    · have : (9223372036854775808 + r) / 9223372036854775808 = 1 := by omega
      simp [this]
  rw [h1, h2]
  split
  · exact ⟨_, _, rfl⟩
  · exact ⟨_, _, rfl⟩
/-- Is a single a number? (It is nought, less itself.) -/
def fin (x : Option Nat) : Bool := ford .f32 (fop .sub .f32 x x) (fOf .f32 0) == some .eq
theorem isNaN_read {k : FloatKind} {b : Nat} : isNaN k b = (k.format.read b).isNaN := rfl
theorem convF_wide {b : Nat} {s : Bool} {m : Nat} {e : Int} (h : FloatKind.f32.format.read b = .number s m e) : convF .f32 .f64 (some b) = some (some (FloatKind.f64.format.nearest s m e)) := by
  obtain ⟨hm, he⟩ := read_single h
  obtain ⟨r, hr, hlt⟩ := nearest_wide (s := s) hm he
  obtain ⟨m', e', hw⟩ := read_word (s := s) hlt
  have hd : FloatKind.f32.decode b = .number s m e := h
  unfold convF
  rw [if_neg (by decide)]
  simp only [hd]
  have h1 : FloatKind.f64.encode (.number s m e) = FloatKind.f64.format.nearest s m e := rfl
  rw [h1, hr]
  have h2 : FloatKind.f64.decode (FloatKind.f64.format.word s r) = .number s m' e' := hw
  rw [h2]
  rfl
end Go.VL
namespace Go.VL
open Go.RowKit

/-- A float as data: no NaN's bits. -/
def okF (k : FloatKind) (x : Option Nat) : Prop := ∀ b, x = some b → isNaN k b = false
theorem okF_none {k : FloatKind} : okF k none := fun b h => by cases h
theorem okF_fOf {k : FloatKind} (b : Nat) : okF k (fOf k b) := fun c h => by
  unfold fOf at h
  split at h
  · cases h
  · rename_i hn
    simp only [Option.some.injEq] at h
    subst h
    simpa using hn
/-- A number, or an infinity. -/
theorem okF_read {k : FloatKind} {b : Nat} (h : okF k (some b)) : (∃ s m e, k.format.read b = .number s m e) ∨ ∃ s, k.format.read b = .infinity s := by
  have h1 := h b rfl
  rw [isNaN_read] at h1
  rcases read_num k b with ⟨s, t, hr⟩ | ⟨s, hr⟩ | h2
  · rw [hr] at h1; cases h1
  · exact .inr ⟨s, hr⟩
  · exact .inl h2
theorem okF_of_read {k : FloatKind} {b : Nat} (h : (∃ s m e, k.format.read b = .number s m e) ∨ ∃ s, k.format.read b = .infinity s) : okF k (some b) := fun c hc => by
  simp only [Option.some.injEq] at hc
  subst hc
  rw [isNaN_read]
  rcases h with ⟨s, m, e, hr⟩ | ⟨s, hr⟩ <;> rw [hr] <;> rfl
theorem compare_self (a : Int) : compare a a = Ordering.eq := by
  show compareOfLessAndEq a a = _
  unfold compareOfLessAndEq
  simp
theorem compare_selfN (a : Nat) : compare a a = Ordering.eq := by
  show compareOfLessAndEq a a = _
  unfold compareOfLessAndEq
  simp
/-- It is as great as itself. -/
theorem ford_self {k : FloatKind} {b : Nat} (h : okF k (some b)) : ford k (some b) (some b) = some .eq := by
  simp only [ford, Option.bind_some, Ieee.Format.order]
  rcases okF_read h with ⟨s, m, e, hr⟩ | ⟨s, hr⟩ <;> rw [hr] <;> simp only [Ieee.Datum.order]
  · rw [compare_self]
  · rw [compare_selfN]
/-- A single as a double. -/
def wide (x : Option Nat) : Option Nat := (convF .f32 .f64 x).getD none
theorem wide_some {b : Nat} (h : okF .f32 (some b)) : ∃ r, convF .f32 .f64 (some b) = some (some r) ∧ okF .f64 (some r) := by
  rcases okF_read h with ⟨s, m, e, hr⟩ | ⟨s, hr⟩
  · refine ⟨_, convF_wide hr, ?_⟩
    obtain ⟨hm, he⟩ := read_single hr
    obtain ⟨r, h1, h2⟩ := nearest_wide (s := s) hm he
    obtain ⟨m', e', h3⟩ := read_word (s := s) h2
    rw [h1]
    exact okF_of_read (.inl ⟨s, m', e', h3⟩)
  · refine ⟨FloatKind.f64.encode (.infinity s), ?_, ?_⟩
    · unfold convF
      rw [if_neg (by decide)]
      have hd : FloatKind.f32.decode b = .infinity s := hr
      simp only [hd]
    · refine okF_of_read (.inr ⟨s, ?_⟩)
      cases s <;> rfl
theorem convF_single {x : Option Nat} (h : okF .f32 x) : convF .f32 .f64 x = some (wide x) := by
  cases x with
  | none => rfl
  | some b =>
    obtain ⟨r, h1, -⟩ := wide_some h
    unfold wide
    rw [h1]; rfl
theorem wide_ok {x : Option Nat} (h : okF .f32 x) : okF .f64 (wide x) := by
  cases x with
  | none => exact okF_none
  | some b =>
    obtain ⟨r, h1, h2⟩ := wide_some h
    unfold wide
    rw [h1]; exact h2
/-! ### A number within bounds, cut -/
end Go.VL
namespace Go.VL
open Go.RowKit

theorem dec_split {p c : Prop} (h1 : p → c) (h2 : ¬ p → c) : c := (Classical.em p).elim h1 h2
section
variable {X : Cx} {all r : List Oper} {K : Sl → List Ob → Prop} {sl : Sl} {H : List Ob} {d : Tmp} {ty : TypeId} {ps : String} {af : Array Edge}
end
end Go.VL
namespace Go.VL
open Go.RowKit

theorem CallC.mono {X : Cx} {g : FuncId} {args : List V} {H : List Ob} {Q Q' : V → List Ob → Prop} (h : CallC X g args H Q) (hq : ∀ r H', Q r H' → Q' r H') : CallC X g args H Q' := fun m arr hS hr =>
  (h m arr hS hr).mono fun _u _w' ⟨m', r, H', h1, h2, h3⟩ => ⟨m', r, H', h1, hq r H' h2, h3⟩
/-- A call on data alone that answers r, with the live objects H1. -/
def LiveC (X : Cx) (g : FuncId) (args : List V) (r : V) (H1 : List Ob) : Prop := CallC X g args [] fun r' H' => r' = r ∧ H' = H1
/-- What is answered, looked at anew. -/
def LAns (r : V) (H1 : List Ob) (r0 : V) (H : List Ob) : Prop := ∃ g, Turns 0 H g H1 ∧ TrV H g r0 r
theorem CallC.turned {X : Cx} {g : FuncId} {args : List V} {H0 : List Ob} {P : V → List Ob → Prop} {N : Nat} (hN : H0.length = N) (h : CallC X g args H0 fun r0 H => ∃ gg H1 r1, Turns N H gg H1 ∧ TrV H gg r0 r1 ∧ P r1 H1) : CallC X g args H0 P := fun m arr hS hr => by
  refine (h m arr hS hr).mono fun u w' ⟨m', r0, H', h1, ⟨gg, H1, r1, hT, hv, hP⟩, hS', hE, hrv⟩ => ?_
  have hT' : Turns m.N H' gg H1 := by rw [hS.N, hN]; exact hT
  obtain ⟨k1, k2⟩ := hS'.turn hE hT'
  exact ⟨VL.turned m' H' gg, r1, H1, h1, hP, k1, k2, hrv.turn hS' hv⟩
theorem LiveC.of {X : Cx} {g : FuncId} {args : List V} {r : V} {H1 : List Ob} (h : CallC X g args [] (fun r0 H => LAns r H1 r0 H)) : LiveC X g args r H1 :=
  CallC.turned (N := 0) rfl (h.mono fun _r0 _H ⟨gg, h1, h2⟩ => ⟨gg, H1, r, h1, h2, rfl, rfl⟩)
theorem LiveC.of_body {X : Cx} {D : DR} (hD : DrawOk X D) {g : FuncId} {fn : Func} {c : Code} (hen : Enters X g) (hf : X.P.funcs[g]? = some fn) (hb : fn.body = some c) {args : List V} {r : V} {H1 : List Ob} {n : Nat} (hn : args.length + (fn.ntmps - args.length) = n)
    (h : vwp X n 0 D c (retQ X fn.results.toList (fun r0 H => LAns r H1 r0 H)) (slots args) []) : LiveC X g args r H1 :=
  .of (.of_body hD hen hf hb hn h)
/-- Live answers, frozen. -/
theorem LiveC.pure {X : Cx} {g : FuncId} {args : List V} {r r' : V} {H1 : List Ob} (h : LiveC X g args r H1) (hr : TrV H1 [] r r') : PureC X g args r' :=
  .of_call (h.mono fun r0 H ⟨h1, h2⟩ => by rw [h1, h2]; exact hr)
theorem l_ans {r0 r : V} {H H1 : List Ob} (g : List (Option Nat)) (hn : nodupO g = true) (hlt : (g.all fun x => match x with | some i => Nat.blt i H.length | none => true) = true) (ho : TurnO H g g H1) (hr : TrV H g r0 r) : LAns r H1 r0 H := by
  obtain ⟨gg, hT, -⟩ := turn (N0 := 0) (sl := fun _ => .any) (l := []) g hn rfl hlt ho trivial
  obtain ⟨h1, h2, h3⟩ := ho.spec
  refine ⟨g, ⟨h1, fun i hi => absurd hi (Nat.not_lt_zero _), fun i id o' hi hl hg => ?_, fun i o' hi hl hg => h3 i o' hi hg, nodupO_spec hn, fun i id hi => ?_⟩, hr⟩
  · obtain ⟨cs, k1, k2⟩ := h2 i id o' hi hg
    obtain ⟨k3, k4⟩ := k2.spec
    exact ⟨_, k1, rfl, rfl, Nat.le_of_eq k3, k4⟩
  · have := List.all_eq_true.1 hlt _ (List.mem_of_getElem? hi)
    exact Nat.le_of_ble_eq_true this

/-- A cell of an answer: data of its own, or one of the answer's objects. -/
def ansC : C → Bool
  | .mu _ _ _ _ => true
  | .pt _ _ => true
  | c => ownC c
def ansV1 : V → Bool
  | .c x => ansC x
  | .agg cs => cs.all ansC
  | .any => true
  | .tup _ => false
def ansV : V → Bool
  | .tup vs => vs.all ansV1
  | v => ansV1 v
/-- Objects numbered on from N. -/
def shC (N : Nat) : C → C
  | .mu id off n k => .mu (N + id) off n k
  | .pt id off => .pt (N + id) off
  | c => c
def shV1 (N : Nat) : V → V
  | .c x => .c (shC N x)
  | .agg cs => .agg (cs.map (shC N))
  | v => v
def shV (N : Nat) : V → V
  | .tup vs => .tup (vs.map (shV1 N))
  | v => shV1 N v

section
variable {m m' : Mem} {N : Nat} (hw : m'.w = m.w) (hB : m'.B ≤ m.B) (hF : ∀ b, m.F b → m.B ≤ b → m'.F b) (hN : m'.N = N + m.N) (hμ : ∀ i, m'.μ (N + i) = m.μ i)
include hw hB hF hN hμ
theorem R.shift {c : C} (h : ansC c = true) {u : Value} (hr : R m c u) : R m' (shC N c) u := by
  cases c with
  | mu id off n k =>
    rcases (RV.c hr).muI with ⟨rfl, rfl, rfl, hid, hg⟩ | ⟨cap, rfl, hid, hn, hs, hm, hg⟩
    · exact .mn (by omega) (by rw [hμ]; exact hg)
    · have := R.mu (m := m') (id := N + id) (off := off) (n := n) (k := k) (cap := cap) (by omega) (by rw [hμ]; exact hg) hn (by rw [hμ]; exact hs) hm
      rw [hμ] at this
      exact this
  | pt id off =>
    obtain ⟨rfl, hid, hg⟩ := (RV.c hr).ptI
    have := R.pt (m := m') (id := N + id) (off := off) (by omega) (by rw [hμ]; exact hg)
    rw [hμ] at this
    exact this
  | v x => exact R.own (c := .v x) hw hB hF h hr
  | f k x => exact R.own (c := .f k x) hw hB hF h hr
  | sl b n k cs => exact R.own (c := .sl b n k cs) hw hB hF h hr
  | vw b cs off => exact R.own (c := .vw b cs off) hw hB hF h hr
  | fn f cs => exact R.own (c := .fn f cs) hw hB hF h hr
  | any => exact R.own (c := .any) hw hB hF h hr
theorem RV.shift1 {v : V} (h : ansV1 v = true) {u : Value} (hr : RV m v u) : RV m' (shV1 N v) u := by
  cases v with
  | c x => exact .c (hr.cell.shift hw hB hF hN hμ h)
  | agg cs =>
    obtain ⟨arr, rfl, h1, h2⟩ := hr.aggI
    refine .agg (by simpa using h1) fun j c hj => ?_
    rw [List.getElem?_map, Option.map_eq_some_iff] at hj
    obtain ⟨c', hj, rfl⟩ := hj
    obtain ⟨u, g1, g2⟩ := h2 j c' hj
    exact ⟨u, g1, g2.shift hw hB hF hN hμ (List.all_eq_true.1 h c' (List.mem_of_getElem? hj))⟩
  | any => exact .any
  | tup vs => cases h
theorem RV.shift {v : V} (h : ansV v = true) {u : Value} (hr : RV m v u) : RV m' (shV N v) u := by
  cases v with
  | tup vs =>
    cases hr with
    | tup us hl hw' hr =>
      refine .tup us (by simpa using hl) (fun j v hj => ?_) fun j v hj => ?_
      · rw [List.getElem?_map, Option.map_eq_some_iff] at hj
        obtain ⟨v', hj, rfl⟩ := hj
        exact hw' j v' hj
      · rw [List.getElem?_map, Option.map_eq_some_iff] at hj
        obtain ⟨v', hj, rfl⟩ := hj
        exact (hr j v' hj).shift1 hw hB hF hN hμ (List.all_eq_true.1 h v' (List.mem_of_getElem? hj))
  | c x => exact RV.shift1 hw hB hF hN hμ (v := .c x) h hr
  | agg cs => exact RV.shift1 hw hB hF hN hμ (v := .agg cs) h hr
  | any => exact .any
end

theorem Sim.within {G : Glob} {m : Mem} {H : List Ob} (hS : Sim G m H) : Sim G (within m H) [] := by
  refine ⟨rfl, fun b hb => ?_, Nat.le_refl _, fun id hid => absurd hid (Nat.not_lt_zero _), fun id o ho => by simp at ho, fun id o ho => by simp at ho, fun i j oi oj hi => by simp at hi, fun g hg => ?_⟩
  · rcases hb with hb | ⟨id, o, ho, hl, hg, rfl⟩
    · exact hS.lo b hb
    · exact hS.blk id (Mem.N_lt hS ho) hg
  · obtain ⟨h1, h2⟩ := hS.gl g hg
    exact ⟨.inl h1, h2⟩

/-- A call that answers live objects, in the midst of others. -/
theorem CallC.of_live {X : Cx} {H : List Ob} {g : FuncId} {args args' : List V} {r : V} {H1 : List Ob} (hp : LiveC X g args' r H1) (hv : Views H args args') (ha : ansV r = true) (hc : ∀ o ∈ H1, ∀ c ∈ o.cs, ansC c = true) {Q : V → List Ob → Prop} (hQ : Q (shV H.length r) (H ++ H1.map fun o => ⟨o.cs.map (shC H.length), o.t, o.live⟩)) : CallC X g args H Q := by
  intro m arr hS hr
  refine (hp (within m H) arr hS.within (hr.view hS hv)).mono fun u w' ⟨m1, r', H', hmw, ⟨e1, e2⟩, hS1, hE1, hru⟩ => ?_
  subst e1 e2 hmw
  have hBs : m1.B = m.w.heap.size := hE1.B
  have hkeep : ∀ b, b < m.w.heap.size → m1.w.heap[b]? = m.w.heap[b]? := fun b hb => hE1.keep b (.inr hb)
  let m2 : Mem := ⟨m1.w, fun b => m.F b ∨ (m1.F b ∧ m.w.heap.size ≤ b), m.B, m.N + m1.N, fun i => if i < m.N then m.μ i else m1.μ (i - m.N)⟩
  have hμ1 : ∀ i, i < m.N → m2.μ i = m.μ i := fun i hi => if_pos hi
  have hμ2 : ∀ i, m2.μ (m.N + i) = m1.μ i := fun i => by
    show (if m.N + i < m.N then m.μ (m.N + i) else m1.μ (m.N + i - m.N)) = _
    rw [if_neg (by omega), Nat.add_sub_cancel_left]
  have hE : Ext m m2 := ⟨hE1.os, hE1.tape, hE1.output, hE1.size, fun b hb => hkeep b (hb.elim (hS.lo b) (fun h => Nat.lt_of_lt_of_le h hS.bs)), fun b hb => .inl hb, rfl, Nat.le_add_right _ _, hμ1, fun b hb => hb.imp id fun h => Nat.le_trans hS.bs h.2⟩
  have hsh : ∀ {c : C}, ansC c = true → ∀ {u : Value}, R m1 c u → R m2 (shC m.N c) u := fun hc => R.shift (m := m1) (m' := m2) rfl (by show m.B ≤ m1.B; rw [hBs]; exact hS.bs) (fun b h1 h2 => .inr ⟨h1, by rw [← hBs]; exact h2⟩) rfl hμ2 hc
  have hnb : ∀ (j : Nat) (o : Ob), H'[j]? = some o → o.live = true → (m1.μ j).gh = false → m.w.heap.size ≤ (m1.μ j).block := fun j o hj hl hg => by
    obtain ⟨-, -, -, -, -, -, h6⟩ := hS1.ob j o hj hl hg
    rw [← hBs]; exact h6
  have hget : ∀ {id : Nat} {o : Ob}, (H ++ H'.map fun o => (⟨o.cs.map (shC H.length), o.t, o.live⟩ : Ob))[id]? = some o → (id < m.N ∧ H[id]? = some o) ∨ ∃ j o', id = m.N + j ∧ H'[j]? = some o' ∧ o = ⟨o'.cs.map (shC m.N), o'.t, o'.live⟩ := fun {id o} h => by
    rw [hS.N]
    by_cases hlt : id < H.length
    · rw [List.getElem?_append_left hlt] at h
      exact .inl ⟨hlt, h⟩
    · rw [List.getElem?_append_right (by omega), List.getElem?_map, Option.map_eq_some_iff] at h
      obtain ⟨o', h1, rfl⟩ := h
      exact .inr ⟨id - H.length, o', by omega, h1, rfl⟩
  refine ⟨m2, _, _, rfl, hQ, ⟨?_, fun b hb => ?_, Nat.le_trans hS.bs hE1.size, fun id hid hg => ?_, fun id o ho hl hg => ?_, fun id o ho hl hg => ?_, fun i j oi oj hi hj l1 l2 q1 q2 hne => ?_, fun x hx => ?_⟩, hE, ?_⟩
  · show m.N + m1.N = _
    rw [hS.N, hS1.N, List.length_append, List.length_map]
  · rcases hb with hb | hb
    · exact Nat.lt_of_lt_of_le (hS.lo b hb) hE1.size
    · exact hS1.lo b hb.1
  · by_cases hlt : id < m.N
    · rw [hμ1 id hlt] at hg ⊢
      exact Nat.lt_of_lt_of_le (hS.blk id hlt hg) hE1.size
    · obtain ⟨j, rfl⟩ : ∃ j, id = m.N + j := ⟨id - m.N, by omega⟩
      rw [hμ2] at hg ⊢
      exact hS1.blk j (by have : m.N + j < m.N + m1.N := hid; omega) hg
  · rcases hget ho with ⟨hlt, ho2⟩ | ⟨j, o', rfl, ho2, rfl⟩
    · rw [hμ1 id hlt] at hg ⊢
      obtain ⟨arr, h1, h2, h3, h4, h5, h6⟩ := hS.ob id o ho2 hl hg
      have hblk := hS.blk id hlt hg
      refine ⟨arr, h1.eq (hkeep _ hblk), h2, h3, fun j c hj => ?_, ?_, h6⟩
      · obtain ⟨u, hu, hr⟩ := h4 j c hj
        exact ⟨u, hu, hr.ext hE⟩
      · rintro (hF | hF)
        · exact h5 hF
        · exact absurd hF.2 (by omega)
    · rw [hμ2] at hg ⊢
      obtain ⟨arr, h1, h2, h3, h4, h5, h6⟩ := hS1.ob j o' ho2 hl hg
      have hlo := hnb j o' ho2 hl hg
      refine ⟨arr, h1, h2, by simpa using h3, fun i c hi => ?_, ?_, Nat.le_trans hS.bs hlo⟩
      · rw [List.getElem?_map, Option.map_eq_some_iff] at hi
        obtain ⟨c', hi, rfl⟩ := hi
        obtain ⟨u, hu, hr⟩ := h4 i c' hi
        exact ⟨u, hu, hsh (hc o' (List.mem_of_getElem? ho2) c' (List.mem_of_getElem? hi)) hr⟩
      · rintro (hF | hF)
        · have := hS.lo _ hF; omega
        · exact h5 hF.1
  · rcases hget ho with ⟨hlt, ho2⟩ | ⟨j, o', rfl, ho2, rfl⟩
    · rw [hμ1 id hlt] at hg
      exact hS.gho id o ho2 hl hg
    · rw [hμ2] at hg
      have := hS1.gho j o' ho2 hl hg
      simp [this]
  · rcases hget hi with ⟨hlt, hi2⟩ | ⟨a, oa, rfl, hi2, rfl⟩ <;> rcases hget hj with ⟨hlt2, hj2⟩ | ⟨b, ob, rfl, hj2, rfl⟩
    · rw [hμ1 i hlt] at q1 ⊢; rw [hμ1 j hlt2] at q2 ⊢
      exact hS.inj i j oi oj hi2 hj2 l1 l2 q1 q2 hne
    · rw [hμ1 i hlt] at q1 ⊢; rw [hμ2] at q2 ⊢
      have h1 := hS.blk i hlt q1
      have h2 := hnb b ob hj2 l2 q2
      omega
    · rw [hμ2] at q1 ⊢; rw [hμ1 j hlt2] at q2 ⊢
      have h1 := hS.blk j hlt2 q2
      have h2 := hnb a oa hi2 l1 q1
      omega
    · rw [hμ2] at q1 q2 ⊢; rw [hμ2]
      exact hS1.inj a b oa ob hi2 hj2 l1 l2 q1 q2 (by omega)
  · obtain ⟨h1, h2⟩ := hS.gl x hx
    exact ⟨.inl h1, fun j y hj => ⟨(hE.cell (a := ⟨x.1, j, none⟩) h1).trans (h2.1 j y hj).1, (h2.1 j y hj).2⟩, h2.2.keep (hE.keep x.1 (.inl h1))⟩
  · rw [← hS.N]
    exact RV.shift (m := m1) (m' := m2) rfl (by show m.B ≤ m1.B; rw [hBs]; exact hS.bs) (fun b h1 h2 => .inr ⟨h1, by rw [← hBs]; exact h2⟩) rfl hμ2 ha hru

/-- A call that writes into the one object that it is given. -/
def MarkC (X : Cx) (g : FuncId) (n k : Nat) (t : TypeId) (cs : List C) (x : Value) (y : Value) (cs' : List C) : Prop :=
  CallC X g [.c (.mu 0 0 n k), .c (.v x)] [⟨cs, t, true⟩] fun r H => r = .c (.v y) ∧ H = [⟨cs', t, true⟩]
def MAns (t : TypeId) (y : Value) (cs' : List C) (r : V) (H : List Ob) : Prop := r = .c (.v y) ∧ ∃ H2, H = ⟨cs', t, true⟩ :: H2
theorem MarkC.of_body {X : Cx} {D : DR} (hD : DrawOk X D) {g : FuncId} {fn : Func} {c : Code} (hen : Enters X g) (hf : X.P.funcs[g]? = some fn) (hb : fn.body = some c) {n k : Nat} {t : TypeId} {cs cs' : List C} {x y : Value} (hsc : ∀ c ∈ cs', sc c = true) {q : Nat} (hn : 2 + (fn.ntmps - 2) = q)
    (h : vwp X q 1 D c (retQ X fn.results.toList (fun r H => MAns t y cs' r H)) (slots [.c (.mu 0 0 n k), .c (.v x)]) [⟨cs, t, true⟩]) : MarkC X g n k t cs x y cs' := by
  refine CallC.turned (N := 1) rfl (CallC.mono (CallC.of_body hD hen hf hb hn h) fun r0 H ⟨h1, H2, h2⟩ => ⟨[some 0], [⟨cs', t, true⟩], .c (.v y), ?_, by rw [h1]; exact tr_v, rfl, rfl⟩)
  subst h2
  obtain ⟨g, hT, -⟩ := turn (N0 := 1) (sl := fun _ => .any) (l := []) (H := ⟨cs', t, true⟩ :: H2) (H' := [⟨cs', t, true⟩]) [some 0] rfl rfl (by simp) ⟨⟨cs', rfl, .stay fun c hc => by
    have := hsc c hc
    cases c <;> first | rfl | cases this⟩, trivial⟩ trivial
  have hg : g = [some 0] := by
    have h1 := hT.len
    have h2 := hT.fix 0 (by omega)
    match g, h1 with
    | [a], _ => simp at h2; rw [h2]
  rw [hg] at hT
  exact hT
theorem R.sc {m m' : Mem} {c : C} (h : sc c = true) {u : Value} (hr : R m c u) : R m' c u := by
  cases hr with
  | fz hr =>
    cases c with
    | v x => cases hr with | v h => exact .v h
    | f k x => cases hr with
      | fs h1 => exact .fs h1
      | fn h1 => exact .fn h1
    | _ => cases h
  | _ => cases h
theorem CallC.of_mark {X : Cx} {H : List Ob} {g : FuncId} {id n k : Nat} {t : TypeId} {cs cs' : List C} {x y : Value} (hp : MarkC X g n k t cs x y cs') (ho : H[id]? = some ⟨cs, t, true⟩) (h1 : ∀ c ∈ cs, sc c = true) (h2 : ∀ c ∈ cs', sc c = true) (_hx : VL.plain x = true) {Q : V → List Ob → Prop} (hQ : Q (.c (.v y)) (H.set id ⟨cs', t, true⟩)) : CallC X g [.c (.mu id 0 n k), .c (.v x)] H Q := by
  intro m arr hS hr
  have hidN := Mem.N_lt hS ho
  let m1 : Mem := ⟨m.w, fun b => m.F b ∨ ∃ (i : Nat) (o : Ob), H[i]? = some o ∧ o.live = true ∧ (m.μ i).gh = false ∧ i ≠ id ∧ (m.μ i).block = b, m.B, 1, fun _ => m.μ id⟩
  have hS1 : Sim X.G m1 [⟨cs, t, true⟩] := by
    refine ⟨rfl, fun b hb => ?_, hS.bs, fun i _ hg => hS.blk id hidN hg, fun i o hi hl hg => ?_, fun i o hi hl hg => ?_, fun i j oi oj hi hj l1 l2 q1 q2 hne => ?_, fun z hz => ?_⟩
    · rcases hb with hb | ⟨i, o, a1, a2, a3, a4, rfl⟩
      · exact hS.lo b hb
      · exact hS.blk i (Mem.N_lt hS a1) a3
    · have hi0 : i = 0 := by have := (List.getElem?_eq_some_iff.1 hi).1; simpa using this
      subst hi0
      simp at hi
      subst hi
      obtain ⟨arr, k1, k2, k3, k4, k5, k6⟩ := hS.ob id _ ho rfl hg
      refine ⟨arr, k1, k2, k3, fun j c hj => ?_, ?_, k6⟩
      · obtain ⟨u, hu, hr⟩ := k4 j c hj
        exact ⟨u, hu, hr.sc (h1 c (List.mem_of_getElem? hj))⟩
      · rintro (hF | ⟨i, o, a1, a2, a3, a4, a5⟩)
        · exact k5 hF
        · exact hS.inj i id o _ a1 ho a2 rfl a3 hg a4 a5
    · have hi0 : i = 0 := by have := (List.getElem?_eq_some_iff.1 hi).1; simpa using this
      subst hi0
      simp at hi
      subst hi
      exact hS.gho id _ ho rfl hg
    · have a1 := (List.getElem?_eq_some_iff.1 hi).1
      have a2 := (List.getElem?_eq_some_iff.1 hj).1
      simp at a1 a2
      omega
    · obtain ⟨a1, a2⟩ := hS.gl z hz
      exact ⟨.inl a1, a2⟩
  have hr1 : RVs m1 [.c (.mu 0 0 n k), .c (.v x)] arr := by
    refine ⟨hr.1, fun j v hj => ?_⟩
    match j with
    | 0 =>
      simp at hj
      subst hj
      obtain ⟨u, a1, a2⟩ := hr.2 0 _ rfl
      refine ⟨u, a1, .c ?_⟩
      rcases a2.muI with ⟨rfl, rfl, -, b2, b3⟩ | ⟨cap, rfl, b2, b3, b4, b5, b6⟩
      · exact .mn (m := m1) (show (0 : Nat) < 1 by omega) b3
      · exact R.mu (m := m1) (id := 0) (off := 0) (show (0 : Nat) < 1 by omega) b6 b3 b4 b5
    | 1 =>
      simp at hj
      subst hj
      obtain ⟨u, a1, a2⟩ := hr.2 1 _ rfl
      exact ⟨u, a1, .c (a2.cell.sc rfl)⟩
    | j + 2 => simp at hj
  refine (hp m1 arr hS1 hr1).mono fun u w' ⟨m2, r', H', hmw, ⟨e1, e2⟩, hS2, hE2, hru⟩ => ?_
  subst e1 e2 hmw
  have hμ0 : m2.μ 0 = m.μ id := hE2.μ 0 (show (0 : Nat) < 1 by omega)
  let m' : Mem := ⟨m2.w, m.F, m.B, m.N, m.μ⟩
  have hE : Ext m m' := ⟨hE2.os, hE2.tape, hE2.output, hE2.size, fun b hb => hE2.keep b (hb.imp .inl fun h => h), fun b hb => hb, rfl, Nat.le_refl _, fun _ _ => rfl, fun b hb => .inl hb⟩
  have hget : ∀ {i : Nat} {o : Ob}, (H.set id ⟨cs', t, true⟩)[i]? = some o → (i = id ∧ o = ⟨cs', t, true⟩) ∨ (i ≠ id ∧ H[i]? = some o) := fun {i o} h => by
    by_cases he : i = id
    · subst he
      rw [List.getElem?_set_self (by have := (List.getElem?_eq_some_iff.1 ho).1; exact this)] at h
      simp at h
      exact .inl ⟨rfl, h.symm⟩
    · rw [List.getElem?_set_ne (fun h => he h.symm)] at h
      exact .inr ⟨he, h⟩
  have hob : ∀ {i : Nat} {o : Ob}, (H.set id ⟨cs', t, true⟩)[i]? = some o → o.live = true → ∃ o', H[i]? = some o' ∧ o'.live = true := fun {i o} h hl => by
    rcases hget h with ⟨rfl, rfl⟩ | ⟨-, h⟩
    · exact ⟨_, ho, rfl⟩
    · exact ⟨o, h, hl⟩
  refine ⟨m', _, _, rfl, hQ, ⟨?_, fun b hb => Nat.lt_of_lt_of_le (hS.lo b hb) hE2.size, Nat.le_trans hS.bs hE2.size, fun i hi hg => Nat.lt_of_lt_of_le (hS.blk i hi hg) hE2.size, fun i o hi hl hg => ?_, fun i o hi hl hg => ?_, fun i j oi oj hi hj l1 l2 q1 q2 hne => ?_, fun z hz => ?_⟩, hE, ?_⟩
  · show m.N = _
    rw [hS.N, List.length_set]
  · rcases hget hi with ⟨rfl, rfl⟩ | ⟨hne, hi2⟩
    · have hg2 : (m2.μ 0).gh = false := by rw [hμ0]; exact hg
      obtain ⟨arr, k1, k2, k3, k4, k5, k6⟩ := hS2.ob 0 _ rfl rfl hg2
      rw [hμ0] at k1 k2 k3 k4
      refine ⟨arr, k1, k2, k3, fun j c hj => ?_, ?_, ?_⟩
      · obtain ⟨u, hu, hr⟩ := k4 j c hj
        exact ⟨u, hu, hr.sc (h2 c (List.mem_of_getElem? hj))⟩
      · obtain ⟨-, -, -, -, -, k5, -⟩ := hS.ob i _ ho rfl hg
        exact k5
      · obtain ⟨-, -, -, -, -, -, k6⟩ := hS.ob i _ ho rfl hg
        exact k6
    · obtain ⟨arr, k1, k2, k3, k4, k5, k6⟩ := hS.ob i o hi2 hl hg
      refine ⟨arr, k1.eq (hE2.keep _ (.inl (.inr ⟨i, o, hi2, hl, hg, hne, rfl⟩))), k2, k3, fun j c hj => ?_, k5, k6⟩
      obtain ⟨u, hu, hr⟩ := k4 j c hj
      exact ⟨u, hu, hr.ext hE⟩
  · rcases hget hi with ⟨rfl, rfl⟩ | ⟨hne, hi2⟩
    · exact hS2.gho 0 _ rfl rfl (by rw [hμ0]; exact hg)
    · exact hS.gho i o hi2 hl hg
  · obtain ⟨o1, a1, a2⟩ := hob hi l1
    obtain ⟨o2, b1, b2⟩ := hob hj l2
    exact hS.inj i j o1 o2 a1 b1 a2 b2 q1 q2 hne
  · obtain ⟨a1, a2⟩ := hS.gl z hz
    exact ⟨a1, fun j y hj => ⟨(hE.cell (a := ⟨z.1, j, none⟩) a1).trans (a2.1 j y hj).1, (a2.1 j y hj).2⟩, a2.2.keep (hE.keep z.1 (.inl a1))⟩
  · exact .c (hru.cell.sc rfl)

section
variable {X : Cx} {all r : List Oper} {K : Sl → List Ob → Prop} {sl : Sl} {H : List Ob} {d : Tmp} {ty : TypeId} {ps : String} {af : Array Edge}
/-- A call that answers live objects. -/
theorem v_live {f : Operand} {args : Array Operand} {tys : Array TypeId} {g : FuncId} {caps : List C} {args' : List V} {res res' : V} {H1 H' : List Ob} {N : Nat} (hp : LiveC X g args' res H1) (hN : H.length = N) (ha : ansV res = true) (hc : ∀ o ∈ H1, ∀ c ∈ o.cs, ansC c = true) (hres : shV N res = res') (hH : (H ++ H1.map fun o => ⟨o.cs.map (shC N), o.t, o.live⟩) = H')
    (hf : rho X.G sl f = .c (.fn g caps)) {ags : List V} (has : args.toList.map (rho X.G sl) ++ caps.map .c = ags) (hv : Views H ags args') (h : vops X all r K (upd sl d res') H') : vops X all (⟨some d, .call ⟨.value f, args, tys⟩, ty, ps, af, none⟩ :: r) K sl H := by
  subst has hN hres hH
  simp only [vops, vguard, vop, callOf, hf, target, putV]
  exact CallC.of_live hp hv ha hc h
/-- A call that writes into one live object. -/
theorem v_mark {f : Operand} {args : Array Operand} {tys : Array TypeId} {g : FuncId} {id n k : Nat} {t : TypeId} {cs cs' : List C} {x y : Value} {H' : List Ob} (hp : MarkC X g n k t cs x y cs') (ho : H[id]? = some ⟨cs, t, true⟩) (h1 : ∀ c ∈ cs, sc c = true) (h2 : ∀ c ∈ cs', sc c = true) (hx : VL.plain x = true) (hH : H.set id ⟨cs', t, true⟩ = H')
    (hf : rho X.G sl f = .c (.fn g [])) (has : args.toList.map (rho X.G sl) = [.c (.mu id 0 n k), .c (.v x)]) (h : vops X all r K (upd sl d (.c (.v y))) H') : vops X all (⟨some d, .call ⟨.value f, args, tys⟩, ty, ps, af, none⟩ :: r) K sl H := by
  subst hH
  simp only [vops, vguard, vop, callOf, hf, target, putV, has, List.map_nil, List.append_nil]
  exact CallC.of_mark hp ho h1 h2 hx h
end
/-- Plain cells stay plain. -/
theorem sh_sc {N : Nat} {cs : List C} (h : ∀ c ∈ cs, sc c = true) : cs.map (shC N) = cs := by
  refine List.map_congr_left (fun c hc => ?_) |>.trans (List.map_id' _)
  have := h c hc
  cases c <;> first | rfl | cases this
theorem ans_sc {cs : List C} (h : ∀ c ∈ cs, sc c = true) : ∀ c ∈ cs, ansC c = true := fun c hc => by
  have := h c hc
  cases c <;> first | rfl | cases this
end Go.VL
namespace Go.VL
open Go.RowKit

section
variable {X : Cx} {all r : List Oper} {K : Sl → List Ob → Prop} {sl : Sl} {H : List Ob} {d : Tmp} {ty : TypeId} {ps : String} {af : Array Edge}
theorem v_live1 {f : Operand} {args : Array Operand} {tys : Array TypeId} {g : FuncId} {caps : List C} {args' : List V} {res res' : V} {t : TypeId} {cs : List C} {H' : List Ob} {N : Nat} (hp : LiveC X g args' res [⟨cs, t, true⟩]) (hsc : ∀ c ∈ cs, sc c = true) (hN : H.length = N) (ha : ansV res = true) (hres : shV N res = res') (hH : H ++ [⟨cs, t, true⟩] = H')
    (hf : rho X.G sl f = .c (.fn g caps)) {ags : List V} (has : args.toList.map (rho X.G sl) ++ caps.map .c = ags) (hv : Views H ags args') (h : vops X all r K (upd sl d res') H') : vops X all (⟨some d, .call ⟨.value f, args, tys⟩, ty, ps, af, none⟩ :: r) K sl H :=
  v_live hp hN ha (fun o ho => by
    simp only [List.mem_singleton] at ho
    subst ho
    exact ans_sc hsc) hres (by rw [← hH]; simp only [List.map_cons, List.map_nil, sh_sc hsc]) hf has hv h
end
/-- A list of cells written so, anew. -/
theorem trc_flat {α : Type} {enc : α → List C} {H : List Ob} {g : List (Option Nat)} {xs : List α} (h : ∀ a, (enc a).all sc = true) {cs : List C} (hc : cs = flat enc xs) : TrC H g cs (flat enc xs) := by
  rw [hc]
  exact .stay (stays_flat h xs)
theorem vw_mu2 {α : Type} {H : List Ob} {enc : α → List C} {id n k : Nat} {xs : List α} {t : TypeId} (hsc : ∀ a, (enc a).all sc = true) (he : ∀ a, (enc a).length = k) (ho : H[id]? = some ⟨flat enc xs, t, true⟩) (hn : n = xs.length) : VwV H (.c (.mu id 0 n k)) (.c (.sl false n k (flat enc xs))) := vw_mu hsc he ho hn
theorem a_flat2 {α : Type} {H : List Ob} {enc : α → List C} {id n n' k : Nat} {xs : List α} {t : TypeId} {cs : List C} (hsc : ∀ a, (enc a).all sc = true) (he : ∀ a, (enc a).length = k) (ho : H[id]? = some ⟨cs, t, true⟩) (hc : cs = flat enc xs) (hn : n = xs.length) (hn' : n' = n) : TrV H [] (.c (.mu id 0 n k)) (.c (.sl true n' k (flat enc xs))) := by
  subst hc hn'
  exact a_flat hsc he ho hn
theorem okF_near {k : FloatKind} (n : Int) : okF k (some (k.nearest n)) := fun b h => by
  simp only [Option.some.injEq] at h
  subst h
  exact write_num k (.number (decide (n < 0)) n.natAbs 0) rfl
/-- A list of which the first ones are marked. -/
def marks {α : Type} (f : Nat → α) (i : Nat) (xs : List α) : List α := (List.range i).map f ++ xs.drop i
theorem marks_len {α : Type} {f : Nat → α} {i : Nat} {xs : List α} (h : i ≤ xs.length) : (marks f i xs).length = xs.length := by simp [marks]; omega
theorem marks_all {α : Type} {f : Nat → α} {xs : List α} : marks f xs.length xs = (List.range xs.length).map f := by simp [marks]
theorem marks_step {α : Type} {f : Nat → α} {i : Nat} {xs : List α} (h : i < xs.length) : (marks f i xs).set i (f i) = marks f (i + 1) xs := by
  unfold marks
  have hd : (List.drop i xs).set 0 (f i) = f i :: List.drop (i + 1) xs := by rw [List.drop_eq_getElem_cons h]; rfl
  rw [List.set_append_right _ _ (by simp), List.range_succ, List.map_append, List.length_map, List.length_range, Nat.sub_self, hd]
  simp
section
variable {X : Cx} {all r : List Oper} {K : Sl → List Ob → Prop} {sl : Sl} {H : List Ob} {d : Tmp} {ty : TypeId} {ps : String} {af : Array Edge}
/-- append of a live slice onto a live slice. -/
theorem v_app_flat {α : Type} {enc : α → List C} {ys zs : List α} {s x : Operand} {t e e' : TypeId} {a b : Nat} {z : List Value} {L : Lay} {id idx m n k q : Nat} {H' : List Ob} (_hsc : ∀ a, (enc a).all sc = true) (he : ∀ a, (enc a).length = k) (hL : X.lay t = some ⟨.slice e, a, b, z⟩) (hLe : X.lay e = some L) (hs : rho X.G sl s = .c (.mu id 0 m k)) (ho : H[id]? = some ⟨flat enc ys, e, true⟩) (hm : m = ys.length)
    (hx : rho X.G sl x = .c (.mu idx 0 n k)) (hox : H[idx]? = some ⟨flat enc zs, e', true⟩) (hz : n = zs.length) (hk : L.size = k) (hk0 : Nat.blt 0 k = true) (hn : m + n ≤ maxLen ∧ (m + n) * L.bytes ≤ 140737488355328) (hq : H.length = q) (hH : H.set id ⟨flat enc ys, e, false⟩ ++ [⟨flat enc (ys ++ zs), e, true⟩] = H') (h : vops X all r K (upd sl d (.c (.mu q 0 (m + n) k))) H') :
    vops X all (⟨some d, .call ⟨.builtin .append, #[s, x], #[t, t]⟩, ty, ps, af, none⟩ :: r) K sl H := by
  have hx' : srcOf H (rho X.G sl x) = some (n, k, flat enc zs) := by
    have hl : 0 + n * k ≤ (flat enc zs).length := by rw [flat_length he, hz]; omega
    have hsub : sub (flat enc zs) 0 (n * k) = flat enc zs := by
      have : n * k = (flat enc zs).length := by rw [flat_length he, hz]
      unfold sub
      rw [this]; simp
    simp only [srcOf, hx, hox]
    rw [if_pos ⟨trivial, hl⟩, hsub]
  exact v_app_mu hL hLe hs ho hx' hk (Nat.le_of_ble_eq_true hk0) (by rw [flat_length he, hm]) hn hq (by rw [← flat_append]; exact hH) h
/-- append of a frozen slice onto a live slice. -/
theorem v_app_flat_sl {α : Type} {enc : α → List C} {ys zs : List α} {s x : Operand} {t e : TypeId} {a b : Nat} {z : List Value} {L : Lay} {id m n k q : Nat} {o : Bool} {H' : List Ob} (hsc : ∀ a, (enc a).all sc = true) (he : ∀ a, (enc a).length = k) (hL : X.lay t = some ⟨.slice e, a, b, z⟩) (hLe : X.lay e = some L) (hs : rho X.G sl s = .c (.mu id 0 m k)) (ho : H[id]? = some ⟨flat enc ys, e, true⟩) (hm : m = ys.length)
    (hx : rho X.G sl x = .c (.sl o n k (flat enc zs))) (hk : L.size = k) (hk0 : Nat.blt 0 k = true) (hn : m + n ≤ maxLen ∧ (m + n) * L.bytes ≤ 140737488355328) (hq : H.length = q) (hH : H.set id ⟨flat enc ys, e, false⟩ ++ [⟨flat enc (ys ++ zs), e, true⟩] = H') (h : vops X all r K (upd sl d (.c (.mu q 0 (m + n) k))) H') :
    vops X all (⟨some d, .call ⟨.builtin .append, #[s, x], #[t, t]⟩, ty, ps, af, none⟩ :: r) K sl H := by
  have hx' : srcOf H (rho X.G sl x) = some (n, k, flat enc zs) := by
    simp only [srcOf, hx]
    rw [reowns_flat hsc]
  exact v_app_mu hL hLe hs ho hx' hk (Nat.le_of_ble_eq_true hk0) (by rw [flat_length he, hm]) hn hq (by rw [← flat_append]; exact hH) h
end
end Go.VL
namespace Go.VL
open Go.RowKit

theorem log2_mul {m k : Nat} (hm : m ≠ 0) : (m * 2 ^ k).log2 = m.log2 + k := by
  have h0 : m * 2 ^ k ≠ 0 := Nat.mul_ne_zero hm (Nat.ne_of_gt (Nat.two_pow_pos k))
  refine (Nat.log2_eq_iff h0).2 ⟨?_, ?_⟩
  · rw [Nat.pow_add]
    exact Nat.mul_le_mul_right _ (Nat.log2_self_le hm)
  · rw [show m.log2 + k + 1 = (m.log2 + 1) + k by omega, Nat.pow_add]
    exact Nat.mul_lt_mul_of_pos_right Nat.lt_log2_self (Nat.two_pow_pos k)
end Go.VL
namespace Go.VL
open Go.RowKit
set_option maxHeartbeats 4000000
abbrev fS : Ieee.Format := FloatKind.f32.format
theorem fS_fb : fS.fractionBits = 23 := by decide
theorem fS_bi : fS.binade = 8388608 := by decide
theorem fS_in : fS.infRung = 2139095040 := by decide
theorem fS_lp : fS.leastPlace = -149 := by decide
theorem fS_sw : fS.signWeight = 2147483648 := by decide
/-- Rounded to the nearest, and between two to the even one. -/
def rne (n d : Nat) : Nat := n / 2 ^ d + (if 2 ^ d < 2 * (n % 2 ^ d) ∨ (2 ^ d = 2 * (n % 2 ^ d) ∧ (n / 2 ^ d) % 2 = 1) then 1 else 0)
theorem rne_small {n d : Nat} (h : n.log2 + 2 ≤ d) : rne n d = 0 := by
  have h1 : n < 2 ^ (n.log2 + 1) := Nat.lt_log2_self
  have h2 : 2 ^ (n.log2 + 2) ≤ 2 ^ d := Nat.pow_le_pow_right (by decide) h
  have h3 : 2 ^ (n.log2 + 2) = 2 * 2 ^ (n.log2 + 1) := by rw [Nat.pow_succ, Nat.mul_comm]
  unfold rne
  rw [Nat.div_eq_of_lt (by omega), Nat.mod_eq_of_lt (by omega), if_neg (by omega)]
theorem cut_rne (s : Bool) (n d : Nat) : Ieee.Toward.even.cut s n d = rne n d := by
  have e : ∀ k, k = min d (n.log2 + 2) → Ieee.Toward.even.cut s n d = rne n k := fun k hk => by
    unfold Ieee.Toward.cut rne
    subst hk
    simp only [Nat.one_shiftLeft]
    congr 1
    by_cases h : 2 ^ min d (n.log2 + 2) < 2 * (n % 2 ^ min d (n.log2 + 2)) ∨ (2 ^ min d (n.log2 + 2) = 2 * (n % 2 ^ min d (n.log2 + 2)) ∧ (n / 2 ^ min d (n.log2 + 2)) % 2 = 1)
    · rw [if_pos h]
      have : (decide (2 ^ min d (n.log2 + 2) < 2 * (n % 2 ^ min d (n.log2 + 2))) || 2 ^ min d (n.log2 + 2) == 2 * (n % 2 ^ min d (n.log2 + 2)) && (n / 2 ^ min d (n.log2 + 2)) % 2 == 1) = true := by simpa using h
      rw [this]; rfl
    · rw [if_neg h]
      have : (decide (2 ^ min d (n.log2 + 2) < 2 * (n % 2 ^ min d (n.log2 + 2))) || 2 ^ min d (n.log2 + 2) == 2 * (n % 2 ^ min d (n.log2 + 2)) && (n / 2 ^ min d (n.log2 + 2)) % 2 == 1) = false := by
        rw [← Bool.not_eq_true]
        simpa using h
      rw [this]; rfl
  by_cases h : d ≤ n.log2 + 2
  · exact e d (by omega)
  · rw [e (n.log2 + 2) (by omega), rne_small (Nat.le_refl _), rne_small (by omega)]
theorem rne_mono {n1 n2 d : Nat} (h : n1 ≤ n2) : rne n1 d ≤ rne n2 d := by
  have hq := Nat.div_le_div_right (c := 2 ^ d) h
  have e1 := Nat.div_add_mod n1 (2 ^ d)
  have e2 := Nat.div_add_mod n2 (2 ^ d)
  unfold rne
  by_cases hlt : n1 / 2 ^ d < n2 / 2 ^ d
  · split <;> omega
  · have heq : n1 / 2 ^ d = n2 / 2 ^ d := by omega
    rw [heq] at e1
    have hr : n1 % 2 ^ d ≤ n2 % 2 ^ d := by omega
    rw [heq]
    generalize n1 % 2 ^ d = r1 at hr ⊢
    generalize n2 % 2 ^ d = r2 at hr ⊢
    generalize n2 / 2 ^ d = q
    generalize 2 ^ d = G
    split
    · rename_i h1
      rw [if_pos (by omega)]
      exact Nat.le_refl _
    · omega
theorem rne_mul (m d : Nat) : rne (m * 2 ^ d) d = m := by
  unfold rne
  have hp := Nat.two_pow_pos d
  rw [Nat.mul_div_cancel _ hp, Nat.mul_mod_left, if_neg (by omega)]
  omega
theorem rne_scale (n d k : Nat) : rne (n * 2 ^ k) (d + k) = rne n d := by
  have hp := Nat.two_pow_pos k
  unfold rne
  rw [Nat.pow_add, Nat.mul_div_mul_right _ _ hp, Nat.mul_mod_mul_right]
  have h1 : (2 ^ d * 2 ^ k < 2 * (n % 2 ^ d * 2 ^ k)) ↔ 2 ^ d < 2 * (n % 2 ^ d) := by
    rw [← Nat.mul_assoc]
    exact Nat.mul_lt_mul_right hp
  have h2 : (2 ^ d * 2 ^ k = 2 * (n % 2 ^ d * 2 ^ k)) ↔ 2 ^ d = 2 * (n % 2 ^ d) := by
    rw [← Nat.mul_assoc]
    exact Nat.mul_left_inj (by omega)
  simp only [h1, h2]
theorem rne_lo (n d : Nat) : n / 2 ^ d ≤ rne n d ∧ rne n d ≤ n / 2 ^ d + 1 := by
  unfold rne
  split <;> omega
def lastP (n : Nat) (p : Int) : Int := max (p + (n.log2 : Int) - 23) (-149)
/-- The rung that is nearest to a number. -/
def rung (n : Nat) (p : Int) : Nat := if n = 0 then 0 else min ((lastP n p + 149).toNat * 8388608 + rne (n * 2 ^ (p - lastP n p).toNat) (lastP n p - p).toNat) 2139095040
theorem nearest_rung (s : Bool) (n : Nat) (p : Int) : fS.nearest s n p = fS.word s (rung n p) := by
  unfold Ieee.Format.nearest rung
  split
  · rfl
  · simp only [fS_fb, fS_bi, fS_in, fS_lp, cut_rne, Nat.shiftLeft_eq]
    have : ((lastP n p) - -149).toNat = (lastP n p + 149).toNat := by omega
    rw [← this]
    rfl
theorem rung_0 {p : Int} : rung 0 p = 0 := rfl
/-- The same number, told with more digits. -/
theorem rung_scale (n k : Nat) (p : Int) : rung (n * 2 ^ k) (p - k) = rung n p := by
  by_cases h0 : n = 0
  · subst h0; simp [rung_0]
  have hm : n * 2 ^ k ≠ 0 := Nat.mul_ne_zero h0 (Nat.ne_of_gt (Nat.two_pow_pos k))
  have hl : lastP (n * 2 ^ k) (p - k) = lastP n p := by
    unfold lastP
    rw [log2_mul h0]
    omega
  unfold rung
  rw [if_neg h0, if_neg hm, hl]
  congr 2
  generalize lastP n p = L
  by_cases h1 : L ≤ p - k
  · obtain ⟨a, ha⟩ : ∃ a : Nat, p - k - L = a := ⟨(p - k - L).toNat, by omega⟩
    rw [show (L - (p - k)).toNat = 0 by omega, show (L - p).toNat = 0 by omega, show (p - k - L).toNat = a by omega, show (p - L).toNat = k + a by omega, Nat.mul_assoc, ← Nat.pow_add]
  · by_cases h2 : L ≤ p
    · obtain ⟨a, ha⟩ : ∃ a : Nat, p - L = a := ⟨(p - L).toNat, by omega⟩
      obtain ⟨b, hb⟩ : ∃ b : Nat, L - (p - k) = b := ⟨(L - (p - k)).toNat, by omega⟩
      have hk : k = a + b := by omega
      rw [show (p - k - L).toNat = 0 by omega, show (L - (p - k)).toNat = b by omega, show (p - L).toNat = a by omega, show (L - p).toNat = 0 by omega, hk, Nat.pow_add, Nat.pow_zero, Nat.mul_one, ← Nat.mul_assoc, rne_mul]
      have := rne_mul (n * 2 ^ a) 0
      rw [Nat.pow_zero, Nat.mul_one] at this
      rw [this]
    · obtain ⟨b, hb⟩ : ∃ b : Nat, L - p = b := ⟨(L - p).toNat, by omega⟩
      rw [show (p - k - L).toNat = 0 by omega, show (L - (p - k)).toNat = b + k by omega, show (p - L).toNat = 0 by omega, show (L - p).toNat = b by omega, Nat.pow_zero, Nat.mul_one, Nat.mul_one, rne_scale]
theorem log2_mono {a b : Nat} (h : a ≤ b) : a.log2 ≤ b.log2 := by
  by_cases h0 : a = 0
  · subst h0; simp
  · by_cases hlt : a.log2 ≤ b.log2
    · exact hlt
    · have h1 := Nat.log2_self_le h0
      have h2 : b < 2 ^ (b.log2 + 1) := Nat.lt_log2_self
      have h3 : 2 ^ (b.log2 + 1) ≤ 2 ^ a.log2 := Nat.pow_le_pow_right (by decide) (by omega)
      omega
theorem kept_lo {n : Nat} {p : Int} (h0 : n ≠ 0) (hp : p ≤ -149) (h : -149 < lastP n p) : 8388608 ≤ rne n (lastP n p - p).toNat := by
  have hL : lastP n p = p + (n.log2 : Int) - 23 := by unfold lastP at h ⊢; omega
  have hd : (lastP n p - p).toNat + 23 = n.log2 := by omega
  refine Nat.le_trans ?_ (rne_lo _ _).1
  rw [Nat.le_div_iff_mul_le (Nat.two_pow_pos _)]
  have h5 := Nat.log2_self_le h0
  rw [← hd, Nat.pow_add, Nat.mul_comm] at h5
  exact h5
theorem kept_hi {n : Nat} {p : Int} : rne n (lastP n p - p).toNat ≤ 16777216 := by
  have h6 : n < 2 ^ (n.log2 + 1) := Nat.lt_log2_self
  have hd1 : n.log2 + 1 ≤ (lastP n p - p).toNat + 24 := by
    unfold lastP
    omega
  have h7 : n < 2 ^ ((lastP n p - p).toNat + 24) := Nat.lt_of_lt_of_le h6 (Nat.pow_le_pow_right (by decide) hd1)
  have h8 := (rne_lo n (lastP n p - p).toNat).2
  rw [Nat.pow_add] at h7
  have h9 : n / 2 ^ (lastP n p - p).toNat < 2 ^ 24 := by
    rw [Nat.div_lt_iff_lt_mul (Nat.two_pow_pos _), Nat.mul_comm]
    exact h7
  exact Nat.le_trans h8 h9
theorem step_le {x y k1 k2 : Nat} (h : x + 1 ≤ y) (h1 : k1 ≤ 16777216) (h2 : 8388608 ≤ k2) : x * 8388608 + k1 ≤ y * 8388608 + k2 := by omega
theorem rung_mono_low {n1 n2 : Nat} {p : Int} (hp : p ≤ -149) (h : n1 ≤ n2) : rung n1 p ≤ rung n2 p := by
  by_cases h0 : n1 = 0
  · subst h0; rw [rung_0]; exact Nat.zero_le _
  have h02 : n2 ≠ 0 := by omega
  have hlog := log2_mono h
  have hL : lastP n1 p ≤ lastP n2 p := by unfold lastP; omega
  have hb1 : -149 ≤ lastP n1 p := by unfold lastP; omega
  have key : (lastP n1 p + 149).toNat * 8388608 + rne n1 (lastP n1 p - p).toNat ≤ (lastP n2 p + 149).toNat * 8388608 + rne n2 (lastP n2 p - p).toNat := by
    by_cases he : lastP n1 p = lastP n2 p
    · rw [he]
      exact Nat.add_le_add_left (rne_mono h) _
    · exact step_le (by omega) kept_hi (kept_lo h02 hp (by omega))
  unfold rung
  rw [if_neg h0, if_neg h02, show (p - lastP n1 p).toNat = 0 by omega, show (p - lastP n2 p).toNat = 0 by omega, Nat.pow_zero, Nat.mul_one, Nat.mul_one]
  exact Nat.le_min.2 ⟨Nat.le_trans (Nat.min_le_left _ _) key, Nat.min_le_right _ _⟩
theorem rung_mono {n1 n2 : Nat} {p : Int} (h : n1 ≤ n2) : rung n1 p ≤ rung n2 p := by
  rw [← rung_scale n1 (p + 149).toNat p, ← rung_scale n2 (p + 149).toNat p]
  exact rung_mono_low (by omega) (Nat.mul_le_mul_right _ h)
/-- A rung's number, in units of the least one. -/
def val (r : Nat) : Nat := if r < 8388608 then r else (8388608 + r % 8388608) * 2 ^ (r / 8388608 - 1)
theorem val_rung {r : Nat} (hr : r < 2139095040) : rung (val r) (-149) = r := by
  unfold val
  by_cases h : r < 8388608
  · rw [if_pos h]
    by_cases h0 : r = 0
    · subst h0; rfl
    have hl : r.log2 < 23 := (Nat.log2_lt h0).2 (by simpa using h)
    have hL : lastP r (-149) = -149 := by unfold lastP; omega
    unfold rung
    rw [if_neg h0, hL]
    have := rne_mul r 0
    simp only [Nat.pow_zero, Nat.mul_one] at this
    simp [this]
    omega
  · rw [if_neg h]
    have hm0 : (8388608 + r % 8388608) ≠ 0 := by omega
    have hm : (8388608 + r % 8388608).log2 = 23 := (Nat.log2_eq_iff hm0).2 ⟨by simp, by simp; omega⟩
    have hne : (8388608 + r % 8388608) * 2 ^ (r / 8388608 - 1) ≠ 0 := Nat.mul_ne_zero hm0 (Nat.ne_of_gt (Nat.two_pow_pos _))
    have hL : lastP ((8388608 + r % 8388608) * 2 ^ (r / 8388608 - 1)) (-149) = -149 + ((r / 8388608 - 1 : Nat) : Int) := by
      unfold lastP
      rw [log2_mul hm0, hm]
      omega
    unfold rung
    rw [if_neg hne, hL, show (-149 - (-149 + ((r / 8388608 - 1 : Nat) : Int))).toNat = 0 by omega, show (-149 + ((r / 8388608 - 1 : Nat) : Int) - -149).toNat = r / 8388608 - 1 by omega, Nat.pow_zero, Nat.mul_one, rne_mul]
    omega
theorem sgn_f (m u : Nat) : Ieee.signed false m u = ((m * 2 ^ u : Nat) : Int) := by
  unfold Ieee.signed
  rw [Nat.shiftLeft_eq]
  rfl
theorem sgn_t (m u : Nat) : Ieee.signed true m u = -((m * 2 ^ u : Nat) : Int) := by
  unfold Ieee.signed
  rw [Nat.shiftLeft_eq]
  rfl
section
variable {a b : Nat} (ha : a < 2139095040) (hb : b < 2139095040)
include ha hb
end
end Go.VL
namespace Go.VL
open Go.RowKit
section
variable {X : Cx} {all : List Oper} {r : List En} {hist : Hist} {K : Sl → List Ob → Prop} {sl : Sl} {H : List Ob} {i : Nat} {chk : List Nat} {d : Tmp} {ty : TypeId} {ps : String} {af : Array Edge} {g : Option (Nat × Bool)}
end
theorem u8r {a : Int} (h : 0 ≤ a ∧ a ≤ 255) : IntKind.u8.min ≤ a ∧ a ≤ IntKind.u8.max := h
end Go.VL
namespace Go.VL
open Go.RowKit
theorem sub_flat_n {α : Type} {enc : α → List C} {k : Nat} (he : ∀ a, (enc a).length = k) : ∀ (xs : List α) (l n : Nat), sub (flat enc xs) (l * k) (n * k) = flat enc ((xs.drop l).take n)
  | [], l, n => by simp [sub, flat]
  | x :: xs, 0, n => by
    cases n with
    | zero => simp [sub, flat]
    | succ n =>
      have ih := sub_flat_n he xs 0 n
      simp only [Nat.zero_mul, List.drop_zero] at ih ⊢
      unfold sub at ih ⊢
      rw [List.take_succ_cons, flat_cons, flat_cons, List.drop_zero, List.take_append, List.take_of_length_le (by rw [he, Nat.add_mul]; omega), he]
      congr 1
      rw [show (n + 1) * k - k = n * k by rw [Nat.add_mul]; omega]
      simpa using ih
  | x :: xs, l + 1, n => by
    have ih := sub_flat_n he xs l n
    unfold sub at ih ⊢
    rw [List.drop_succ_cons, ← ih, flat_cons]
    congr 1
    rw [show (l + 1) * k = (enc x).length + l * k by rw [he, Nat.add_mul]; omega, ← List.drop_drop, List.drop_left]
section
variable {X : Cx} {all r : List Oper} {K : Sl → List Ob → Prop} {sl : Sl} {H : List Ob} {d : Tmp} {ty : TypeId} {ps : String} {af : Array Edge}
/-- A part of a frozen slice. -/
theorem v_slice_sl {α : Type} {enc : α → List C} {t e : TypeId} {x : Operand} {lo hi : Option Operand} {a b : Nat} {z : List Value} {o : Bool} {m k : Nat} {xs : List α} {jl jh : Int} {L : Lay} (l h : Nat) (he : ∀ a, (enc a).length = k) (hL : X.lay t = some ⟨.slice e, a, b, z⟩) (hLe : X.lay e = some L) (hk : L.size = k) (hk0 : Nat.blt 0 k = true)
    (hx : rho X.G sl x = .c (.sl o m k (flat enc xs))) (hlo : bnd (rho X.G sl) lo 0 = some jl) (hhi : bnd (rho X.G sl) hi (m : Int) = some jh) (el : jl = (l : Int)) (eh : jh = (h : Int)) (hb : l ≤ h ∧ h ≤ m) (hn : vops X all r K (upd sl d (.c (.sl o (h - l) k (flat enc ((xs.drop l).take (h - l)))))) H) :
    vops X all (⟨some d, .slice t x lo hi none, ty, ps, af, none⟩ :: r) K sl H := by
  subst el eh
  refine v_q _ rfl ?_ hn
  simp only [evq, hL, hx, hLe, hlo, hhi]
  rw [if_pos ⟨hk, Nat.le_of_ble_eq_true hk0, by omega, by omega, by omega⟩]
  simp only [Int.toNat_natCast, sub_flat_n he]
end
section
variable {X : Cx} {all r : List Oper} {K : Sl → List Ob → Prop} {sl : Sl} {H : List Ob} {d : Tmp} {ty : TypeId} {ps : String} {af : Array Edge}
end
end Go.VL
namespace Go.VL
open Go.RowKit
section
variable {X : Cx} {all r : List Oper} {K : Sl → List Ob → Prop} {sl : Sl} {H : List Ob} {d : Tmp} {ty : TypeId} {ps : String} {af : Array Edge}
end
end Go.VL
namespace Go.VL
open Go.RowKit
section
variable {X : Cx} {all r : List Oper} {K : Sl → List Ob → Prop} {sl : Sl} {H : List Ob} {d : Tmp} {ty : TypeId} {ps : String} {af : Array Edge}
end
end Go.VL
namespace Go.VL
open Go.RowKit Go.WideShapes Go.ChangeShapes Go.ChangeAt

/-- Types whose values are plain cells. -/
def okLit (lay : TypeId → Option Lay) : Nat → TypeId → Bool
  | 0, _ => false
  | f + 1, t => match lay t with
    | some ⟨.bool, a, _, _⟩ => Nat.beq a 1
    | some ⟨.int _, a, _, _⟩ => Nat.beq a 1
    | some ⟨.string, a, _, _⟩ => Nat.beq a 1
    | some ⟨.struct fs, a, _, _⟩ => (fs.all fun p => okLit lay f p.1) && tile lay 0 fs a
    | some ⟨.array n e, a, _, _⟩ => okLit lay f e && Nat.beq (n * szOf lay e) a
    | _ => false

/-- The cells that a datum is. -/
def litV {T : Type} : Nat → DataW T → List Value
  | 0, _ => []
  | _ + 1, .lit (.bool b) => [.bool b]
  | _ + 1, .lit (.int k n) => [.int k n]
  | _ + 1, .lit (.string s) => [.string ⟨s.toArray⟩]
  | f + 1, .agg ds => ds.flatMap (litV f)
  | _ + 1, _ => []

theorem litV_plain {T : Type} : ∀ (f : Nat) (d : DataW T), ∀ v ∈ litV f d, plain v = true
  | 0, d, v, h => by simp [litV] at h
  | f + 1, d, v, h => by
    unfold litV at h
    split at h
    · simp at h
    · simp at h; subst h; rfl
    · simp at h; subst h; rfl
    · simp at h; subst h; rfl
    · rename_i hf
      simp only [List.mem_flatMap] at h
      obtain ⟨e, -, he⟩ := h
      exact litV_plain _ e v (by cases hf; exact he)
    · simp at h

section
variable {T : Type} {enc : TypeId × Value → T} {X : Cx} {w : World}

theorem tile_flat {L : DataW T → List Value} {vs : List Value} {a : Nat} (hv : vs.length = a) : ∀ {fs : List (TypeId × Nat)} {xs : List (DataW T)} {off : Nat}, tile X.lay off fs a = true → xs.length = fs.length →
    (∀ (i : Nat) (p : TypeId × Nat) (x : DataW T), fs[i]? = some p → xs[i]? = some x → (vs.drop p.2).take (szOf X.lay p.1) = L x) → vs.drop off = xs.flatMap L
  | [], [], off, h, _, _ => by
    have := Nat.eq_of_beq_eq_true (show Nat.beq off a = true from h)
    subst this
    rw [List.drop_of_length_le (by omega)]; rfl
  | [], x :: xs, off, _, hl, _ => by simp at hl
  | q :: r, [], off, _, hl, _ => by simp at hl
  | q :: r, x :: xs, off, h, hl, hx => by
    simp only [tile, Bool.and_eq_true] at h
    have h0 := Nat.eq_of_beq_eq_true h.1
    have ih := tile_flat (L := L) hv h.2 (by simpa using hl) (fun i p y h1 h2 => hx (i + 1) p y (by simpa using h1) (by simpa using h2))
    have h1 := hx 0 q x rfl rfl
    rw [h0] at h1
    rw [List.flatMap_cons, ← h1, ← ih, ← List.drop_drop, List.take_append_drop]

theorem lit_trod : ∀ (f g : Nat) (t : TypeId) (vs : List Value) (x : DataW T × List MemPlace) {b : Nat} {sp : Nat → Bool} {hd : Bool}, okLit X.lay f t = true → DataW.trod enc X.P w b sp hd g t vs = some x → vs = litV f x.1 ∧ vs.length = szOf X.lay t := by
  intro f
  induction f with
  | zero => intro g t vs x b sp hd hok h; cases hok
  | succ f ih =>
    intro g t vs x b sp hd hok h
    have cellsOf : ∀ {t : TypeId} {L : Lay}, X.lay t = some L → X.P.cellsOf t = szOf X.lay t := fun {t L} h => by
      obtain ⟨-, -, i, z, h1, h2, -⟩ := X.ok t L h
      simp [Program.cellsOf, h1, h2, szOf, h]
    have some_lay : ∀ {e : TypeId}, okLit X.lay f e = true → ∃ Le, X.lay e = some Le := fun {e} h => by
      cases f with
      | zero => cases h
      | succ f =>
        unfold okLit at h
        cases he : X.lay e with
        | none => rw [he] at h; cases h
        | some Le => exact ⟨Le, rfl⟩
    unfold okLit at hok
    cases hL : X.lay t with
    | none => rw [hL] at hok; cases hok
    | some L =>
      rw [hL] at hok
      have hk := (X.ok t L hL).kind
      have hsz : szOf X.lay t = L.size := by unfold szOf; rw [hL]
      obtain ⟨kind, a, bb, z⟩ := L
      have hco := cellsOf hL
      simp only at hsz
      cases kind with
      | bool =>
        obtain ⟨b', rfl, rfl⟩ := DataW.trod_bool (show X.P.underlying t = some .bool from hk) h
        exact ⟨rfl, by rw [hsz, Nat.eq_of_beq_eq_true hok]; rfl⟩
      | string =>
        obtain ⟨s, rfl, rfl, -⟩ := DataW.trod_string (show X.P.underlying t = some .string from hk) h
        exact ⟨rfl, by rw [hsz, Nat.eq_of_beq_eq_true hok]; rfl⟩
      | int k =>
        obtain ⟨n, rfl, rfl, -⟩ := DataW.trod_int (show X.P.underlying t = some (.int k) from hk) h
        exact ⟨rfl, by rw [hsz, Nat.eq_of_beq_eq_true hok]; rfl⟩
      | array n e =>
        simp only [Bool.and_eq_true] at hok
        obtain ⟨hok, hb⟩ := hok
        have hb' := Nat.eq_of_beq_eq_true hb
        obtain ⟨xs, g', -, rfl, hvl, hxl, hget⟩ := DataW.trod_array (show X.P.underlying t = some (.array n e) from hk) h
        obtain ⟨Le, hLe⟩ := some_lay hok
        have hc := cellsOf hLe
        have ht := tile_range (lay := X.lay) (e := e) n 0
        rw [Nat.zero_mul, Nat.zero_add, hb'] at ht
        rw [hco, hsz] at hvl
        have := tile_flat (X := X) (L := litV f) (xs := xs.map (·.1)) hvl ht (by simp [hxl]) (fun i p y h1 h2 => by
          rw [List.getElem?_map, Option.map_eq_some_iff] at h1 h2
          obtain ⟨j, h1, rfl⟩ := h1
          obtain ⟨y', h2, rfl⟩ := h2
          have hi : i < n := by have := (List.getElem?_eq_some_iff.1 h2).1; omega
          rw [List.getElem?_range' hi] at h1
          have := Option.some.inj h1
          subst this
          have h3 := hget i hi
          rw [h2, hc] at h3
          simpa using (ih _ _ _ _ hok h3).1)
        exact ⟨by simpa [litV] using this, by rw [hvl, hsz]⟩
      | struct fs =>
        obtain ⟨fields, hu, hfs, -⟩ := hk
        obtain ⟨xs, g', -, rfl, hvl, hxl, hget⟩ := DataW.trod_struct hu h
        rw [hco, hsz] at hvl
        simp only [Bool.and_eq_true] at hok
        obtain ⟨hok, htile⟩ := hok
        have := tile_flat (X := X) (L := litV f) (xs := xs.map (·.1)) hvl htile (by simp [hxl, ← hfs]) (fun i p y h1 h2 => by
          have hmem := List.all_eq_true.1 hok p (List.mem_of_getElem? h1)
          rw [← hfs, List.getElem?_map, Option.map_eq_some_iff] at h1
          obtain ⟨fd, h1, h4⟩ := h1
          rw [List.getElem?_map, Option.map_eq_some_iff] at h2
          obtain ⟨y', h2, rfl⟩ := h2
          have h3 := hget i fd (by simpa using h1)
          obtain ⟨Le, hLe⟩ := some_lay hmem
          have e1 : fd.type = p.1 := by rw [← h4]
          have e2 : fd.offset = p.2 := by rw [← h4]
          rw [h2, e1, e2, cellsOf hLe] at h3
          exact (ih _ _ _ _ hmem h3).1)
        exact ⟨by simpa [litV] using this, by rw [hvl, hsz]⟩
      | _ => first
        | (simp at hok; done)
        | (cases hok; done)

/-- What a listed variable holds. -/
theorem laid_cells {n : String} {d : DataW Unit} : ∀ {l : List (String × DataW Unit)} {ps : List MemPlace}, DataW.LaidVars X.P w l ps → (n, d) ∈ l → ∀ {g : Nat} {t : TypeId} {f : Nat}, X.P.globalNamed n = some g → (X.P.globals[g]?).map (·.type) = some t → okLit X.lay f t = true →
    ∀ (j : Nat) (x : Value), (litV f d)[j]? = some x → w.cell? ⟨g, j, none⟩ = some x ∧ plain x = true
  | [], ps, _, hm, g, t, f, _, _, _ => by cases hm
  | (n', d') :: r, ps, h, hm, g, t, f, hg, ht, hok => by
    obtain ⟨g0, t0, cs, fuel, p, q, h1, h2, h3, h4, h5, -⟩ := h
    rcases List.mem_cons.1 hm with he | hm
    · cases he
      obtain rfl := Option.some.inj (hg.symm.trans h1)
      obtain rfl := Option.some.inj (ht.symm.trans h2)
      obtain ⟨k1, -⟩ := lit_trod f _ _ _ _ hok h4
      intro j x hj
      refine ⟨?_, litV_plain f d x (List.mem_of_getElem? hj)⟩
      rw [World.var?_cell hg h3 j]
      simp only at k1
      rw [← k1] at hj
      simpa using hj
    · exact laid_cells h5 hm hg ht hok

/-- A law that answers 'true' for all data of its types, where some variables hold what the program has laid, answers 'true', and turns nothing that was there. -/
theorem law_calls_g {g : FuncId} {ts : List TypeId} (hen : Enters X g) {f : Nat} (hok : (ts.all fun t => okT X.lay f t) = true) (law : ∀ xs : List V, xs.length = ts.length → (∀ (j : Nat) (t : TypeId) (x : V), ts[j]? = some t → xs[j]? = some x → VTy X.lay t x) → PureC X g xs (.c (.v (.bool true))))
    {W : World} (hG : ∀ q ∈ X.G, q.2 ≠ [] ∧ (∀ (j : Nat) (x : Value), q.2[j]? = some x → W.cell? ⟨q.1, j, none⟩ = some x ∧ plain x = true) ∧ GlAt W q)
    {base : Nat} {args : Array Value} {ds : List (DataW T)} {p : List MemPlace} (hval : ∀ (j : Nat) t v, ts[j]? = some t → args[j]? = some v → Value.okWide X.P W .any base t v) (hA : DataW.TrodAll enc X.P W 0 (fun _ => true) true ts args.toList ds p) :
    Calls X.P g args W fun e W' => e = .returned (.bool true) ∧ Below W.heap.size W W' := by
  obtain ⟨xs, l1, l0, l2, l3⟩ := open_args (X := X) (m := ⟨W, fun b => b < W.heap.size, W.heap.size, 0, fun _ => ⟨0, 0, 0, true⟩⟩) (fun b hb => hb) (base := base) (f := f) (fun t ht => List.all_eq_true.1 hok t ht) (fun j t v h1 h2 => hval j t v h1 (by simpa using h2)) hA
  have hp := law xs l1 l2
  have hq := hp W (fun b => b < W.heap.size) (fun _ => ⟨0, 0, 0, true⟩) args ⟨rfl, fun b hb => hb, Nat.le_refl _, fun id hid => absurd hid (Nat.not_lt_zero _), fun id o ho => by simp at ho, fun id o ho => by simp at ho, fun i j oi oj hi => by simp at hi, fun x hx => by
      obtain ⟨k1, k2⟩ := hG x hx
      refine ⟨?_, k2⟩
      obtain ⟨y, hy⟩ := List.exists_mem_of_ne_nil _ k1
      obtain ⟨i, hi⟩ := List.getElem?_of_mem hy
      exact (cell?_spot (k2.1 i y hi).1).2⟩
    ⟨by rw [l1, ← l0]; simp, fun j x hj => let ⟨u, k1, k2⟩ := l3 j x hj; ⟨u, by simpa using k1, k2⟩⟩
  rcases hq with ⟨u, w', h1, -⟩ | ⟨-, h2⟩
  · rw [hen] at h1; cases h1
  · exact h2.mono fun e W' ⟨u, he, hb, hr⟩ => ⟨by rw [he, hr.val], hb⟩
end
end Go.VL
namespace Go.VL
open Go.RowKit
section
variable {X : Cx} {all r : List Oper} {K : Sl → List Ob → Prop} {sl : Sl} {H : List Ob} {d : Tmp} {ty : TypeId} {ps : String} {af : Array Edge}
/-- An element of a frozen array. -/
theorem v_idx_av {t e : TypeId} {x i : Operand} {a b : Nat} {z : List Value} {o : Bool} {cs : List C} {m k : Nat} {kk : IntKind} {j : Int} {L : Lay} (hL : X.lay t = some ⟨.array m e, a, b, z⟩) (hLe : X.lay e = some L) (hk : L.size = k)
    (hx : rho X.G sl x = .c (.vw o cs 0)) (hi : rho X.G sl i = .c (.v (.int kk j))) (hj : 0 ≤ j ∧ j < m) (h : ∀ (q : Nat), q < m → j = (q : Int) → vops X all r K (upd sl d (.c (.vw o cs (q * k)))) H) :
    vops X all (⟨some d, .indexAddr t x i, ty, ps, af, none⟩ :: r) K sl H := by
  obtain ⟨q, rfl⟩ := Int.eq_ofNat_of_zero_le hj.1
  refine v_q _ rfl ?_ (h q (by omega) rfl)
  simp only [evq, hL, hx, hi, hLe]
  rw [if_pos ⟨hj.1, hj.2⟩, Int.toNat_natCast, hk, Nat.zero_add]
/-- .. loaded. -/
theorem v_load_av {α : Type} {enc : α → List C} {t : TypeId} {x : Operand} {L : Lay} {o : Bool} {cs : List C} {q k : Nat} (ys : List α) (v : V) (he : ∀ a, (enc a).length = k) (hL : X.lay t = some L) (hk : L.size = k) (hx : rho X.G sl x = .c (.vw o cs (q * k))) (hc : cs = flat enc ys) (hq : q < ys.length)
    (hv : mkV L.kind.agg (reowns o (enc ys[q])) = some v) (h : vops X all r K (upd sl d v) H) : vops X all (⟨some d, .load t x, ty, ps, af, none⟩ :: r) K sl H := by
  subst hc hk
  have hb : q * L.size + L.size ≤ (flat enc ys).length := by
    rw [flat_length he]
    have : (q + 1) * L.size ≤ ys.length * L.size := Nat.mul_le_mul_right _ hq
    rw [Nat.add_mul] at this
    omega
  refine v_q v rfl ?_ h
  simp only [evq, hL, hx]
  rw [if_pos hb, sub_flat he hq]
  exact hv
end
end Go.VL
namespace Go.VL
open Go.RowKit
section
variable {X : Cx} {all r : List Oper} {K : Sl → List Ob → Prop} {sl : Sl} {H : List Ob} {d : Tmp} {ty : TypeId} {ps : String} {af : Array Edge}
theorem v_index {t e : TypeId} {x i : Operand} {n a b : Nat} {z : List Value} {cs : List C} {kk : IntKind} {j : Int} {L : Lay} (v : V) (hL : X.lay t = some ⟨.array n e, a, b, z⟩) (hLe : X.lay e = some L) (hx : rho X.G sl x = .agg cs) (hi : rho X.G sl i = .c (.v (.int kk j)))
    (hj : 0 ≤ j ∧ j < n ∧ j.toNat * L.size + L.size ≤ cs.length) (hv : mkV L.kind.agg (sub cs (j.toNat * L.size) L.size) = some v) (h : vops X all r K (upd sl d v) H) :
    vops X all (⟨some d, .index t x i, ty, ps, af, none⟩ :: r) K sl H :=
  v_q v rfl (by simp only [evq, hL, hx, hi, hLe]; rw [if_pos hj]; exact hv) h
/-- A bool, loaded. -/
theorem v_load_vwb {t : TypeId} {x : Operand} {L : Lay} {o : Bool} {cs : List C} {off : Nat} {q : Bool} (hL : X.lay t = some L) (hx : rho X.G sl x = .c (.vw o cs off)) (hl : Nat.ble (off + L.size) cs.length = true) (hv : mkV L.kind.agg (reowns o (sub cs off L.size)) = some (.c (.v (.bool q))))
    (h1 : q = true → vops X all r K (upd sl d (.c (.v (.bool true)))) H) (h2 : q = false → vops X all r K (upd sl d (.c (.v (.bool false)))) H) : vops X all (⟨some d, .load t x, ty, ps, af, none⟩ :: r) K sl H := by
  cases q with
  | true => exact v_load_vw _ hL hx hl hv (h1 rfl)
  | false => exact v_load_vw _ hL hx hl hv (h2 rfl)
theorem v_load_ptb {t : TypeId} {x : Operand} {L : Lay} {id off : Nat} {cs : List C} {tt : TypeId} {q : Bool} (hL : X.lay t = some L) (hx : rho X.G sl x = .c (.pt id off)) (ho : H[id]? = some ⟨cs, tt, true⟩) (hl : Nat.ble (off + L.size) cs.length = true) (hv : mkV L.kind.agg (sub cs off L.size) = some (.c (.v (.bool q))))
    (h1 : q = true → vops X all r K (upd sl d (.c (.v (.bool true)))) H) (h2 : q = false → vops X all r K (upd sl d (.c (.v (.bool false)))) H) : vops X all (⟨some d, .load t x, ty, ps, af, none⟩ :: r) K sl H := by
  cases q with
  | true => exact v_load_pt _ hL hx ho hl hv (h1 rfl)
  | false => exact v_load_pt _ hL hx ho hl hv (h2 rfl)
end
end Go.VL
namespace Go.VL
open Go.RowKit
section
variable {X : Cx} {all r : List Oper} {K : Sl → List Ob → Prop} {sl : Sl} {H : List Ob} {d : Tmp} {ty : TypeId} {ps : String} {af : Array Edge}
/-- A call, walked into. -/
theorem v_inl {D : DR} {f : Operand} {args : Array Operand} {tys : Array TypeId} {g : FuncId} {fn : Func} {c : Code} {caps : List C} {ags : List V} {n : Nat} (hD : DrawOk X D) (hen : Enters X g) (hfn : X.P.funcs[g]? = some fn) (hb : fn.body = some c)
    (hf : rho X.G sl f = .c (.fn g caps)) (has : args.toList.map (rho X.G sl) ++ caps.map .c = ags) (hn : ags.length + (fn.ntmps - ags.length) = n)
    (h : vwp X n H.length D c (retQ X fn.results.toList fun res H' => vops X all r K (upd sl d res) H') (slots ags) H) : vops X all (⟨some d, .call ⟨.value f, args, tys⟩, ty, ps, af, none⟩ :: r) K sl H := by
  subst has
  simp only [vops, vguard, vop, callOf, hf, target, putV]
  exact CallC.of_body hD hen hfn hb hn h
/-- An element of a frozen slice, by a known number. -/
theorem v_idx_n {α : Type} {enc : α → List C} {t e : TypeId} {x i : Operand} {a b : Nat} {z : List Value} {o : Bool} {m k : Nat} {xs : List α} {kk : IntKind} (j : Nat) {L : Lay} (he : ∀ a, (enc a).length = k) (hL : X.lay t = some ⟨.slice e, a, b, z⟩) (hLe : X.lay e = some L) (hk : L.size = k) (hk0 : Nat.blt 0 k = true)
    (hx : rho X.G sl x = .c (.sl o m k (flat enc xs))) (hm : m = xs.length) (hi : rho X.G sl i = .c (.v (.int kk (j : Int)))) (hj : j < xs.length) (h : vops X all r K (upd sl d (.c (.vw o (enc xs[j]) 0))) H) :
    vops X all (⟨some d, .indexAddr t x i, ty, ps, af, none⟩ :: r) K sl H := by
  subst hm
  refine v_q _ rfl ?_ h
  simp only [evq, hL, hx, hi, hLe]
  rw [if_pos ⟨hk, Nat.le_of_ble_eq_true hk0, by omega, by omega⟩, Int.toNat_natCast, sub_flat he hj]
/-- .. of a live one. -/
theorem v_idx_mu_n {t e : TypeId} {x i : Operand} {a b : Nat} {z : List Value} {id off m k : Nat} {kk : IntKind} (j : Nat) {L : Lay} (hL : X.lay t = some ⟨.slice e, a, b, z⟩) (hLe : X.lay e = some L) (hk : L.size = k)
    (hx : rho X.G sl x = .c (.mu id off m k)) (hi : rho X.G sl i = .c (.v (.int kk (j : Int)))) (hj : j < m) (h : vops X all r K (upd sl d (.c (.pt id (off + j * k)))) H) :
    vops X all (⟨some d, .indexAddr t x i, ty, ps, af, none⟩ :: r) K sl H := by
  refine v_q _ rfl ?_ h
  simp only [evq, hL, hx, hi, hLe]
  rw [if_pos ⟨hk, by omega, by omega⟩, Int.toNat_natCast]
end
end Go.VL
namespace Go.VL
open Go.RowKit
section
variable {X : Cx} {all r : List Oper} {K : Sl → List Ob → Prop} {sl : Sl} {H : List Ob} {d : Tmp} {ty : TypeId} {ps : String} {af : Array Edge}
/-- An element of a live slice, by a number that is told. -/
theorem v_idx_mu_e {t e : TypeId} {x i : Operand} {a b : Nat} {z : List Value} {id off m k : Nat} {kk : IntKind} (j : Nat) {y : Int} {L : Lay} (hL : X.lay t = some ⟨.slice e, a, b, z⟩) (hLe : X.lay e = some L) (hk : L.size = k)
    (hx : rho X.G sl x = .c (.mu id off m k)) (hi : rho X.G sl i = .c (.v (.int kk y))) (ey : y = (j : Int)) (hj : j < m) (h : vops X all r K (upd sl d (.c (.pt id (off + j * k)))) H) :
    vops X all (⟨some d, .indexAddr t x i, ty, ps, af, none⟩ :: r) K sl H := v_idx_mu_n j hL hLe hk hx (by rw [hi, ey]) hj h
/-- .. of a frozen one. -/
theorem v_idx_e {α : Type} {enc : α → List C} {t e : TypeId} {x i : Operand} {a b : Nat} {z : List Value} {o : Bool} {m k : Nat} {xs : List α} {kk : IntKind} (j : Nat) {y : Int} {L : Lay} (he : ∀ a, (enc a).length = k) (hL : X.lay t = some ⟨.slice e, a, b, z⟩) (hLe : X.lay e = some L) (hk : L.size = k) (hk0 : Nat.blt 0 k = true)
    (hx : rho X.G sl x = .c (.sl o m k (flat enc xs))) (hm : m = xs.length) (hi : rho X.G sl i = .c (.v (.int kk y))) (ey : y = (j : Int)) (hj : j < xs.length) (h : vops X all r K (upd sl d (.c (.vw o (enc xs[j]) 0))) H) :
    vops X all (⟨some d, .indexAddr t x i, ty, ps, af, none⟩ :: r) K sl H := v_idx_n j he hL hLe hk hk0 hx hm (by rw [hi, ey]) hj h
/-- A part of a live slice. -/
theorem v_slice_mu {t e : TypeId} {x : Operand} {lo hi : Option Operand} {a b : Nat} {z : List Value} {id m k : Nat} {jl jh : Int} {L : Lay} (l h : Nat) (hL : X.lay t = some ⟨.slice e, a, b, z⟩) (hLe : X.lay e = some L) (hk : L.size = k)
    (hx : rho X.G sl x = .c (.mu id 0 m k)) (hlo : bnd (rho X.G sl) lo 0 = some jl) (hhi : bnd (rho X.G sl) hi (m : Int) = some jh) (el : jl = (l : Int)) (eh : jh = (h : Int)) (hb : l ≤ h ∧ h ≤ m) (h0 : l = 0 ∨ l < m) (hn : vops X all r K (upd sl d (.c (.mu id (l * k) (h - l) k))) H) :
    vops X all (⟨some d, .slice t x lo hi none, ty, ps, af, none⟩ :: r) K sl H := by
  subst el eh
  refine v_q _ rfl ?_ hn
  simp only [evq, hL, hx, hLe, hlo, hhi]
  rw [if_pos ⟨hk, by omega, by omega, by omega, by omega⟩]
  simp only [Int.toNat_natCast, Nat.zero_add]
end
end Go.VL
namespace Go.VL
open Go.RowKit
section
variable {X : Cx} {sl : Sl} {H : List Ob}
end
section
variable {X : Cx} {all r : List Oper} {K : Sl → List Ob → Prop} {sl : Sl} {H : List Ob} {d : Tmp} {ty : TypeId} {ps : String} {af : Array Edge}
theorem v_min {x y : Operand} {tys : Array TypeId} {k k' : IntKind} {a b : Int} (hx : rho X.G sl x = .c (.v (.int k a))) (hy : rho X.G sl y = .c (.v (.int k' b))) (h : vops X all r K (upd sl d (.c (.v (.int k (if b < a then b else a))))) H) :
    vops X all (⟨some d, .call ⟨.builtin .min, #[x, y], tys⟩, ty, ps, af, none⟩ :: r) K sl H :=
  v_q _ rfl (by simp only [evq, hx, hy]) h
end
section
variable {X : Cx} {all : List Oper} {r : List En} {hist : Hist} {K : Sl → List Ob → Prop} {sl : Sl} {H : List Ob} {i : Nat} {chk : List Nat} {d : Tmp} {ty : TypeId} {ps : String} {af : Array Edge} {g : Option (Nat × Bool)}
end
end Go.VL
namespace Go.VL
open Go.RowKit
section
variable {X : Cx} {all : List Oper} {r : List En} {hist : Hist} {K : Sl → List Ob → Prop} {sl : Sl} {H : List Ob} {i : Nat} {chk : List Nat} {d : Tmp} {ty : TypeId} {ps : String} {af : Array Edge} {g : Option (Nat × Bool)} {op : Op}
end
end Go.VL
namespace Go.VL
open Go.RowKit
section
variable {X : Cx} {all r : List Oper} {K : Sl → List Ob → Prop} {sl : Sl} {H : List Ob} {d : Tmp} {ty : TypeId} {ps : String} {af : Array Edge}
end
end Go.VL
namespace Go.VL
open Go.RowKit
section
variable {X : Cx} {all r : List Oper} {K : Sl → List Ob → Prop} {sl : Sl} {H : List Ob} {d : Tmp} {ty : TypeId} {ps : String} {af : Array Edge}
end
end Go.VL
namespace Go.VL
open Go.RowKit
/-- A call on data alone: what it answers is one of P; it writes nothing that was there. -/
def PureE (X : Cx) (g : FuncId) (args : List V) (P : V → Prop) : Prop :=
  ∀ (w : World) (F : Nat → Prop) (μ : Nat → Pl) (arr : Array Value), Sim X.G ⟨w, F, w.heap.size, 0, μ⟩ [] → RVs ⟨w, F, w.heap.size, 0, μ⟩ args arr →
    Goes X g arr w fun u w' => Below w.heap.size w w' ∧ ∃ r, P r ∧ RV ⟨w', fun b => F b ∨ (w.heap.size ≤ b ∧ b < w'.heap.size), w.heap.size, 0, μ⟩ r u
theorem PureE.of_call {X : Cx} {g : FuncId} {args : List V} {P : V → Prop} (h : CallC X g args [] (fun r0 H => ∃ r, P r ∧ TrV H [] r0 r)) : PureE X g args P := by
  intro w F μ arr hS hr
  refine (h _ arr hS hr).mono fun u w' ⟨m', r0, H', hmw, ⟨r, hP, hfz⟩, hS', hE, hrv⟩ => ?_
  subst hmw
  refine ⟨⟨hE.os, hE.tape, hE.output, hE.size, fun k hk => hE.keep k (.inr hk)⟩, r, hP, ?_⟩
  have h1 := hrv.turn hS' hfz
  have hB : m'.B = w.heap.size := hE.B
  refine RV.mono1 (m := turned m' H' []) (m' := ⟨m'.w, fun b => F b ∨ (w.heap.size ≤ b ∧ b < m'.w.heap.size), w.heap.size, 0, μ⟩) rfl rfl hB (fun b hb => ?_) (fun i hi => absurd hi (Nat.not_lt_zero _)) h1
  rcases hb with hb | ⟨id, o, ho, hl, hg, -, rfl⟩
  · rcases hE.Fn b hb with h2 | h2
    · exact .inl h2
    · exact .inr ⟨h2, hS'.lo b hb⟩
  · obtain ⟨-, -, -, -, -, -, hBb⟩ := hS'.ob id o ho hl hg
    exact .inr ⟨by rw [← hB]; exact hBb, hS'.blk id (Mem.N_lt hS' ho) hg⟩
theorem PureE.of_body {X : Cx} {D : DR} (hD : DrawOk X D) {g : FuncId} {fn : Func} {c : Code} (hen : Enters X g) (hf : X.P.funcs[g]? = some fn) (hb : fn.body = some c) {args : List V} {P : V → Prop} {n : Nat} (hn : args.length + (fn.ntmps - args.length) = n)
    (h : vwp X n 0 D c (retQ X fn.results.toList (fun r0 H => ∃ r, P r ∧ TrV H [] r0 r)) (slots args) []) : PureE X g args P :=
  .of_call (.of_body hD hen hf hb hn h)
theorem PureE.mono {X : Cx} {g : FuncId} {args : List V} {P P' : V → Prop} (h : PureE X g args P) (hp : ∀ r, P r → P' r) : PureE X g args P' := fun w F μ arr hS hr =>
  (h w F μ arr hS hr).mono fun _u _w' ⟨hb, r, h1, h2⟩ => ⟨hb, r, hp r h1, h2⟩
/-- A call whose answer, and what it leaves, is told. -/
def DetC (X : Cx) (g : FuncId) (args : List V) (H : List Ob) (v : V) (H' : List Ob) : Prop := CallC X g args H fun v' H'' => v' = v ∧ H'' = H'
section
variable {X : Cx} {all : List Oper} {r : List Oper} {K : Sl → List Ob → Prop} {sl : Sl} {H : List Ob} {d : Tmp} {ty : TypeId} {ps : String} {af : Array Edge}
end
section
variable {X : Cx} {all : List Oper} {r : List En} {hist : Hist} {K : Sl → List Ob → Prop} {sl : Sl} {H : List Ob} {d : Tmp} {ty : TypeId} {ps : String} {af : Array Edge} {g : Option (Nat × Bool)} {i : Nat} {chk : List Nat}
end
end Go.VL
namespace Go.VL
open Go.RowKit
/-- The caller's cell, and what the called function sees: its objects are the caller's 'ids'; the other ones are frozen. -/
inductive Gv (H : List Ob) (ids : List Nat) : C → C → Prop
  | pt {i j off : Nat} (h : ids[i]? = some j) : Gv H ids (.pt j off) (.pt i off)
  | mu {i j off n k : Nat} (h : ids[i]? = some j) : Gv H ids (.mu j off n k) (.mu i off n k)
  | dn {c c' : C} (h : Dn false H (fun id => id ∉ ids) c c') (ho : c'.own = false) : Gv H ids c c'
inductive GvL (H : List Ob) (ids : List Nat) : List C → List C → Prop
  | nil : GvL H ids [] []
  | cons {c c' : C} {cs cs' : List C} (h : Gv H ids c c') (hs : GvL H ids cs cs') : GvL H ids (c :: cs) (c' :: cs')
  | sc {cs : List C} (h : ∀ c ∈ cs, sc c = true) : GvL H ids cs cs
inductive GvV (H : List Ob) (ids : List Nat) : V → V → Prop
  | c {x y : C} (h : Gv H ids x y) : GvV H ids (.c x) (.c y)
  | agg {cs cs' : List C} (h : GvL H ids cs cs') : GvV H ids (.agg cs) (.agg cs')
  | any {v : V} : GvV H ids v .any
inductive GvVs (H : List Ob) (ids : List Nat) : List V → List V → Prop
  | nil : GvVs H ids [] []
  | cons {v v' : V} {vs vs' : List V} (h : GvV H ids v v') (hs : GvVs H ids vs vs') : GvVs H ids (v :: vs) (v' :: vs')
theorem own_sc {c : C} (h : sc c = true) : c.own = false := by cases c <;> first | rfl | cases h
theorem GvL.spec {H : List Ob} {ids : List Nat} {cs cs' : List C} (h : GvL H ids cs cs') : cs'.length = cs.length ∧ ∀ (j : Nat) (c c' : C), cs[j]? = some c → cs'[j]? = some c' → Gv H ids c c' := by
  induction h with
  | nil => exact ⟨rfl, fun j c c' h => by simp at h⟩
  | cons h hs ih =>
    refine ⟨by simp [ih.1], fun j x x' hj hj' => ?_⟩
    cases j with
    | zero => simp at hj hj'; subst hj hj'; exact h
    | succ j => exact ih.2 j x x' (by simpa using hj) (by simpa using hj')
  | sc h => exact ⟨rfl, same_of fun c hc => .dn (.sc (h c hc)) (own_sc (h c hc))⟩
theorem GvVs.spec {H : List Ob} {ids : List Nat} {vs vs' : List V} (h : GvVs H ids vs vs') : vs'.length = vs.length ∧ ∀ (j : Nat) (v v' : V), vs[j]? = some v → vs'[j]? = some v' → GvV H ids v v' := by
  induction h with
  | nil => exact ⟨rfl, fun j c c' h => by simp at h⟩
  | cons h hs ih =>
    refine ⟨by simp [ih.1], fun j x x' hj hj' => ?_⟩
    cases j with
    | zero => simp at hj hj'; subst hj hj'; exact h
    | succ j => exact ih.2 j x x' (by simpa using hj) (by simpa using hj')
/-- The caller's number of an object. -/
def rnI (ids : List Nat) (N i : Nat) : Nat := match ids[i]? with
  | some j => j
  | none => N + (i - ids.length)
def rnC (ids : List Nat) (N : Nat) : C → C
  | .mu id off n k => .mu (rnI ids N id) off n k
  | .pt id off => .pt (rnI ids N id) off
  | c => c
def rnO (ids : List Nat) (N : Nat) (o : Ob) : Ob := ⟨o.cs.map (rnC ids N), o.t, o.live⟩
section
variable {m m' : Mem} {ids : List Nat} {N : Nat} (hμ : ∀ i, i < m.N → m'.μ (rnI ids N i) = m.μ i ∧ rnI ids N i < m'.N)
include hμ
end

/-- The objects, one by one; the dead ones are free. -/
def TurnP (H : List Ob) (g : List (Option Nat)) : List (Option Nat) → List Ob → Prop
  | [], [] => True
  | none :: gs, o :: os => (o.live = true → o.cs = []) ∧ TurnP H g gs os
  | some id :: gs, o' :: os => (o'.live = true → ∃ cs, H[id]? = some ⟨cs, o'.t, true⟩ ∧ TrC H g cs o'.cs) ∧ TurnP H g gs os
  | _, _ => False
theorem TurnP.spec {H : List Ob} {g : List (Option Nat)} : ∀ {gs : List (Option Nat)} {os : List Ob}, TurnP H g gs os → gs.length = os.length ∧
    (∀ (i id : Nat) (o' : Ob), os[i]? = some o' → o'.live = true → gs[i]? = some (some id) → ∃ cs, H[id]? = some ⟨cs, o'.t, true⟩ ∧ TrC H g cs o'.cs) ∧ (∀ (i : Nat) (o' : Ob), os[i]? = some o' → o'.live = true → gs[i]? = some none → o'.cs = [])
  | [], [], _ => ⟨rfl, fun i id o h => by simp at h, fun i o h => by simp at h⟩
  | none :: gs, o :: os, h => by
    obtain ⟨h1, h2, h3⟩ := h.2.spec
    refine ⟨by simp [h1], fun i id o' ho hl hg => ?_, fun i o' ho hl hg => ?_⟩
    · cases i with
      | zero => simp at hg
      | succ i => exact h2 i id o' (by simpa using ho) hl (by simpa using hg)
    · cases i with
      | zero => simp at ho; subst ho; exact h.1 hl
      | succ i => exact h3 i o' (by simpa using ho) hl (by simpa using hg)
  | some id0 :: gs, o :: os, h => by
    obtain ⟨h1, h2, h3⟩ := h.2.spec
    refine ⟨by simp [h1], fun i id o' ho hl hg => ?_, fun i o' ho hl hg => ?_⟩
    · cases i with
      | zero => simp at ho hg; subst ho hg; exact h.1 hl
      | succ i => exact h2 i id o' (by simpa using ho) hl (by simpa using hg)
    · cases i with
      | zero => simp at hg
      | succ i => exact h3 i o' (by simpa using ho) hl (by simpa using hg)
def GAns (N : Nat) (P : V → List Ob → Prop) (r0 : V) (H : List Ob) : Prop := ∃ gg H1 r1, Turns N H gg H1 ∧ TrV H gg r0 r1 ∧ P r1 H1
theorem GraphC.of_body {X : Cx} {D : DR} (hD : DrawOk X D) {g : FuncId} {fn : Func} {c : Code} (hen : Enters X g) (hf : X.P.funcs[g]? = some fn) (hb : fn.body = some c) {args : List V} {H0 : List Ob} {P : V → List Ob → Prop} {n N : Nat} (hn : args.length + (fn.ntmps - args.length) = n) (hN : H0.length = N)
    (h : vwp X n N D c (retQ X fn.results.toList (GAns N P)) (slots args) H0) : CallC X g args H0 P :=
  CallC.turned hN (CallC.of_body hD hen hf hb hn (by rw [hN]; exact h))
theorem DetC.of_body {X : Cx} {D : DR} (hD : DrawOk X D) {g : FuncId} {fn : Func} {c : Code} (hen : Enters X g) (hf : X.P.funcs[g]? = some fn) (hb : fn.body = some c) {args : List V} {H H' : List Ob} {v : V} {n : Nat} (hn : args.length + (fn.ntmps - args.length) = n)
    (h : vwp X n H.length D c (retQ X fn.results.toList fun v' H'' => v' = v ∧ H'' = H') (slots args) H) : DetC X g args H v H' := CallC.of_body hD hen hf hb hn h
/-- The caller's objects, one by one, as the called function sees them. -/
def Gob (H : List Ob) (ids : List Nat) : List Nat → List Ob → Prop
  | [], [] => True
  | j :: js, o :: os => (∃ cs, H[j]? = some ⟨cs, o.t, true⟩ ∧ o.live = true ∧ GvL H ids cs o.cs) ∧ Gob H ids js os
  | _, _ => False
theorem Gob.spec {H : List Ob} {ids : List Nat} : ∀ {js : List Nat} {os : List Ob}, Gob H ids js os → js.length = os.length ∧ ∀ (i j : Nat) (o0 : Ob), js[i]? = some j → os[i]? = some o0 → ∃ o, H[j]? = some o ∧ o.live = true ∧ o0.live = true ∧ o.t = o0.t ∧ GvL H ids o.cs o0.cs
  | [], [], _ => ⟨rfl, fun i j o h => by simp at h⟩
  | j :: js, o :: os, h => by
    obtain ⟨h1, h2⟩ := h.2.spec
    refine ⟨by simp [h1], fun i j' o0 hi ho => ?_⟩
    cases i with
    | zero =>
      simp at hi ho
      subst hi ho
      obtain ⟨cs, k1, k2, k3⟩ := h.1
      exact ⟨_, k1, rfl, k2, rfl, k3⟩
    | succ i => exact h2 i j' o0 (by simpa using hi) (by simpa using ho)
/-- The objects that a call leaves, by the caller's numbers. -/
def RnO (ids : List Nat) (N : Nat) : List Ob → List Ob → Prop
  | [], [] => True
  | o :: os, o' :: os' => rnO ids N o = o' ∧ RnO ids N os os'
  | _, _ => False
theorem RnO.eq {ids : List Nat} {N : Nat} : ∀ {os os' : List Ob}, RnO ids N os os' → os.map (rnO ids N) = os'
  | [], [], _ => rfl
  | o :: os, o' :: os', h => by rw [List.map_cons, h.1, RnO.eq h.2]
section
variable {X : Cx} {all r : List Oper} {K : Sl → List Ob → Prop} {sl : Sl} {H : List Ob} {d : Tmp} {ty : TypeId} {ps : String} {af : Array Edge}
end
end Go.VL
namespace Go.VL
open Go.RowKit
end Go.VL
namespace Go.VL
open Go.RowKit
section
variable {X : Cx} {all r : List Oper} {K : Sl → List Ob → Prop} {sl : Sl} {H : List Ob} {d : Tmp} {ty : TypeId} {ps : String} {af : Array Edge}
theorem v_idx_arr_e {t e : TypeId} {x i : Operand} {a b : Nat} {z : List Value} {id off m k : Nat} {kk : IntKind} (j : Nat) {y : Int} {L : Lay} (hL : X.lay t = some ⟨.array m e, a, b, z⟩) (hLe : X.lay e = some L) (hk : L.size = k)
    (hx : rho X.G sl x = .c (.pt id off)) (hi : rho X.G sl i = .c (.v (.int kk y))) (ey : y = (j : Int)) (hj : j < m) (h : vops X all r K (upd sl d (.c (.pt id (off + j * k)))) H) :
    vops X all (⟨some d, .indexAddr t x i, ty, ps, af, none⟩ :: r) K sl H := by
  subst ey
  refine v_q _ rfl ?_ h
  simp only [evq, hL, hx, hi, hLe]
  rw [if_pos ⟨by omega, by omega⟩, Int.toNat_natCast, hk]
end
/-! Rows of eight truths -/
abbrev Ph := Fin 8 → Bool
def bo (b : Bool) : List C := [.v (.bool b)]
theorem bo_len (b : Bool) : (bo b).length = 1 := rfl
theorem bo_sc (b : Bool) : (bo b).all sc = true := rfl
def pl (g : Ph) : List Bool := [g 0, g 1, g 2, g 3, g 4, g 5, g 6, g 7]
end Go.VL
namespace Go.VL
open Go.RowKit
def int (a : Int) : List C := [.v (.int .i64 a)]
theorem int_len (a : Int) : (int a).length = 1 := rfl
theorem int_sc (a : Int) : (int a).all sc = true := rfl
abbrev cI (a : Int) : V := .c (.v (.int .i64 a))
abbrev cB (b : Bool) : V := .c (.v (.bool b))
abbrev ints (o : Bool) (xs : List Int) : C := .sl o xs.length 1 (flat int xs)
theorem a_i {H : List Ob} {a b : Int} (h : a = b) : TrV H [] (cI a) (cI b) := by rw [h]; exact tr_v
theorem tr_i {H : List Ob} {g : List (Option Nat)} {a b : Int} (h : a = b) : TrV H g (cI a) (cI b) := by rw [h]; exact tr_v
theorem tr_fn1 {H : List Ob} {gg : List (Option Nat)} {g : FuncId} {cs : List C} : TrV H gg (.c (.fn g [.vw false cs 0])) (.c (.fn g [.vw false cs 0])) := .c (.fn rfl (same_of fun c hc => Tr.stay (by simp at hc; subst hc; rfl)))
theorem tr_mun {H : List Ob} {g : List (Option Nat)} {i id off n n' k : Nat} (h : g[i]? = some (some id)) (hn : n = n') : TrV H g (.c (.mu id off n k)) (.c (.mu i off n' k)) := by
  subst hn
  exact tr_mu h
theorem i64r {a : Int} (h : -9223372036854775808 ≤ a ∧ a ≤ 9223372036854775807) : IntKind.i64.min ≤ a ∧ a ≤ IntKind.i64.max := h
theorem all_step {α : Type} {xs : List α} {i : Nat} {p : α → Prop} (hi : i < xs.length) (h : ∀ x ∈ xs.take i, p x) (h1 : p xs[i]) : ∀ x ∈ xs.take (i + 1), p x := by
  rw [List.take_succ_eq_append_getElem hi]
  intro x hx
  rcases List.mem_append.1 hx with hx | hx
  · exact h x hx
  · simp at hx; subst hx; exact h1
inductive TrVL (H : List Ob) (g : List (Option Nat)) : List V → List V → Prop
  | nil : TrVL H g [] []
  | cons {v v' : V} {vs vs' : List V} (h : TrV H g v v') (hs : TrVL H g vs vs') : TrVL H g (v :: vs) (v' :: vs')
theorem TrVL.spec {H : List Ob} {g : List (Option Nat)} {vs vs' : List V} (h : TrVL H g vs vs') : vs'.length = vs.length ∧ ∀ (j : Nat) (v v' : V), vs[j]? = some v → vs'[j]? = some v' → TrV H g v v' := by
  induction h with
  | nil => exact ⟨rfl, fun j c c' h => by simp at h⟩
  | cons h hs ih =>
    refine ⟨by simp [ih.1], fun j x x' hj hj' => ?_⟩
    cases j with
    | zero => simp at hj hj'; subst hj hj'; exact h
    | succ j => exact ih.2 j x x' (by simpa using hj) (by simpa using hj')
theorem a_tup {H : List Ob} {g : List (Option Nat)} {vs vs' : List V} (h : TrVL H g vs vs') : TrV H g (.tup vs) (.tup vs') := .tup h.spec.1 h.spec.2
def firstNZ : List Int → Int
  | [] => 0
  | x :: r => if x = 0 then firstNZ r else x
theorem firstNZ_none : ∀ {xs : List Int}, (∀ x ∈ xs, x = 0) → firstNZ xs = 0
  | [], _ => rfl
  | x :: r, h => by
    have h0 := h x (by simp)
    simp only [firstNZ, h0, if_true]
    exact firstNZ_none fun y hy => h y (by simp [hy])
theorem firstNZ_hit : ∀ {xs : List Int} {i : Nat} (hi : i < xs.length), (∀ x ∈ xs.take i, x = 0) → ¬ xs[i] = 0 → firstNZ xs = xs[i]
  | x :: r, 0, _, _, h => by simpa [firstNZ] using fun h0 => absurd h0 h
  | x :: r, i + 1, hi, hp, h => by
    have h0 := hp x (by simp)
    simp only [firstNZ, h0, if_true]
    exact firstNZ_hit (xs := r) (by simpa using hi) (fun y hy => hp y (by simp [hy])) (by simpa using h)
def fix {α : Type} (pr : α → Prop) [DecidablePred pr] (xs : List α) : Int := match xs.findIdx? (fun x => decide (pr x)) with
  | some i => (i : Int)
  | none => -1
theorem fix_none {α : Type} {pr : α → Prop} [DecidablePred pr] {xs : List α} (h : ∀ x ∈ xs, ¬ pr x) : fix pr xs = -1 := by
  unfold fix
  rw [List.findIdx?_eq_none_iff.2 (by simpa using h)]
theorem fix_hit {α : Type} {pr : α → Prop} [DecidablePred pr] {xs : List α} {i : Nat} (hi : i < xs.length) (h : ∀ x ∈ xs.take i, ¬ pr x) (h1 : pr xs[i]) : fix pr xs = i := by
  unfold fix
  rw [List.findIdx?_eq_some_iff_getElem.2 ⟨hi, by simpa using h1, fun j hj => by
    simpa using h xs[j] (by rw [List.mem_take_iff_getElem]; exact ⟨j, by omega, rfl⟩)⟩]
theorem fix_ge {α : Type} (pr : α → Prop) [DecidablePred pr] (xs : List α) : 0 ≤ fix pr xs ↔ ∃ x ∈ xs, pr x := by
  unfold fix
  cases h : xs.findIdx? (fun x => decide (pr x)) with
  | none =>
    have := List.findIdx?_eq_none_iff.1 h
    simp only [decide_eq_false_iff_not] at this
    constructor
    · intro h; exact absurd (show (0 : Int) ≤ -1 from h) (by decide)
    · rintro ⟨x, h1, h2⟩; exact absurd h2 (this x h1)
  | some i =>
    obtain ⟨h1, h2, -⟩ := List.findIdx?_eq_some_iff_getElem.1 h
    exact ⟨fun _ => ⟨_, List.getElem_mem h1, by simpa using h2⟩, fun _ => by simp only []; omega⟩
def mx (a b : Int) : Int := if a < b then b else a
/-! Sources of draws -/
end Go.VL
namespace Go.VL
open Go.RowKit
end Go.VL
namespace Go.VL
open Go.RowKit
/-- A cell that is frozen, or a number. -/
def fz : C → Bool
  | .v _ => true
  | .f _ _ => true
  | .sl true _ _ _ => true
  | .vw true _ _ => true
  | _ => false
theorem Dn.fz {o : Bool} {H : List Ob} {gone : Nat → Prop} {c : C} (h : fz c = true) : Dn o H gone c c := by
  cases c with
  | v x => exact .v
  | f k x => exact .f
  | sl b n k cs => cases b with
    | true => exact .sl fun _ => rfl
    | false => cases h
  | vw b cs off => cases b with
    | true => exact .vw fun _ => rfl
    | false => cases h
  | _ => cases h
section
variable {X : Cx} {all r : List Oper} {K : Sl → List Ob → Prop} {sl : Sl} {H : List Ob} {d : Tmp} {ty : TypeId} {ps : String} {af : Array Edge}
end
/-! Remainders -/
end Go.VL
namespace Go.VL
open Go.RowKit
end Go.VL
namespace Go.VL
open Go.RowKit
end Go.VL
namespace Go.VL
open Go.RowKit
section
variable {α β : Type} (kid : α → List β) (enc : β → List C) (k : Nat) (tt : TypeId) (rest : α → List C)
end
section
variable {α β : Type} {kid : α → List β} {enc : β → List C} {k : Nat} {tt : TypeId} {rest : α → List C}
end
/-! Looking anew, with rows of objects -/
def ids (M n : Nat) : List (Option Nat) := (List.range n).map fun i => some (M + i)
end Go.VL
namespace Go.VL
open Go.RowKit
/-- A cell that leads nowhere but into the row. -/
def clC (n : Nat) : C → Bool
  | .mu id _ _ _ => decide (id < n)
  | .pt id _ => decide (id < n)
  | .v _ => true
  | .f _ _ => true
  | .any => true
  | _ => false
/-! Rows, one behind the other -/
section
variable {X : Cx} {all r : List Oper} {K : Sl → List Ob → Prop} {sl : Sl} {d : Tmp} {ty : TypeId} {ps : String} {af : Array Edge}
end
end Go.VL
namespace Go.VL
open Go.RowKit
section
variable {A Bs : List Ob} {P : Nat} (hP : A.length = P)
include hP
section
variable {X : Cx} {all r : List Oper} {K : Sl → List Ob → Prop} {sl : Sl} {d : Tmp} {ty : TypeId} {ps : String} {af : Array Edge}
end
end
/-! A list of things that have a live slice each, grown by one. -/
section
variable {α β : Type} {kid : α → List β} {enc : β → List C} {k : Nat} {tt : TypeId} {rest : α → List C}
end
end Go.VL
namespace Go.VL
open Go.RowKit
section
variable {X : Cx} {all r : List Oper} {K : Sl → List Ob → Prop} {sl : Sl} {H : List Ob} {ty : TypeId} {ps : String} {af : Array Edge}
end
end Go.VL
namespace Go.VL
open Go.RowKit
section
variable {n : Nat} {α : Type}
end
instance {n : Nat} {α : Type} [DecidableEq α] : DecidableEq (Fin n → α) := fun g h => decidable_of_iff (∀ i : Fin n, g i = h i) ⟨funext, fun e i => by rw [e]⟩
end Go.VL
namespace Go.VL
open Go.RowKit
section
variable {X : Cx} {all r : List Oper} {K : Sl → List Ob → Prop} {sl : Sl} {H : List Ob} {d : Tmp} {ty : TypeId} {ps : String} {af : Array Edge}
theorem v_slice_av {t e : TypeId} {x : Operand} {n a b : Nat} {z : List Value} {o : Bool} {off k : Nat} {cs cs' : List C} {L : Lay} (hL : X.lay t = some ⟨.array n e, a, b, z⟩) (hLe : X.lay e = some L) (hk : L.size = k) (hx : rho X.G sl x = .c (.vw o cs off)) (hk0 : 0 < k)
    (hn : n ≤ maxLen) (hf : off + n * k ≤ cs.length) (hs : sub cs off (n * k) = cs') (h : vops X all r K (upd sl d (.c (.sl o n k cs'))) H) : vops X all (⟨some d, .slice t x none none none, ty, ps, af, none⟩ :: r) K sl H := by
  subst hk hs
  refine v_q _ rfl ?_ h
  simp only [evq, hL, hx, hLe, bnd]
  rw [if_pos ⟨hk0, by omega, by omega, by omega, hn, hf⟩]
  simp
end
end Go.VL
namespace Go.VL
open Go.RowKit
set_option maxHeartbeats 4000000
/-- A number of at most 53 digits is a double. -/
theorem dbl_read {m : Nat} {e : Int} (hm0 : m ≠ 0) (hm : m.log2 ≤ 52) (he : -1074 ≤ e + (m.log2 : Int) - 52) (he2 : e + (m.log2 : Int) - 52 ≤ 900) : FloatKind.f64.format.read (FloatKind.f64.format.nearest false m e) = .number false (m * 2 ^ (52 - m.log2)) (e + (m.log2 : Int) - 52) := by
  have c1 : FloatKind.f64.format.fractionBits = 52 := by decide
  have c2 : FloatKind.f64.format.leastPlace = -1074 := by decide
  have c3 : FloatKind.f64.format.binade = 4503599627370496 := by decide
  have c4 : FloatKind.f64.format.infRung = 9218868437227405312 := by decide
  have c5 : FloatKind.f64.format.signWeight = 9223372036854775808 := by decide
  have hM1 : 2 ^ 52 ≤ m * 2 ^ (52 - m.log2) := by
    have h1 := Nat.log2_self_le hm0
    have h2 : 2 ^ m.log2 * 2 ^ (52 - m.log2) ≤ m * 2 ^ (52 - m.log2) := Nat.mul_le_mul_right _ h1
    rw [← Nat.pow_add, show m.log2 + (52 - m.log2) = 52 by omega] at h2
    exact h2
  have hM2 : m * 2 ^ (52 - m.log2) < 2 ^ 53 := by
    have h1 : m < 2 ^ (m.log2 + 1) := Nat.lt_log2_self
    have h2 : m * 2 ^ (52 - m.log2) < 2 ^ (m.log2 + 1) * 2 ^ (52 - m.log2) := (Nat.mul_lt_mul_right (Nat.two_pow_pos _)).2 h1
    rw [← Nat.pow_add, show m.log2 + 1 + (52 - m.log2) = 53 by omega] at h2
    exact h2
  have d52 : (2 : Nat) ^ 52 = 4503599627370496 := by decide
  have d53 : (2 : Nat) ^ 53 = 9007199254740992 := by decide
  unfold Ieee.Format.nearest
  rw [if_neg hm0]
  simp only [c1, c2, c3, c4]
  have hmax : max (e + (m.log2 : Int) - ((52 : Nat) : Int)) (-1074) = e + (m.log2 : Int) - 52 := by omega
  rw [hmax, show (e - (e + (m.log2 : Int) - 52)).toNat = 52 - m.log2 by omega, show (e + (m.log2 : Int) - 52 - e).toNat = 0 by omega, cut_zero, Nat.shiftLeft_eq]
  generalize m * 2 ^ (52 - m.log2) = M at *
  obtain ⟨L, hL⟩ : ∃ L : Nat, e + (m.log2 : Int) - 52 = (L : Int) - 1074 := ⟨(e + (m.log2 : Int) - 52 + 1074).toNat, by omega⟩
  rw [hL, show ((L : Int) - 1074 - -1074).toNat = L by omega, Nat.min_eq_left (by omega)]
  unfold Ieee.Format.read Ieee.Format.word
  simp only [c2, c3, c4, c5, Bool.false_eq_true, if_false]
  have r1 : (L * 4503599627370496 + M) / 9223372036854775808 = 0 := Nat.div_eq_of_lt (by omega)
  have r2 : (L * 4503599627370496 + M) % 9223372036854775808 = L * 4503599627370496 + M := Nat.mod_eq_of_lt (by omega)
  rw [r1, r2, if_neg (by omega), if_pos (by omega)]
  have q1 : (L * 4503599627370496 + M) % 4503599627370496 = M - 4503599627370496 := by omega
  have q2 : (L * 4503599627370496 + M) / 4503599627370496 - 1 = L := by omega
  rw [q1, q2, show 4503599627370496 + (M - 4503599627370496) = M by omega, show (-1074 : Int) + ((L : Nat) : Int) = (L : Int) - 1074 by omega]
  rfl
theorem cut_down (n d : Nat) : Ieee.Toward.down.cut false n d = n / 2 ^ d := by
  unfold Ieee.Toward.cut
  simp only [Bool.false_and, Nat.one_shiftLeft]
  show n / 2 ^ min d (n.log2 + 2) + 0 = _
  by_cases h : d ≤ n.log2 + 2
  · rw [Nat.min_eq_left h]
    rfl
  · rw [Nat.min_eq_right (by omega)]
    have h1 : n < 2 ^ (n.log2 + 1) := Nat.lt_log2_self
    have h2 : 2 ^ (n.log2 + 1) ≤ 2 ^ (n.log2 + 2) := Nat.pow_le_pow_right (by decide) (by omega)
    have h3 : 2 ^ (n.log2 + 2) ≤ 2 ^ d := Nat.pow_le_pow_right (by decide) (by omega)
    rw [Nat.div_eq_of_lt (by omega), Nat.div_eq_of_lt (by omega)]
end Go.VL
namespace Go.VL
open Go.RowKit
end Go.VL
namespace Go.VL
open Go.RowKit
/-- The bytes as a word. -/
abbrev tx (l : List UInt8) : ByteArray := ⟨l.toArray⟩
theorem tx_self (s : ByteArray) : tx s.data.toList = s := by
  apply ByteArray.ext
  simp
theorem tx_list (l : List UInt8) : (tx l).toList = l := by
  have h : ∀ (n i : Nat) (r : List UInt8), l.length - i = n → ByteArray.toList.loop (tx l) i r = r.reverse ++ l.drop i := by
    intro n
    induction n with
    | zero =>
      intro i r hn
      unfold ByteArray.toList.loop
      rw [if_neg (by show ¬ i < l.length; omega), List.drop_of_length_le (by omega), List.append_nil]
    | succ n ih =>
      intro i r hn
      have hlt : i < l.length := by omega
      unfold ByteArray.toList.loop
      rw [if_pos (show i < (tx l).size from hlt), ih (i + 1) _ (by omega), List.drop_eq_getElem_cons hlt]
      have e : (tx l).get! i = l[i] := by
        show (l.toArray)[i]! = l[i]
        simp [hlt]
      rw [e]
      simp
  unfold ByteArray.toList
  rw [h l.length 0 [] (by omega)]
  rfl
/-- A byte as a number, and back. -/
def b8 (x : UInt8) : Int := (x.toNat : Int)
theorem b8_inj {x y : UInt8} : b8 x = b8 y ↔ x = y := by
  unfold b8
  rw [Int.ofNat_inj]
  exact UInt8.toNat_inj
section
variable {X : Cx} {all r : List Oper} {K : Sl → List Ob → Prop} {sl : Sl} {H : List Ob} {d : Tmp} {ty : TypeId} {ps : String} {af : Array Edge}
/-- Two words held against each other. -/
theorem v_seql {t ty2 : TypeId} {x y : Operand} {a b : Nat} {z : List Value} {p q : List UInt8} (hL : X.lay t = some ⟨.string, a, b, z⟩) (hx : rho X.G sl x = .c (.v (.string (tx p)))) (hy : rho X.G sl y = .c (.v (.string (tx q))))
    (h1 : p = q → vops X all r K (upd sl d (.c (.v (.bool true)))) H) (h2 : ¬ p = q → vops X all r K (upd sl d (.c (.v (.bool false)))) H) : vops X all (⟨some d, .binOp .eql t x y ty2, ty, ps, af, none⟩ :: r) K sl H := by
  refine v_bin (c := .v (.bool (p == q))) hL hx hy ?_ ?_
  · show binS .eql (tx p) (tx q) = _
    unfold binS
    simp only
    rw [tx_list, tx_list]
  · by_cases e : p = q
    · rw [beq_iff_eq.2 e]; exact h1 e
    · rw [beq_eq_false_iff_ne.2 e]; exact h2 e
/-- A byte of a word. -/
theorem v_sidx {t : TypeId} {x i : Operand} {a b : Nat} {z : List Value} {kk : IntKind} {j : Int} {p : List UInt8} (q : Nat) (hL : X.lay t = some ⟨.string, a, b, z⟩) (hx : rho X.G sl x = .c (.v (.string (tx p)))) (hi : rho X.G sl i = .c (.v (.int kk j))) (ej : j = (q : Int)) (hq : q < p.length)
    (h : vops X all r K (upd sl d (.c (.v (.int .u8 (b8 p[q]))))) H) : vops X all (⟨some d, .index t x i, ty, ps, af, none⟩ :: r) K sl H := by
  subst ej
  refine v_q _ rfl ?_ h
  simp only [evq, hL, hx, hi]
  rw [dif_pos ⟨by omega, by rw [Int.toNat_natCast]; exact hq⟩]
  rfl
/-- A part of a word. -/
theorem v_sslice {t : TypeId} {x : Operand} {lo hi : Option Operand} {a b : Nat} {z : List Value} {p : List UInt8} {jl jh : Int} (l u : Nat) (hL : X.lay t = some ⟨.string, a, b, z⟩) (hx : rho X.G sl x = .c (.v (.string (tx p)))) (hlo : bnd (rho X.G sl) lo 0 = some jl) (hhi : bnd (rho X.G sl) hi (p.length : Int) = some jh)
    (el : jl = (l : Int)) (eh : jh = (u : Int)) (hb : l ≤ u ∧ u ≤ p.length) (h : vops X all r K (upd sl d (.c (.v (.string (tx ((p.take u).drop l)))))) H) : vops X all (⟨some d, .slice t x lo hi none, ty, ps, af, none⟩ :: r) K sl H := by
  subst el eh
  refine v_q _ rfl ?_ h
  simp only [evq, hL, hx]
  rw [show ((tx p).size : Int) = (p.length : Int) from rfl, hlo, hhi]
  simp only
  rw [if_pos ⟨by omega, by omega, by show (u : Int) ≤ (p.length : Int); omega⟩, Int.toNat_natCast, Int.toNat_natCast]
  congr 4
  apply ByteArray.ext
  simp [ByteArray.data_extract, List.drop_take]
end
/-- A contract on data, out of the model's own. -/
theorem PureC.of_calls {X : Cx} {g : FuncId} {args : List V} {r : V} (hen : Enters X g) (h : ∀ (w : World) (F : Nat → Prop) (μ : Nat → Pl) (arr : Array Value), Sim X.G ⟨w, F, w.heap.size, 0, μ⟩ [] → RVs ⟨w, F, w.heap.size, 0, μ⟩ args arr →
    Calls X.P g arr w fun e w' => ∃ u, e = .returned u ∧ Below w.heap.size w w' ∧ RV ⟨w', fun b => F b ∨ (w.heap.size ≤ b ∧ b < w'.heap.size), w.heap.size, 0, μ⟩ r u) : PureC X g args r := fun w F μ arr hS hr =>
  .inr ⟨hen _ _, h w F μ arr hS hr⟩
theorem tab_of {X : Cx} {m : Mem} {H : List Ob} (hS : Sim X.G m H) {g : Nat} {vs : List Value} (hg : (g, vs) ∈ X.G) {name : String} (hn : X.P.globalNamed name = some g) : m.w.var? X.P name = some vs.toArray := by
  obtain ⟨t, s, h⟩ := (hS.gl _ hg).2.2
  unfold World.var?
  rw [hn]
  simp only [Option.bind_some]
  simp only at h
  rw [h]
theorem two_args {m : Mem} {a b : V} {arr : Array Value} (h : RVs m [a, b] arr) : ∃ x y, arr = #[x, y] ∧ RV m a x ∧ RV m b y := by
  obtain ⟨x, a1, a2⟩ := h.2 0 _ rfl
  obtain ⟨y, b1, b2⟩ := h.2 1 _ rfl
  refine ⟨x, y, ?_, a2, b2⟩
  refine Array.ext (by simpa using h.1) fun j h1 h2 => ?_
  have hj : j < 2 := by simpa using h2
  rcases (by omega : j = 0 ∨ j = 1) with rfl | rfl
  · have := (Array.getElem?_eq_some_iff.1 a1).2; simpa using this
  · have := (Array.getElem?_eq_some_iff.1 b1).2; simpa using this
end Go.VL
namespace Go.VL
open Go.RowKit
/-- What a listed variable holds, as the whole of its block. -/
theorem laid_at {X : Cx} {w : World} {n : String} {d : DataW Unit} : ∀ {l : List (String × DataW Unit)} {ps : List MemPlace}, DataW.LaidVars X.P w l ps → (n, d) ∈ l → ∀ {g : Nat} {t : TypeId} {f : Nat}, X.P.globalNamed n = some g → (X.P.globals[g]?).map (·.type) = some t → okLit X.lay f t = true →
    GlAt w (g, litV f d)
  | [], ps, _, hm, g, t, f, _, _, _ => by cases hm
  | (n', d') :: r, ps, h, hm, g, t, f, hg, ht, hok => by
    obtain ⟨g0, t0, cs, fuel, p, q, h1, h2, h3, h4, h5, -⟩ := h
    rcases List.mem_cons.1 hm with he | hm
    · cases he
      obtain rfl := Option.some.inj (hg.symm.trans h1)
      obtain rfl := Option.some.inj (ht.symm.trans h2)
      obtain ⟨k1, -⟩ := lit_trod f _ _ _ _ hok h4
      simp only at k1
      unfold World.var? at h3
      rw [hg] at h3
      simp only [Option.bind_some] at h3
      unfold GlAt
      cases hh : w.heap[g]? with
      | none => rw [hh] at h3; cases h3
      | some o =>
        rw [hh] at h3
        cases o with
        | cells c t s =>
          simp only [Option.some.injEq] at h3
          subst h3
          exact ⟨t, s, by rw [← k1]⟩
        | _ => cases h3
    · exact laid_at h5 hm hg ht hok
/-- Both at once, as a law over laid variables wants them. -/
theorem laid_glob {X : Cx} {w : World} {n : String} {d : DataW Unit} {l : List (String × DataW Unit)} {ps : List MemPlace} (h : DataW.LaidVars X.P w l ps) (hm : (n, d) ∈ l) {g : Nat} {t : TypeId} {f : Nat} {vs : List Value} (hg : X.P.globalNamed n = some g) (ht : (X.P.globals[g]?).map (·.type) = some t) (hok : okLit X.lay f t = true) (hv : litV f d = vs) (h0 : vs.isEmpty = false) :
    vs ≠ [] ∧ (∀ (j : Nat) (x : Value), vs[j]? = some x → w.cell? ⟨g, j, none⟩ = some x ∧ plain x = true) ∧ GlAt w (g, vs) := by
  subst hv
  exact ⟨fun e => (by rw [e] at h0; cases h0), laid_cells h hm hg ht hok, laid_at h hm hg ht hok⟩
section
variable {X : Cx} {all r : List Oper} {K : Sl → List Ob → Prop} {sl : Sl} {H : List Ob} {d : Tmp} {ty : TypeId} {ps : String} {af : Array Edge}
end
/-- A word that is answered. -/
theorem a_s {H : List Ob} {p q : List UInt8} (h : p = q) : TrV H [] (.c (.v (.string (tx p)))) (.c (.v (.string (tx q)))) := by
  subst h; exact tr_v
theorem rv_v {m : Mem} {v u : Value} (h : RV m (.c (.v v)) u) : u = v := by
  cases h with
  | c h => cases h with | fz h => cases h; rfl
end Go.VL
namespace Go.VL
/-- The parts of a word between bytes c. -/
def splitB (c : UInt8) : List UInt8 → List (List UInt8)
  | [] => [[]]
  | x :: r => if x = c then [] :: splitB c r else match splitB c r with
    | [] => [[x]]
    | p :: q => (x :: p) :: q
theorem splitB_ne (c : UInt8) (l : List UInt8) : splitB c l ≠ [] := by
  cases l with
  | nil => simp [splitB]
  | cons x r =>
    unfold splitB
    split
    · simp
    · split <;> simp
theorem splitB_none {c : UInt8} : ∀ {l : List UInt8}, (∀ x ∈ l, x ≠ c) → splitB c l = [l]
  | [], _ => rfl
  | x :: r, h => by
    unfold splitB
    rw [if_neg (h x (by simp)), splitB_none (fun y hy => h y (by simp [hy]))]
theorem splitB_app {c : UInt8} {r : List UInt8} : ∀ {p : List UInt8}, (∀ x ∈ p, x ≠ c) → splitB c (p ++ c :: r) = p :: splitB c r
  | [], _ => by
    show splitB c (c :: r) = _
    rw [splitB, if_pos rfl]
  | x :: q, h => by
    show splitB c (x :: (q ++ c :: r)) = _
    rw [splitB, if_neg (h x (by simp)), splitB_app (fun y hy => h y (by simp [hy]))]
theorem splitB_hit {c : UInt8} {l : List UInt8} {m : Nat} (hm : m < l.length) (h : ∀ x ∈ l.take m, x ≠ c) (e : l[m] = c) : splitB c l = l.take m :: splitB c (l.drop (m + 1)) := by
  have e2 : l = l.take m ++ c :: l.drop (m + 1) := by
    rw [← e, ← List.drop_eq_getElem_cons hm, List.take_append_drop]
  have := splitB_app (c := c) (r := l.drop (m + 1)) h
  rw [← e2] at this
  exact this
theorem splitB_len (c : UInt8) : ∀ l : List UInt8, (splitB c l).length = l.count c + 1
  | [] => rfl
  | x :: r => by
    have ih := splitB_len c r
    unfold splitB
    rw [List.count_cons]
    split
    · rename_i h
      subst h
      simp [ih]
    · rename_i h
      split
      · rename_i e
        exact absurd e (splitB_ne c r)
      · rename_i p q e
        rw [e] at ih
        have hb : (x == c) = false := by simpa using h
        simp only [List.length_cons, hb] at ih ⊢
        simpa using ih
theorem splitB_le (c : UInt8) (l : List UInt8) : (splitB c l).length ≤ l.length + 1 := by
  rw [splitB_len]
  have := List.count_le_length (a := c) (l := l)
  omega
/-- Every part is no longer than the word. -/
theorem splitB_part (c : UInt8) : ∀ (l : List UInt8), ∀ p ∈ splitB c l, p.length ≤ l.length
  | [], p, h => by
    obtain rfl : p = [] := by simpa [splitB] using h
    exact Nat.le_refl _
  | x :: r, p, h => by
    have ih := splitB_part c r
    unfold splitB at h
    split at h
    · rcases List.mem_cons.1 h with rfl | h
      · exact Nat.zero_le _
      · have := ih p h
        simp only [List.length_cons]
        omega
    · split at h
      · rename_i e
        exact absurd e (splitB_ne c r)
      · rename_i p' q e
        rw [e] at ih
        rcases List.mem_cons.1 h with rfl | h
        · have := ih p' (by simp)
          simp only [List.length_cons]
          omega
        · have := ih p (by simp [h])
          simp only [List.length_cons]
          omega
/-- No part holds the byte. -/
theorem splitB_free (c : UInt8) : ∀ (l : List UInt8), ∀ p ∈ splitB c l, ∀ x ∈ p, x ≠ c
  | [], p, h => by
    obtain rfl : p = [] := by simpa [splitB] using h
    intro x hx; cases hx
  | x :: r, p, h => by
    have ih := splitB_free c r
    unfold splitB at h
    split at h
    · rcases List.mem_cons.1 h with rfl | h
      · intro x hx; cases hx
      · exact ih p h
    · rename_i hx
      split at h
      · rename_i e
        exact absurd e (splitB_ne c r)
      · rename_i p' q e
        rw [e] at ih
        rcases List.mem_cons.1 h with rfl | h
        · intro y hy
          rcases List.mem_cons.1 hy with rfl | hy
          · exact hx
          · exact ih p' (by simp) y hy
        · exact ih p (by simp [h])
/-- Parts put together again. -/
def joinB (c : UInt8) : List (List UInt8) → List UInt8
  | [] => []
  | [p] => p
  | p :: q :: r => p ++ c :: joinB c (q :: r)
theorem joinB_cons {c : UInt8} {p : List UInt8} {q : List (List UInt8)} (h : q ≠ []) : joinB c (p :: q) = p ++ c :: joinB c q := by
  cases q with
  | nil => exact absurd rfl h
  | cons a r => rfl
theorem join_split (c : UInt8) : ∀ l : List UInt8, joinB c (splitB c l) = l
  | [] => rfl
  | x :: r => by
    have ih := join_split c r
    unfold splitB
    split
    · rename_i h
      subst h
      rw [joinB_cons (splitB_ne x r), ih]
      rfl
    · split
      · rename_i e
        exact absurd e (splitB_ne c r)
      · rename_i p q e
        rw [e] at ih
        cases q with
        | nil =>
          have : p = r := ih
          rw [this]
          rfl
        | cons a b =>
          have : p ++ c :: joinB c (a :: b) = r := ih
          show (x :: p) ++ c :: joinB c (a :: b) = x :: r
          rw [List.cons_append, this]
/-- Where a byte stands first. -/
theorem index_byte (c : UInt8) : ∀ l : List UInt8, (Lib.indexByte l c = -1 ∧ ∀ x ∈ l, x ≠ c) ∨ ∃ (m : Nat) (h : m < l.length), Lib.indexByte l c = (m : Int) ∧ (∀ x ∈ l.take m, x ≠ c) ∧ l[m] = c
  | [] => .inl ⟨rfl, (by intro x hx; cases hx)⟩
  | y :: r => by
    unfold Lib.indexByte
    by_cases h : y = c
    · refine .inr ⟨0, by simp, ?_, (by intro x hx; cases hx), h⟩
      rw [if_pos (by simpa using h)]; rfl
    · rw [if_neg (by simpa using h)]
      rcases index_byte c r with ⟨h1, h2⟩ | ⟨m, hm, h1, h2, h3⟩
      · refine .inl ⟨by rw [h1]; rfl, fun x hx => ?_⟩
        rcases List.mem_cons.1 hx with rfl | hx
        · exact h
        · exact h2 x hx
      · refine .inr ⟨m + 1, by simp only [List.length_cons]; omega, ?_, fun x hx => ?_, by simpa using h3⟩
        · rw [h1, if_neg (by simp only [beq_iff_eq]; omega)]
          push_cast
          rfl
        · rw [List.take_succ_cons] at hx
          rcases List.mem_cons.1 hx with rfl | hx
          · exact h
          · exact h2 x hx
/-- A number with one digit more. -/
theorem dec_snoc {n d : Nat} (hn : 0 < n) (hd : d < 10) : Lib.decDigits (n * 10 + d) = Lib.decDigits n ++ [UInt8.ofNat (48 + d)] := by
  rw [Lib.decDigits.eq_1 (n * 10 + d), dif_neg (by omega), show (n * 10 + d) / 10 = n by omega, show (n * 10 + d) % 10 = d by omega]
theorem dec_unsnoc {n : Nat} (h : ¬ n < 10) : Lib.decDigits n = Lib.decDigits (n / 10) ++ [UInt8.ofNat (48 + n % 10)] := by
  rw [Lib.decDigits.eq_1 n, dif_neg h]
/-- Bytes that are digits. -/
def dig (x : UInt8) : Prop := 48 ≤ x.toNat ∧ x.toNat ≤ 57
instance (x : UInt8) : Decidable (dig x) := by unfold dig; infer_instance
def dval (x : UInt8) : Nat := x.toNat - 48
theorem dig_of {d : Nat} (h : d < 10) : dig (UInt8.ofNat (48 + d)) ∧ dval (UInt8.ofNat (48 + d)) = d := by
  have e : (UInt8.ofNat (48 + d)).toNat = 48 + d := by
    rw [UInt8.toNat_ofNat']
    exact Nat.mod_eq_of_lt (by omega)
  unfold dig dval
  rw [e]
  omega
theorem of_dig {x : UInt8} (h : dig x) : UInt8.ofNat (48 + dval x) = x := by
  unfold dig at h
  unfold dval
  rw [show 48 + (x.toNat - 48) = x.toNat by omega]
  exact UInt8.ofNat_toNat
/-- The number that digits tell. -/
def numL (l : List UInt8) : Nat := l.foldl (fun a x => a * 10 + dval x) 0
theorem numL_snoc (l : List UInt8) (x : UInt8) : numL (l ++ [x]) = numL l * 10 + dval x := by
  unfold numL
  rw [List.foldl_append]
  rfl
theorem dec_digs : ∀ n : Nat, (∀ x ∈ Lib.decDigits n, dig x) ∧ numL (Lib.decDigits n) = n ∧ 0 < (Lib.decDigits n).length ∧ ((Lib.decDigits n).head? = some 48 → n = 0) := by
  intro n
  induction n using Nat.strongRecOn with
  | ind n ih =>
    by_cases h : n < 10
    · rw [Lib.decDigits_one h]
      have hd := dig_of h
      refine ⟨fun x hx => ?_, ?_, by simp, fun e => ?_⟩
      · obtain rfl : x = _ := List.mem_singleton.1 hx
        exact hd.1
      · show 0 * 10 + dval _ = n
        rw [hd.2]
        omega
      · have e1 : UInt8.ofNat (48 + n) = 48 := by simpa using e
        have := hd.2
        rw [e1] at this
        exact this.symm
    · obtain ⟨h1, h2, h3, h4⟩ := ih (n / 10) (by omega)
      rw [dec_unsnoc h]
      have hd := dig_of (d := n % 10) (by omega)
      refine ⟨fun x hx => ?_, ?_, by simp, fun e => ?_⟩
      · rcases List.mem_append.1 hx with hx | hx
        · exact h1 x hx
        · obtain rfl : x = _ := List.mem_singleton.1 hx
          exact hd.1
      · rw [numL_snoc, h2, hd.2]
        omega
      · have : (Lib.decDigits (n / 10)).head? = some 48 := by
          cases hl : Lib.decDigits (n / 10) with
          | nil => rw [hl] at h3; simp at h3
          | cons a b => rw [hl] at e; simpa using e
        have := h4 this
        omega
/-- Digits without a needless nought are what their number is written as. -/
theorem dec_numL : ∀ (k : Nat) (l : List UInt8), l.length = k → 0 < l.length → (∀ x ∈ l, dig x) → (l.head? = some 48 → l.length = 1) → Lib.decDigits (numL l) = l ∧ (1 < l.length → 0 < numL l) := by
  intro k
  induction k with
  | zero => intro l hl h0; omega
  | succ k ih =>
    intro l hl h0 hd hz
    obtain ⟨p, x, rfl⟩ : ∃ p x, l = p ++ [x] := ⟨l.dropLast, l.getLast (by intro e; rw [e] at h0; simp at h0), (List.dropLast_concat_getLast _).symm⟩
    have hx : dig x := hd x (by simp)
    have hv : dval x < 10 := by unfold dig at hx; unfold dval; omega
    rw [numL_snoc]
    by_cases hp : p.length = 0
    · obtain rfl : p = [] := List.length_eq_zero_iff.1 hp
      refine ⟨?_, fun h => by simp at h⟩
      show Lib.decDigits (0 * 10 + dval x) = [x]
      rw [Nat.zero_mul, Nat.zero_add, Lib.decDigits_one hv, of_dig hx]
    · have hpl : p.length = k := by simpa using hl
      have hh : (p ++ [x]).head? = p.head? := by
        cases p with
        | nil => exact absurd rfl hp
        | cons a b => rfl
      have hz' : p.head? = some 48 → p.length = 1 := fun e => by
        have := hz (hh.trans e)
        rw [List.length_append] at this
        simp only [List.length_cons, List.length_nil] at this
        omega
      obtain ⟨i1, i2⟩ := ih p hpl (by omega) (fun y hy => hd y (by simp [hy])) hz'
      have hpos : 0 < numL p := by
        by_cases h1 : 1 < p.length
        · exact i2 h1
        · have hne : p.head? ≠ some 48 := fun e => by
            have := hz (hh.trans e)
            rw [List.length_append] at this
            simp only [List.length_cons, List.length_nil] at this
            omega
          obtain ⟨a, rfl⟩ : ∃ a, p = [a] := List.length_eq_one_iff.1 (by omega)
          have ha : dig a := hd a (by simp)
          show 0 < 0 * 10 + dval a
          have : a ≠ 48 := fun e => hne (by rw [e]; rfl)
          have : a.toNat ≠ 48 := fun e => this (by rw [← UInt8.toNat_inj]; exact e)
          unfold dig at ha
          unfold dval
          omega
      refine ⟨?_, fun _ => by omega⟩
      rw [dec_snoc hpos hv, i1, of_dig hx]
/-- The kit's reading of digits. -/
theorem parseU_digs (M : Nat) : ∀ (l : List UInt8) (a : Nat), (∀ x ∈ l, dig x) → (l.foldl (fun a x => a * 10 + dval x) a) ≤ M → M ≤ 18446744073709551615 → Lib.parseUintM M a l = .ok (l.foldl (fun a x => a * 10 + dval x) a)
  | [], a, _, _, _ => rfl
  | c :: r, a, h, hM, hb => by
    have hc : dig c := h c (by simp)
    have hmono : ∀ (l : List UInt8) (b : Nat), b ≤ l.foldl (fun a x => a * 10 + dval x) b := by
      intro l
      induction l with
      | nil => intro b; exact Nat.le_refl _
      | cons y q ih => intro b; exact Nat.le_trans (by omega) (ih (b * 10 + dval y))
    have h1 := hmono r (a * 10 + dval c)
    rw [List.foldl_cons] at hM
    unfold Lib.parseUintM
    unfold dig at hc
    rw [if_pos hc, if_neg (by unfold dval at h1 hM; omega), if_neg (by unfold dval at h1 hM; omega)]
    exact parseU_digs M r (a * 10 + dval c) (fun x hx => h x (by simp [hx])) hM hb
theorem parse_dec {n : Nat} (h : n < 2 ^ 63) : Lib.parseIntB 64 (Lib.decDigits n) = .ok (n : Int) := by
  obtain ⟨h1, h2, h3, -⟩ := dec_digs n
  cases hl : Lib.decDigits n with
  | nil => rw [hl] at h3; simp at h3
  | cons c r =>
    rw [hl] at h1 h2
    have hc : dig c := h1 c (by simp)
    unfold dig at hc
    have hu : Lib.parseUintB 64 (c :: r) = .ok n := by
      unfold Lib.parseUintB
      rw [if_neg (by simp), parseU_digs _ _ _ h1 (by have : numL (c :: r) ≤ 2 ^ 64 - 1 := by omega
                                                     exact this) (by decide)]
      show Lib.NumEnd.ok (numL (c :: r)) = _
      rw [h2]
    unfold Lib.parseIntB
    simp only
    rw [if_neg (by omega), hu]
    simp only
    rw [if_neg (by omega), if_neg (by omega), if_neg (by omega)]
end Go.VL
namespace Go.VL
open Go.RowKit
theorem trod_iface {T : Type} {enc : TypeId × Value → T} {P : Program} {w : World} {b : Nat} {sp : Nat → Bool} {hd : Bool} {fuel : Nat} {t : TypeId} {ms : Array (String × TypeId)} {vs : List Value} {x : DataW T × List MemPlace} (hu : P.underlying t = some (.interface ms)) (h : DataW.trod enc P w b sp hd fuel t vs = some x) :
    ∃ v, vs = [v] ∧ (v = .nilIface ∨ ∃ u y, v = .iface u y) := by
  cases fuel with
  | zero => cases h
  | succ f =>
    unfold DataW.trod at h
    rw [hu] at h
    match vs, h with
    | [], h => cases h
    | [v], h =>
      refine ⟨v, rfl, ?_⟩
      cases v with
      | nilIface => exact .inl rfl
      | iface u y => exact .inr ⟨u, y, rfl⟩
      | _ => cases h
    | a :: c :: r, h => cases a <;> cases h
theorem laid_iface {P : Program} {w : World} {n : String} {d : DataW Unit} : ∀ {l : List (String × DataW Unit)} {ps : List MemPlace}, DataW.LaidVars P w l ps → (n, d) ∈ l → ∀ {g : Nat} {t : TypeId} {ms : Array (String × TypeId)}, P.globalNamed n = some g → (P.globals[g]?).map (·.type) = some t → P.underlying t = some (.interface ms) →
    ∃ v, (v = .nilIface ∨ ∃ u y, v = .iface u y) ∧ ([v] ≠ [] ∧ (∀ (j : Nat) (x : Value), [v][j]? = some x → w.cell? ⟨g, j, none⟩ = some x ∧ plain x = true) ∧ GlAt w (g, [v]))
  | [], ps, _, hm, g, t, _, _, _, _ => by cases hm
  | (n', d') :: r, ps, h, hm, g, t, ms, hg, ht, hu => by
    obtain ⟨g0, t0, cs, fuel, p, q, h1, h2, h3, h4, h5, -⟩ := h
    rcases List.mem_cons.1 hm with he | hm
    · cases he
      obtain rfl := Option.some.inj (hg.symm.trans h1)
      obtain rfl := Option.some.inj (ht.symm.trans h2)
      obtain ⟨v, hv, hi⟩ := trod_iface hu h4
      have hcs : cs = #[v] := by
        apply Array.ext'
        exact hv
      subst hcs
      refine ⟨v, hi, by simp, fun j x hj => ?_, ?_⟩
      · refine ⟨?_, ?_⟩
        · rw [World.var?_cell hg h3 j]
          simpa using hj
        · have hx : x = v := by
            cases j with
            | zero => simpa using hj.symm
            | succ j => simp at hj
          subst hx
          rcases hi with rfl | ⟨u, y, rfl⟩ <;> rfl
      · unfold World.var? at h3
        rw [hg] at h3
        simp only [Option.bind_some] at h3
        unfold GlAt
        cases hh : w.heap[g]? with
        | none => rw [hh] at h3; cases h3
        | some o =>
          rw [hh] at h3
          cases o with
          | cells c t s =>
            simp only [Option.some.injEq] at h3
            subst h3
            exact ⟨t, s, rfl⟩
          | _ => cases h3
    · exact laid_iface h5 hm hg ht hu
end Go.VL
namespace Go.VL
open Go.RowKit
set_option maxHeartbeats 4000000
abbrev fD : Ieee.Format := FloatKind.f64.format
theorem fD_fb : fD.fractionBits = 52 := by decide
theorem fD_bi : fD.binade = 4503599627370496 := by decide
theorem fD_in : fD.infRung = 9218868437227405312 := by decide
theorem fD_lp : fD.leastPlace = -1074 := by decide
theorem fD_sw : fD.signWeight = 9223372036854775808 := by decide
theorem big_lo {m : Nat} (hm0 : m ≠ 0) (hm : m.log2 ≤ 52) : 2 ^ 52 ≤ m * 2 ^ (52 - m.log2) ∧ m * 2 ^ (52 - m.log2) < 2 ^ 53 := by
  constructor
  · have h1 := Nat.log2_self_le hm0
    have h2 : 2 ^ m.log2 * 2 ^ (52 - m.log2) ≤ m * 2 ^ (52 - m.log2) := Nat.mul_le_mul_right _ h1
    rw [← Nat.pow_add, show m.log2 + (52 - m.log2) = 52 by omega] at h2
    exact h2
  · have h1 : m < 2 ^ (m.log2 + 1) := Nat.lt_log2_self
    have h2 : m * 2 ^ (52 - m.log2) < 2 ^ (m.log2 + 1) * 2 ^ (52 - m.log2) := (Nat.mul_lt_mul_right (Nat.two_pow_pos _)).2 h1
    rw [← Nat.pow_add, show m.log2 + 1 + (52 - m.log2) = 53 by omega] at h2
    exact h2
/-- The word of a number of at most 53 digits. -/
def wrd (m : Nat) (e : Int) : Nat := (e + (m.log2 : Int) - 52 + 1074).toNat * 4503599627370496 + m * 2 ^ (52 - m.log2)
theorem near_wrd {s : Bool} {m : Nat} {e : Int} (hm0 : m ≠ 0) (hm : m.log2 ≤ 52) (he : -1074 ≤ e + (m.log2 : Int) - 52) (he2 : e + (m.log2 : Int) - 52 ≤ 900) : fD.nearest s m e = fD.word s (wrd m e) := by
  obtain ⟨hM1, hM2⟩ := big_lo hm0 hm
  have d52 : (2 : Nat) ^ 52 = 4503599627370496 := by decide
  have d53 : (2 : Nat) ^ 53 = 9007199254740992 := by decide
  unfold Ieee.Format.nearest wrd
  rw [if_neg hm0]
  simp only [fD_fb, fD_lp, fD_bi, fD_in]
  have hmax : max (e + (m.log2 : Int) - ((52 : Nat) : Int)) (-1074) = e + (m.log2 : Int) - 52 := by omega
  rw [hmax, show (e - (e + (m.log2 : Int) - 52)).toNat = 52 - m.log2 by omega, show (e + (m.log2 : Int) - 52 - e).toNat = 0 by omega, cut_zero, Nat.shiftLeft_eq]
  generalize m * 2 ^ (52 - m.log2) = M at *
  obtain ⟨L, hL⟩ : ∃ L : Nat, e + (m.log2 : Int) - 52 = (L : Int) - 1074 := ⟨(e + (m.log2 : Int) - 52 + 1074).toNat, by omega⟩
  rw [hL, show ((L : Int) - 1074 - -1074).toNat = L by omega, show ((L : Int) - 1074 + 1074).toNat = L by omega, Nat.min_eq_left (by omega)]
theorem wrd_lt {m : Nat} {e : Int} (hm0 : m ≠ 0) (hm : m.log2 ≤ 52) (he2 : e + (m.log2 : Int) - 52 ≤ 900) : wrd m e < 9218868437227405312 := by
  obtain ⟨hM1, hM2⟩ := big_lo hm0 hm
  have d53 : (2 : Nat) ^ 53 = 9007199254740992 := by decide
  unfold wrd
  omega
theorem dbl_readS {s : Bool} {m : Nat} {e : Int} (hm0 : m ≠ 0) (hm : m.log2 ≤ 52) (he : -1074 ≤ e + (m.log2 : Int) - 52) (he2 : e + (m.log2 : Int) - 52 ≤ 900) : fD.read (fD.nearest s m e) = .number s (m * 2 ^ (52 - m.log2)) (e + (m.log2 : Int) - 52) := by
  cases s with
  | false => exact dbl_read hm0 hm he he2
  | true =>
    have h0 := dbl_read hm0 hm he he2
    rw [near_wrd hm0 hm he he2] at h0 ⊢
    have hlt := wrd_lt hm0 hm he2
    generalize wrd m e = r at *
    have w0 : fD.word false r = r := rfl
    have w1 : fD.word true r = 9223372036854775808 + r := by
      unfold Ieee.Format.word
      rw [fD_sw]
      rfl
    rw [w0] at h0
    rw [w1]
    unfold Ieee.Format.read at h0 ⊢
    rw [fD_sw, fD_bi, fD_in, fD_lp] at *
    have r1 : r / 9223372036854775808 % 2 = 0 := by omega
    have r2 : r % 9223372036854775808 = r := by omega
    have q1 : (9223372036854775808 + r) / 9223372036854775808 % 2 = 1 := by omega
    have q2 : (9223372036854775808 + r) % 9223372036854775808 = r := by omega
    simp only [r1, r2] at h0
    simp only [q1, q2]
    split at h0
    · rename_i h1
      rw [if_pos h1]
      simp only [Ieee.Datum.number.injEq] at h0 ⊢
      exact ⟨rfl, h0.2⟩
    · rename_i h1
      rw [if_neg h1, if_pos hlt]
      simp only [Ieee.Datum.number.injEq] at h0 ⊢
      exact ⟨rfl, h0.2⟩
/-- The same number, told with more digits. -/
theorem dbl_scale {s : Bool} {n j : Nat} {p : Int} (hn : n ≠ 0) (hl : n.log2 ≤ 52) (lo : -1074 ≤ p + (n.log2 : Int) - 52) : fD.nearest s (n * 2 ^ j) (p - j) = fD.nearest s n p := by
  have hm : n * 2 ^ j ≠ 0 := Nat.mul_ne_zero hn (Nat.ne_of_gt (Nat.two_pow_pos j))
  unfold Ieee.Format.nearest
  rw [if_neg hn, if_neg hm, log2_mul hn]
  simp only [fD_fb, fD_lp, fD_bi, fD_in, cut_rne, Nat.shiftLeft_eq]
  have h1 : max (p - (j : Int) + ((n.log2 + j : Nat) : Int) - ((52 : Nat) : Int)) (-1074) = p + (n.log2 : Int) - 52 := by omega
  have h2 : max (p + (n.log2 : Int) - ((52 : Nat) : Int)) (-1074) = p + (n.log2 : Int) - 52 := by omega
  rw [h1, h2]
  have e0 : (p + (n.log2 : Int) - 52 - p).toNat = 0 := by omega
  have e1 : (p - (p + (n.log2 : Int) - 52)).toNat = 52 - n.log2 := by omega
  rw [e0, e1]
  have hz := rne_mul (n * 2 ^ (52 - n.log2)) 0
  rw [Nat.pow_zero, Nat.mul_one] at hz
  rw [hz]
  by_cases hj : j ≤ 52 - n.log2
  · rw [show (p - (j : Int) - (p + (n.log2 : Int) - 52)).toNat = 52 - n.log2 - j by omega, show (p + (n.log2 : Int) - 52 - (p - (j : Int))).toNat = 0 by omega, Nat.mul_assoc, ← Nat.pow_add, show j + (52 - n.log2 - j) = 52 - n.log2 by omega, hz]
  · obtain ⟨d, hd⟩ : ∃ d, j = (52 - n.log2) + d := ⟨j - (52 - n.log2), by omega⟩
    rw [show (p - (j : Int) - (p + (n.log2 : Int) - 52)).toNat = 0 by omega, show (p + (n.log2 : Int) - 52 - (p - (j : Int))).toNat = d by omega, Nat.pow_zero, Nat.mul_one, hd, Nat.pow_add, ← Nat.mul_assoc, rne_mul]
/-- A single times a power of two, as a double: m, and the place u behind 2 ^ -201. -/
def dW (s : Bool) (m u : Nat) : Nat := fD.nearest s m ((u : Int) - 201)
/-- What such doubles are. -/
structure Dm (m u : Nat) : Prop where
  h0 : m ≠ 0
  hm : m.log2 ≤ 52
  hu : u ≤ 600
theorem Dm.read {s : Bool} {m u : Nat} (h : Dm m u) : fD.read (dW s m u) = .number s (m * 2 ^ (52 - m.log2)) ((u : Int) + (m.log2 : Int) - 253) := by
  have := dbl_readS (s := s) (e := (u : Int) - 201) h.h0 h.hm (by omega) (by have := h.hm; have := h.hu; omega)
  rw [show (u : Int) - 201 + (m.log2 : Int) - 52 = (u : Int) + (m.log2 : Int) - 253 by omega] at this
  exact this
/-- Twice as much. -/
theorem Dm.mul {s : Bool} {m u k : Nat} (h : Dm m u) {B : Nat} (hB : fD.read B = .number false (2 ^ 52) ((k : Int) - 52)) : fop .mul .f64 (some (dW s m u)) (some B) = some (dW s m (u + k)) := by
  show fD.mul _ _ = _
  unfold Ieee.Format.mul
  rw [h.read, hB]
  simp only [Ieee.Datum.product, Option.map_some, Bool.xor_false]
  congr 1
  show fD.nearest s _ _ = fD.nearest s _ _
  have hm := h.hm
  have := dbl_scale (s := s) (n := m) (j := 104 - m.log2) (p := ((u + k : Nat) : Int) - 201) h.h0 h.hm (by omega)
  rw [← this, Nat.mul_assoc, ← Nat.pow_add, show 52 - m.log2 + 52 = 104 - m.log2 by omega]
  congr 1
  omega
/-- The value in units of 2 ^ -253. -/
theorem Dm.val {m u : Nat} (h : Dm m u) : m * 2 ^ (52 - m.log2) * 2 ^ (u + m.log2) = m * 2 ^ u * 2 ^ 52 := by
  have hm := h.hm
  rw [Nat.mul_assoc, ← Nat.pow_add, Nat.mul_assoc, ← Nat.pow_add]
  congr 2
  omega
def sg (s : Bool) (n : Nat) : Int := if s then -(n : Int) else n
theorem signed_sg (s : Bool) (m u : Nat) : Ieee.signed s m u = sg s (m * 2 ^ u) := by
  cases s
  · exact sgn_f m u
  · exact sgn_t m u
theorem sg_mul (s : Bool) (a b : Nat) : sg s (a * b) = sg s a * (b : Int) := by
  unfold sg
  split
  · rw [Int.neg_mul]; push_cast; rfl
  · push_cast; rfl
theorem cmpI (a b : Int) : compare a b = if a < b then .lt else if a = b then .eq else .gt := rfl
theorem cmp_mul {a b : Int} {c : Nat} (hc : 0 < c) : compare (a * c) (b * c) = compare a b := by
  have hc' : (0 : Int) < (c : Int) := by omega
  rw [cmpI, cmpI]
  rcases Int.lt_trichotomy a b with h | h | h
  · rw [if_pos h, if_pos (Int.mul_lt_mul_of_pos_right h hc')]
  · subst h
    rw [if_neg (Int.lt_irrefl _), if_pos rfl, if_neg (Int.lt_irrefl _), if_pos rfl]
  · have h2 : b * c < a * c := Int.mul_lt_mul_of_pos_right h hc'
    rw [if_neg (by omega), if_neg (by omega), if_neg (by omega), if_neg (by omega)]
/-- The order of two numbers, at a common place. -/
theorem order_at {s t : Bool} {m n : Nat} {i j b : Int} (hi : b ≤ i) (hj : b ≤ j) : (Ieee.Datum.number s m i).order (.number t n j) = some (compare (sg s (m * 2 ^ (i - b).toNat)) (sg t (n * 2 ^ (j - b).toNat))) := by
  simp only [Ieee.Datum.order, signed_sg, Option.some.injEq]
  obtain ⟨g, hg⟩ : ∃ g : Nat, min i j = b + (g : Int) := ⟨(min i j - b).toNat, by omega⟩
  rw [hg, show (i - b).toNat = (i - (b + (g : Int))).toNat + g by omega, show (j - b).toNat = (j - (b + (g : Int))).toNat + g by omega, Nat.pow_add, Nat.pow_add, ← Nat.mul_assoc, ← Nat.mul_assoc, sg_mul _ _ (2 ^ g), sg_mul _ _ (2 ^ g), cmp_mul (Nat.two_pow_pos g)]
/-- Two of them held against each other. -/
theorem Dm.order {s t : Bool} {m u n v : Nat} (h : Dm m u) (h2 : Dm n v) : ford .f64 (some (dW s m u)) (some (dW t n v)) = some (compare (sg s (m * 2 ^ u)) (sg t (n * 2 ^ v))) := by
  show fD.order _ _ = _
  unfold Ieee.Format.order
  rw [h.read, h2.read, order_at (b := -253) (by omega) (by omega)]
  rw [show ((u : Int) + (m.log2 : Int) - 253 - -253).toNat = u + m.log2 by omega, show ((v : Int) + (n.log2 : Int) - 253 - -253).toNat = v + n.log2 by omega, h.val, h2.val, sg_mul _ (m * 2 ^ u), sg_mul _ (n * 2 ^ v), cmp_mul (Nat.two_pow_pos 52)]
theorem cut_way {way : Ieee.Toward} {s : Bool} (hw : way = .zero ∨ (way = .down ∧ s = false)) (n d : Nat) : way.cut s n d = n / 2 ^ d := by
  have e : way.cut s n d = Ieee.Toward.down.cut false n d := by
    rcases hw with rfl | ⟨rfl, rfl⟩
    · unfold Ieee.Toward.cut
      simp only [Bool.false_and]
    · rfl
  rw [e, cut_down]
end Go.VL
namespace Go.VL
open Go.RowKit
set_option maxHeartbeats 4000000
theorem whole_eq {A d V c : Nat} (e : A * 2 ^ c = V * 2 ^ d) : A / 2 ^ d = V / 2 ^ c ∧ (A % 2 ^ d = 0 ↔ V % 2 ^ c = 0) := by
  have hc := Nat.two_pow_pos c
  have hd := Nat.two_pow_pos d
  have h1 : A / 2 ^ d = V / 2 ^ c := by
    rw [← Nat.mul_div_mul_right A (2 ^ d) hc, e, Nat.mul_comm (2 ^ d) (2 ^ c), Nat.mul_div_mul_right V (2 ^ c) hd]
  refine ⟨h1, ?_⟩
  have hA := Nat.div_add_mod A (2 ^ d)
  have hV := Nat.div_add_mod V (2 ^ c)
  have e2 : A % 2 ^ d * 2 ^ c = V % 2 ^ c * 2 ^ d := by
    have e3 : (2 ^ d * (A / 2 ^ d) + A % 2 ^ d) * 2 ^ c = (2 ^ c * (V / 2 ^ c) + V % 2 ^ c) * 2 ^ d := by rw [hA, hV, e]
    rw [h1, Nat.add_mul, Nat.add_mul] at e3
    have e4 : 2 ^ d * (V / 2 ^ c) * 2 ^ c = 2 ^ c * (V / 2 ^ c) * 2 ^ d := by ac_rfl
    omega
  constructor
  · intro h
    rw [h, Nat.zero_mul] at e2
    rcases Nat.mul_eq_zero.1 e2.symm with h | h
    · exact h
    · omega
  · intro h
    rw [h, Nat.zero_mul] at e2
    rcases Nat.mul_eq_zero.1 e2 with h | h
    · exact h
    · omega
theorem Dm.place {m u : Nat} (h : Dm m u) : ∃ A d : Nat, (m * 2 ^ (52 - m.log2)) <<< ((u : Int) + (m.log2 : Int) - 253).toNat = A ∧ (-((u : Int) + (m.log2 : Int) - 253)).toNat = d ∧ A * 2 ^ 201 = m * 2 ^ u * 2 ^ d := by
  refine ⟨_, _, rfl, rfl, ?_⟩
  have hm := h.hm
  rw [Nat.shiftLeft_eq, Nat.mul_assoc, Nat.mul_assoc, Nat.mul_assoc, ← Nat.pow_add, ← Nat.pow_add, ← Nat.pow_add]
  congr 2
  omega
theorem Dm.one (K : Nat) (h0 : K ≠ 0) (hK : K.log2 ≤ 52) : Dm K 201 ∧ ∀ s, dW s K 201 = fD.nearest s K 0 := ⟨⟨h0, hK, by omega⟩, fun s => rfl⟩
theorem Dm.toInt {s : Bool} {m u : Nat} (h : Dm m u) : (FloatKind.f64.decode (dW s m u)).toInt .zero = some (sg s (m * 2 ^ u / 2 ^ 201)) := by
  obtain ⟨A, d, h1, h2, h3⟩ := h.place
  show (fD.read (dW s m u)).toInt .zero = _
  rw [h.read]
  unfold Ieee.Datum.toInt
  simp only [Ieee.Datum.integral, h1, h2]
  rw [cut_way (.inl rfl), (whole_eq h3).1, signed_sg, Nat.pow_zero, Nat.mul_one]
theorem Dm.word {m u : Nat} (h : Dm m u) : ∃ r, r < 9218868437227405312 ∧ dW false m u = r ∧ dW true m u = 9223372036854775808 + r := by
  have hm := h.hm
  have hu := h.hu
  refine ⟨wrd m ((u : Int) - 201), wrd_lt h.h0 hm (by omega), ?_, ?_⟩
  · exact near_wrd h.h0 hm (by omega) (by omega)
  · have := near_wrd (s := true) (e := (u : Int) - 201) h.h0 hm (by omega) (by omega)
    unfold dW
    rw [this]
    unfold Ieee.Format.word
    rw [fD_sw]
    rfl
theorem xor_top {n r : Nat} (h : r < 2 ^ n) : (2 ^ n + r) ^^^ 2 ^ n = r := by
  have e : 2 ^ n + r = 2 ^ n ||| r := by
    have := Nat.two_pow_add_eq_or_of_lt h 1
    simpa using this
  rw [e]
  apply Nat.eq_of_testBit_eq
  intro i
  rw [Nat.testBit_xor, Nat.testBit_or, Nat.testBit_two_pow]
  by_cases hi : n = i
  · subst hi
    rw [Nat.testBit_lt_two_pow h]
    simp
  · simp [hi]
theorem Dm.neg {m u : Nat} (h : Dm m u) : Go.Op.negFloat .f64 (dW true m u) = dW false m u := by
  obtain ⟨r, h1, h2, h3⟩ := h.word
  unfold Go.Op.negFloat
  have e : 2 ^ (FloatKind.f64.format.exponentBits + FloatKind.f64.format.fractionBits) = 2 ^ 63 := by decide
  rw [e, h2, h3]
  exact xor_top (n := 63) (by omega)
section
variable {X : Cx} {all r : List Oper} {K : Sl → List Ob → Prop} {sl : Sl} {H : List Ob} {d : Tmp} {ty : TypeId} {ps : String} {af : Array Edge}
end
end Go.VL
namespace Go.VL
open Go.RowKit
section
variable {X : Cx} {g : FuncId} {fn : Func}
end
/-- 999999, in units of 2 ^ -201. -/
def topV : Nat := 999999 * 2 ^ 201
def bigV (V : Nat) : Prop := topV < V
def intV (V : Nat) : Prop := V % 2 ^ 201 = 0
instance (V : Nat) : Decidable (bigV V) := by unfold bigV; infer_instance
instance (V : Nat) : Decidable (intV V) := by unfold intV; infer_instance
section
variable {s : Bool} {m u : Nat} (h : Dm m u)
include h
end
end Go.VL
namespace Go.VL
open Go.RowKit
section
variable {X : Cx} {all r : List Oper} {K : Sl → List Ob → Prop} {sl : Sl} {H : List Ob} {d : Tmp} {ty : TypeId} {ps : String} {af : Array Edge}
theorem v_ineg {t : TypeId} {x : Operand} {k : IntKind} {a : Int} (c : Int) (hx : rho X.G sl x = .c (.v (.int k a))) (hc : k.wrap (0 - a) = c) (h : vops X all r K (upd sl d (.c (.v (.int k c)))) H) : vops X all (⟨some d, .unOp .neg t x, ty, ps, af, none⟩ :: r) K sl H :=
  v_q _ rfl (by simp only [evq, hx, un, Option.map_some, hc]) h
end
end Go.VL
namespace Go.VL
open Go.RowKit
/-- How an element lies: its cells, where its slices are the objects from N on; those objects; it, frozen. -/
structure Nest (α : Type) where
  c : Nat
  K : Nat
  cells : Nat → α → List C
  ks : α → List Ob
  frz : α → List C
structure Nest.Ok {α : Type} (P : Nest α) : Prop where
  ks : ∀ x, (P.ks x).length = P.c
  cl : ∀ N x, (P.cells N x).length = P.K
  fl : ∀ x, (P.frz x).length = P.K
  dn : ∀ {o : Bool} {H : List Ob} {gone : Nat → Prop} {N : Nat} {x : α}, (∀ (j : Nat) (ob : Ob), (P.ks x)[j]? = some ob → H[N + j]? = some ob ∧ gone (N + j)) → DnL o H gone (P.cells N x) (P.frz x)
  live : ∀ x, ∀ o ∈ P.ks x, o.live = true
  sc : ∀ x, ∀ o ∈ P.ks x, ∀ c ∈ o.cs, sc c = true
  tr : ∀ {H : List Ob} {g : List (Option Nat)} {N M : Nat} {x : α}, (∀ j, j < P.c → g[N + j]? = some (some (M + j))) → TrC H g (P.cells M x) (P.cells N x)
  cc : ∀ {N n : Nat} {x : α}, N + P.c ≤ n → ∀ c ∈ P.cells N x, clC n c = true
  ans : ∀ {N : Nat} {x : α}, ∀ c ∈ P.cells N x, ansC c = true
  sh : ∀ {N M : Nat} {x : α}, (P.cells N x).map (shC M) = P.cells (M + N) x
section
variable {α : Type} (P : Nest α)
end
section
variable {α : Type} {P : Nest α} (hP : P.Ok)
include hP
omit hP in
omit hP in
end
end Go.VL
namespace Go.VL
open Go.RowKit
section
variable {α : Type} {P : Nest α} (hP : P.Ok)
include hP
omit hP in
omit hP in
omit hP in
omit hP in
omit hP in
end
section
variable {X : Cx} {all r : List Oper} {K : Sl → List Ob → Prop} {sl : Sl} {H : List Ob} {d : Tmp} {ty : TypeId} {ps : String} {af : Array Edge}
end
end Go.VL
namespace Go.VL
open Go.RowKit
def chkPair2 (x0 y0 : Nat) (M : List Nat) (ops : Array Oper) (e' e : En) (o' o : Oper) : Bool :=
  let b := (M.getD e.i 0).testBit e'.i
  (match o'.dst with
    | some d => (!(o.looksAt ops).contains d || b) && (o.dst != some d)
    | none => true) &&
  (match o.dst with
    | some d => !(o'.looksAt ops).contains d || b
    | none => true) &&
  (e.kind != 1 || ((e'.kind != 1 || b || (e.i == y0 && e'.i == x0)) && (e'.kind != 0 || !sens o'.op || b || e.chk.contains e'.i))) &&
  (e'.kind != 1 || e.kind != 0 || !sens o.op || b)

structure Ord2 (x0 y0 : Nat) (M : List Nat) (ops : Array Oper) (pre : En → Prop) (e : En) (o : Oper) : Prop where
  op : ops[e.i]? = some o
  kind : e.kind ≤ 2
  pair : ∀ e', pre e' → e'.i ≠ e.i ∧ ∃ o', ops[e'.i]? = some o' ∧ chkPair2 x0 y0 M ops e' e o' o = true
  dep : ∀ x ∈ o.after.toList, Region.binds .any x = true → ∃ e', pre e' ∧ e'.i = x.on
  mask : ∀ j, (M.getD e.i 0).testBit j = true → ∃ x ∈ o.after.toList, Region.binds .any x = true ∧ (j = x.on ∨ (M.getD x.on 0).testBit j = true)

section
variable {X : Cx} {m0 : Mem} {Q : Exit → Act → World → Prop}
/-- The run that is told, and its order. -/
structure Told2 (x0 y0 : Nat) (X : Cx) (ops : Array Oper) (M : List Nat) (es : List En) (sl0 : Sl) (T : Nat → St) : Prop where
  t0 : (T 0).sl = sl0
  step : ∀ (p : Nat) (e : En), es[p]? = some e → ∃ o, Step X ops.toList es [] T p e o
  ord : ∀ (p : Nat) (e : En), es[p]? = some e → ∃ o, Ord2 x0 y0 M ops (fun e' => ∃ q : Nat, q < p ∧ es[q]? = some e') e o
  all : ∀ i, i < ops.size → ∃ (p : Nat) (e : En), es[p]? = some e ∧ e.i = i

variable {x0 y0 : Nat} {ops : Array Oper} {M : List Nat} {es : List En} {sl0 : Sl} {T : Nat → St}

theorem Told2.at (h : Told2 x0 y0 X ops M es sl0 T) {p : Nat} {e : En} (he : es[p]? = some e) : ∃ o, ops[e.i]? = some o ∧ Step X ops.toList es [] T p e o ∧ Ord2 x0 y0 M ops (fun e' => ∃ q : Nat, q < p ∧ es[q]? = some e') e o := by
  obtain ⟨o, h1⟩ := h.step p e he
  obtain ⟨o', h2⟩ := h.ord p e he
  have : o' = o := by
    have a1 := h1.op
    have a2 := h2.op
    simp only [Array.getElem?_toList] at a1
    rw [a2] at a1
    exact Option.some.inj a1
  subst this
  exact ⟨o', h2.op, h1, h2⟩

theorem Told2.inj (h : Told2 x0 y0 X ops M es sl0 T) {p q : Nat} {e e' : En} (he : es[p]? = some e) (he' : es[q]? = some e') (hi : e.i = e'.i) : p = q := by
  rcases Nat.lt_trichotomy p q with hlt | rfl | hlt
  · obtain ⟨o, h1, h2, h3⟩ := h.at he'
    exact absurd hi (h3.pair e ⟨p, hlt, he⟩).1
  · rfl
  · obtain ⟨o, h1, h2, h3⟩ := h.at he
    exact absurd hi.symm (h3.pair e' ⟨q, hlt, he'⟩).1

/-- What is asked of two operations. -/
theorem Told2.pair (h : Told2 x0 y0 X ops M es sl0 T) {p q : Nat} {e e' : En} {o o' : Oper} (hlt : q < p) (he : es[p]? = some e) (he' : es[q]? = some e') (ho : ops[e.i]? = some o) (ho' : ops[e'.i]? = some o') :
    (∀ d, o'.dst = some d → (d ∈ o.looksAt ops → (M.getD e.i 0).testBit e'.i = true) ∧ o.dst ≠ some d) ∧ (∀ d, o.dst = some d → d ∈ o'.looksAt ops → (M.getD e.i 0).testBit e'.i = true) ∧
    (e.kind = 1 → e'.kind = 1 → (M.getD e.i 0).testBit e'.i = true ∨ (e.i = y0 ∧ e'.i = x0)) ∧ (e.kind = 1 → e'.kind = 0 → sens o'.op = true → (M.getD e.i 0).testBit e'.i = true ∨ e'.i ∈ e.chk) ∧
    (e'.kind = 1 → e.kind = 0 → sens o.op = true → (M.getD e.i 0).testBit e'.i = true) := by
  obtain ⟨o2, h1, h2, h3⟩ := h.at he
  have : o2 = o := by rw [ho] at h1; exact (Option.some.inj h1).symm
  subst this
  obtain ⟨-, o3, k1, k2⟩ := h3.pair e' ⟨q, hlt, he'⟩
  have : o3 = o' := by rw [ho'] at k1; exact (Option.some.inj k1).symm
  subst this
  unfold chkPair2 at k2
  simp only [Bool.and_eq_true, Bool.or_eq_true, Bool.not_eq_true', beq_iff_eq] at k2
  obtain ⟨⟨⟨a1, a2⟩, a3⟩, a4⟩ := k2
  refine ⟨fun d hd => ?_, fun d hd hm => ?_, fun hk hk' => ?_, fun hk hk' hs => ?_, fun hk' hk hs => ?_⟩
  · rw [hd] at a1
    simp only [Bool.and_eq_true, Bool.or_eq_true, Bool.not_eq_true'] at a1
    refine ⟨fun hm => a1.1.resolve_left (by simpa using hm), fun hh => ?_⟩
    rw [hh] at a1
    simp at a1
  · rw [hd] at a2
    simp only [Bool.or_eq_true, Bool.not_eq_true'] at a2
    exact a2.resolve_left (by simpa using hm)
  · rcases a3 with a3 | a3
    · simp [hk] at a3
    · rcases a3.1 with (a | a) | a
      · simp [hk'] at a
      · exact .inl a
      · exact .inr (by simpa using a)
  · rcases a3 with a3 | a3
    · simp [hk] at a3
    · rcases a3.2 with ((a | a) | a) | a
      · simp [hk'] at a
      · simp [hs] at a
      · exact .inl a
      · exact .inr (by simpa using a)
  · rcases a4 with ((a | a) | a) | a
    · simp [hk'] at a
    · simp [hk] at a
    · simp [hs] at a
    · exact a

theorem Told2.slot (h : Told2 x0 y0 X ops M es sl0 T) (t : Nat) : ∀ p, p ≤ es.length →
    (∀ (q : Nat) (e : En) (o : Oper), q < p → es[q]? = some e → ops[e.i]? = some o → o.dst = some t → (T p).sl t = (T q).v) ∧
    ((∀ (q : Nat) (e : En) (o : Oper), q < p → es[q]? = some e → ops[e.i]? = some o → o.dst ≠ some t) → (T p).sl t = sl0 t)
  | 0, _ => ⟨fun q _ _ hq => absurd hq (Nat.not_lt_zero _), fun _ => by rw [h.t0]⟩
  | p + 1, hp => by
    obtain ⟨i2, i3⟩ := h.slot t p (by omega)
    have he := List.getElem?_eq_getElem (l := es) (i := p) (by omega)
    obtain ⟨o, ho, hst, hor⟩ := h.at he
    rw [hst.sl]
    refine ⟨fun q e' o' hq he' ho' hd => ?_, fun hno => ?_⟩
    · rw [putV_get]
      by_cases hqp : q = p
      · subst hqp
        rw [he] at he'
        have := Option.some.inj he'
        subst this
        have : o = o' := by rw [ho] at ho'; exact Option.some.inj ho'
        subst this
        rw [if_pos hd]
      · have hqp' : q < p := by omega
        obtain ⟨a1, -⟩ := h.pair hqp' he he' ho ho'
        rw [if_neg (a1 t hd).2]
        exact i2 q e' o' hqp' he' ho' hd
    · rw [putV_get, if_neg (hno p _ o (Nat.lt_succ_self p) he ho)]
      exact i3 fun q e' o' hq => hno q e' o' (by omega)

theorem Told2.heap (h : Told2 x0 y0 X ops M es sl0 T) {p p' : Nat} (hle : p ≤ p') (hp' : p' ≤ es.length) (hno : ∀ (r : Nat) (e : En), p ≤ r → r < p' → es[r]? = some e → e.kind ≠ 1) : (T p').H = (T p).H := by
  induction p' with
  | zero => have : p = 0 := by omega
            subst this; rfl
  | succ n ih =>
    by_cases heq : p = n + 1
    · subst heq; rfl
    · have he := List.getElem?_eq_getElem (l := es) (i := n) (by omega)
      obtain ⟨o, ho, hst, hor⟩ := h.at he
      rw [← ih (by omega) (by omega) fun r e hr hr' => hno r e hr (by omega)]
      cases hr : (T n).ran with
      | false => exact (hst.off hr).2
      | true => exact (hst.quiet hr (hno n _ (by omega) (by omega) he)).2

end
section
variable {X : Cx} {m0 : Mem} {Q : Exit → Act → World → Prop} {x0 y0 : Nat} {ops : Array Oper} {M : List Nat} {es : List En} {sl0 : Sl} {T : Nat → St} {K : Sl → List Ob → Prop}
end
section
variable {X : Cx} {m0 : Mem} {Q : Exit → Act → World → Prop} {ops : Array Oper} {M : List Nat} {sl0 : Sl} {K : Sl → List Ob → Prop}
end
section
variable {X : Cx} {n N0 : Nat} {Q : VQ} {sl : Sl} {H : List Ob}
end
end Go.VL
namespace Go.VL
open Go.RowKit
section
variable {X : Cx} {all : List Oper} {r rA rB : List En} {hist : Hist} {K : Sl → List Ob → Prop} {sl : Sl} {H : List Ob} {i : Nat} {chk : List Nat} {d : Tmp} {op : Op} {ty : TypeId} {ps : String} {af : Array Edge} {g : Option (Nat × Bool)}
end
end Go.VL
namespace Go.VL
open Go.RowKit
/-- The objects, one by one; of each its first cells may be kept alone. -/
def TurnT (H : List Ob) (g : List (Option Nat)) : List (Option Nat) → List Ob → Prop
  | [], [] => True
  | none :: gs, o :: os => o.cs = [] ∧ TurnT H g gs os
  | some id :: gs, o' :: os => (∃ (cs : List C) (n : Nat), H[id]? = some ⟨cs, o'.t, true⟩ ∧ TrC H g (cs.take n) o'.cs) ∧ TurnT H g gs os
  | _, _ => False
theorem TurnT.spec {H : List Ob} {g : List (Option Nat)} : ∀ {gs : List (Option Nat)} {os : List Ob}, TurnT H g gs os → gs.length = os.length ∧
    (∀ (i id : Nat) (o' : Ob), os[i]? = some o' → gs[i]? = some (some id) → ∃ (cs : List C) (n : Nat), H[id]? = some ⟨cs, o'.t, true⟩ ∧ TrC H g (cs.take n) o'.cs) ∧ (∀ (i : Nat) (o' : Ob), os[i]? = some o' → gs[i]? = some none → o'.cs = [])
  | [], [], _ => ⟨rfl, fun i id o h => by simp at h, fun i o h => by simp at h⟩
  | none :: gs, o :: os, h => by
    obtain ⟨h1, h2, h3⟩ := h.2.spec
    refine ⟨by simp [h1], fun i id o' ho hg => ?_, fun i o' ho hg => ?_⟩
    · cases i with
      | zero => simp at hg
      | succ i => exact h2 i id o' (by simpa using ho) (by simpa using hg)
    · cases i with
      | zero => simp at ho; subst ho; exact h.1
      | succ i => exact h3 i o' (by simpa using ho) (by simpa using hg)
  | some id0 :: gs, o :: os, h => by
    obtain ⟨h1, h2, h3⟩ := h.2.spec
    refine ⟨by simp [h1], fun i id o' ho hg => ?_, fun i o' ho hg => ?_⟩
    · cases i with
      | zero => simp at ho hg; subst ho hg; exact h.1
      | succ i => exact h2 i id o' (by simpa using ho) (by simpa using hg)
    · cases i with
      | zero => simp at hg
      | succ i => exact h3 i o' (by simpa using ho) (by simpa using hg)
theorem turn_t {N0 : Nat} {sl : Sl} {H H' : List Ob} (g : List (Option Nat)) {l : List (Nat × V)} (hn : nodupO g = true) (hf : fixO g N0 = true) (hlt : (g.all fun x => match x with | some i => Nat.blt i H.length | none => true) = true) (ho : TurnT H g g H') (hs : TrL H g sl l) : Turn N0 sl H (sls l) H' := by
  obtain ⟨h1, h2, h3⟩ := ho.spec
  refine ⟨g, ⟨h1, fixO_spec hf, fun i id o' hi hl hg => ?_, fun i o' hi hl hg => h3 i o' hi hg, nodupO_spec hn, fun i id hi => ?_⟩, hs.spec⟩
  · obtain ⟨cs, n, k1, k2⟩ := h2 i id o' hi hg
    obtain ⟨k3, k4⟩ := k2.spec
    refine ⟨_, k1, rfl, rfl, ?_, fun j c c' hj hj' => ?_⟩
    · rw [k3, List.length_take]
      exact Nat.min_le_right _ _
    · refine k4 j c c' ?_ hj'
      have hlt := (List.getElem?_eq_some_iff.1 hj').1
      rw [k3, List.length_take] at hlt
      rw [List.getElem?_take, if_pos (by omega)]
      exact hj
  · have := List.all_eq_true.1 hlt _ (List.mem_of_getElem? hi)
    exact Nat.le_of_ble_eq_true this
/-- The first things of a row. -/
theorem flat_take {α : Type} {enc : α → List C} {k : Nat} (he : ∀ a, (enc a).length = k) : ∀ (n : Nat) (xs : List α), (flat enc xs).take (n * k) = flat enc (xs.take n)
  | 0, xs => by simp [flat]
  | n + 1, [] => by simp [flat]
  | n + 1, x :: r => by
    rw [flat_cons, List.take_succ_cons, flat_cons, Nat.add_mul, Nat.one_mul, Nat.add_comm, ← he x, List.take_append, List.take_of_length_le (Nat.le_add_right _ _), Nat.add_sub_cancel_left, he x, flat_take he n r]
end Go.VL
set_option maxRecDepth 20000
namespace Go.VL
open Go.RowKit
def layT : List (TypeId × Lay) := [
  (1, ⟨.other, 1, 8, [.nilFunc]⟩),
  (2, ⟨.int .i64, 1, 8, [.int .i64 0]⟩),
  (3, ⟨.int .i64, 1, 8, [.int .i64 0]⟩),
  (4, ⟨.bool, 1, 1, [.bool false]⟩),
  (5, ⟨.int .u8, 1, 1, [.int .u8 0]⟩),
  (6, ⟨.int .u8, 1, 1, [.int .u8 0]⟩),
  (7, ⟨.struct [(2, 0), (3, 1), (4, 2), (6, 3)], 4, 24, [.int .i64 0, .int .i64 0, .bool false, .int .u8 0]⟩),
  (8, ⟨.struct [(2, 0), (3, 1), (4, 2), (6, 3)], 4, 24, [.int .i64 0, .int .i64 0, .bool false, .int .u8 0]⟩),
  (9, ⟨.string, 1, 16, [.string ⟨#[]⟩]⟩),
  (10, ⟨.string, 1, 16, [.string ⟨#[]⟩]⟩),
  (11, ⟨.string, 1, 16, [.string ⟨#[]⟩]⟩),
  (12, ⟨.int .u64, 1, 8, [.int .u64 0]⟩),
  (13, ⟨.struct [(9, 0), (12, 1)], 2, 24, [.string ⟨#[]⟩, .int .u64 0]⟩),
  (14, ⟨.struct [(9, 0), (12, 1)], 2, 24, [.string ⟨#[]⟩, .int .u64 0]⟩),
  (15, ⟨.other, 1, 8, [.pointer none]⟩),
  (16, ⟨.other, 1, 8, [.pointer none]⟩),
  (17, ⟨.other, 1, 8, [.pointer none]⟩),
  (18, ⟨.struct [(17, 0)], 1, 8, [.pointer none]⟩),
  (19, ⟨.struct [(17, 0)], 1, 8, [.pointer none]⟩),
  (21, ⟨.int .i32, 1, 4, [.int .i32 0]⟩),
  (22, ⟨.slice 46, 1, 24, [.slice none 0 0]⟩),
  (24, ⟨.other, 1, 8, [.nilFunc]⟩),
  (25, ⟨.other, 1, 8, [.nilFunc]⟩),
  (26, ⟨.other, 1, 8, [.nilFunc]⟩),
  (27, ⟨.other, 1, 8, [.nilFunc]⟩),
  (28, ⟨.slice 9, 1, 24, [.slice none 0 0]⟩),
  (29, ⟨.other, 1, 8, [.nilFunc]⟩),
  (30, ⟨.other, 1, 8, [.pointer none]⟩),
  (31, ⟨.slice 3, 1, 24, [.slice none 0 0]⟩),
  (32, ⟨.slice 2, 1, 24, [.slice none 0 0]⟩),
  (33, ⟨.struct [(22, 0), (31, 1), (32, 2)], 3, 72, [.slice none 0 0, .slice none 0 0, .slice none 0 0]⟩),
  (34, ⟨.struct [(22, 0), (31, 1), (32, 2)], 3, 72, [.slice none 0 0, .slice none 0 0, .slice none 0 0]⟩),
  (36, ⟨.other, 1, 8, [.nilFunc]⟩),
  (37, ⟨.other, 1, 8, [.nilFunc]⟩),
  (38, ⟨.other, 1, 8, [.pointer none]⟩),
  (39, ⟨.slice 68, 1, 24, [.slice none 0 0]⟩),
  (40, ⟨.struct [(22, 0), (39, 1), (3, 2)], 3, 56, [.slice none 0 0, .slice none 0 0, .int .i64 0]⟩),
  (41, ⟨.struct [(22, 0), (39, 1), (3, 2)], 3, 56, [.slice none 0 0, .slice none 0 0, .int .i64 0]⟩),
  (42, ⟨.other, 1, 8, [.nilFunc]⟩),
  (43, ⟨.other, 1, 8, [.nilFunc]⟩),
  (44, ⟨.float .f32, 1, 4, [.float .f32 0]⟩),
  (45, ⟨.struct [(2, 0), (2, 1), (2, 2), (2, 3), (44, 4)], 5, 40, [.int .i64 0, .int .i64 0, .int .i64 0, .int .i64 0, .float .f32 0]⟩),
  (46, ⟨.struct [(2, 0), (2, 1), (2, 2), (2, 3), (44, 4)], 5, 40, [.int .i64 0, .int .i64 0, .int .i64 0, .int .i64 0, .float .f32 0]⟩),
  (48, ⟨.other, 1, 8, [.nilFunc]⟩),
  (49, ⟨.other, 1, 8, [.nilFunc]⟩),
  (51, ⟨.other, 1, 8, [.nilFunc]⟩),
  (52, ⟨.other, 1, 8, [.nilFunc]⟩),
  (53, ⟨.other, 1, 8, [.nilFunc]⟩),
  (54, ⟨.other, 1, 8, [.nilFunc]⟩),
  (55, ⟨.other, 1, 8, [.nilFunc]⟩),
  (56, ⟨.float .f64, 1, 8, [.float .f64 0]⟩),
  (57, ⟨.other, 1, 8, [.nilFunc]⟩),
  (58, ⟨.slice 4, 1, 24, [.slice none 0 0]⟩),
  (60, ⟨.other, 1, 8, [.nilFunc]⟩),
  (61, ⟨.array 3 2, 3, 24, [.int .i64 0, .int .i64 0, .int .i64 0]⟩),
  (63, ⟨.other, 1, 8, [.nilFunc]⟩),
  (64, ⟨.other, 1, 8, [.nilFunc]⟩),
  (65, ⟨.other, 1, 8, [.nilFunc]⟩),
  (66, ⟨.other, 1, 8, [.nilFunc]⟩),
  (67, ⟨.struct [(3, 0), (2, 1)], 2, 16, [.int .i64 0, .int .i64 0]⟩),
  (68, ⟨.struct [(3, 0), (2, 1)], 2, 16, [.int .i64 0, .int .i64 0]⟩),
  (69, ⟨.other, 1, 8, [.nilFunc]⟩),
  (70, ⟨.slice 72, 1, 24, [.slice none 0 0]⟩),
  (71, ⟨.struct [(9, 0), (3, 1), (4, 2)], 3, 32, [.string ⟨#[]⟩, .int .i64 0, .bool false]⟩),
  (72, ⟨.struct [(9, 0), (3, 1), (4, 2)], 3, 32, [.string ⟨#[]⟩, .int .i64 0, .bool false]⟩),
  (73, ⟨.array 6 72, 18, 192, [.string ⟨#[]⟩, .int .i64 0, .bool false, .string ⟨#[]⟩, .int .i64 0, .bool false, .string ⟨#[]⟩, .int .i64 0, .bool false, .string ⟨#[]⟩, .int .i64 0, .bool false, .string ⟨#[]⟩, .int .i64 0, .bool false, .string ⟨#[]⟩, .int .i64 0, .bool false]⟩),
  (74, ⟨.other, 1, 8, [.nilFunc]⟩),
  (75, ⟨.other, 1, 8, [.pointer none]⟩),
  (76, ⟨.array 3 75, 3, 24, [.pointer none, .pointer none, .pointer none]⟩),
  (77, ⟨.other, 1, 8, [.nilFunc]⟩),
  (78, ⟨.other, 1, 8, [.nilFunc]⟩),
  (80, ⟨.other, 1, 8, [.nilFunc]⟩),
  (82, ⟨.other, 1, 8, [.nilFunc]⟩),
  (83, ⟨.other, 1, 8, [.nilFunc]⟩),
  (85, ⟨.other, 1, 8, [.nilFunc]⟩),
  (86, ⟨.other, 1, 8, [.nilFunc]⟩),
  (90, ⟨.other, 1, 8, [.nilFunc]⟩),
  (91, ⟨.other, 1, 8, [.nilFunc]⟩),
  (92, ⟨.other, 1, 8, [.nilFunc]⟩),
  (93, ⟨.int .u64, 1, 8, [.int .u64 0]⟩),
  (94, ⟨.other, 1, 8, [.nilFunc]⟩),
  (95, ⟨.other, 1, 8, [.nilFunc]⟩),
  (96, ⟨.other, 1, 8, [.nilFunc]⟩),
  (97, ⟨.array 256 5, 256, 256, [.int .u8 0, .int .u8 0, .int .u8 0, .int .u8 0, .int .u8 0, .int .u8 0, .int .u8 0, .int .u8 0, .int .u8 0, .int .u8 0, .int .u8 0, .int .u8 0, .int .u8 0, .int .u8 0, .int .u8 0, .int .u8 0, .int .u8 0, .int .u8 0, .int .u8 0, .int .u8 0, .int .u8 0, .int .u8 0, .int .u8 0, .int .u8 0, .int .u8 0, .int .u8 0, .int .u8 0, .int .u8 0, .int .u8 0, .int .u8 0, .int .u8 0, .int .u8 0, .int .u8 0, .int .u8 0, .int .u8 0, .int .u8 0, .int .u8 0, .int .u8 0, .int .u8 0, .int .u8 0, .int .u8 0, .int .u8 0, .int .u8 0, .int .u8 0, .int .u8 0, .int .u8 0, .int .u8 0, .int .u8 0, .int .u8 0, .int .u8 0, .int .u8 0, .int .u8 0, .int .u8 0, .int .u8 0, .int .u8 0, .int .u8 0, .int .u8 0, .int .u8 0, .int .u8 0, .int .u8 0, .int .u8 0, .int .u8 0, .int .u8 0, .int .u8 0, .int .u8 0, .int .u8 0, .int .u8 0, .int .u8 0, .int .u8 0, .int .u8 0, .int .u8 0, .int .u8 0, .int .u8 0, .int .u8 0, .int .u8 0, .int .u8 0, .int .u8 0, .int .u8 0, .int .u8 0, .int .u8 0, .int .u8 0, .int .u8 0, .int .u8 0, .int .u8 0, .int .u8 0, .int .u8 0, .int .u8 0, .int .u8 0, .int .u8 0, .int .u8 0, .int .u8 0, .int .u8 0, .int .u8 0, .int .u8 0, .int .u8 0, .int .u8 0, .int .u8 0, .int .u8 0, .int .u8 0, .int .u8 0, .int .u8 0, .int .u8 0, .int .u8 0, .int .u8 0, .int .u8 0, .int .u8 0, .int .u8 0, .int .u8 0, .int .u8 0, .int .u8 0, .int .u8 0, .int .u8 0, .int .u8 0, .int .u8 0, .int .u8 0, .int .u8 0, .int .u8 0, .int .u8 0, .int .u8 0, .int .u8 0, .int .u8 0, .int .u8 0, .int .u8 0, .int .u8 0, .int .u8 0, .int .u8 0, .int .u8 0, .int .u8 0, .int .u8 0, .int .u8 0, .int .u8 0, .int .u8 0, .int .u8 0, .int .u8 0, .int .u8 0, .int .u8 0, .int .u8 0, .int .u8 0, .int .u8 0, .int .u8 0, .int .u8 0, .int .u8 0, .int .u8 0, .int .u8 0, .int .u8 0, .int .u8 0, .int .u8 0, .int .u8 0, .int .u8 0, .int .u8 0, .int .u8 0, .int .u8 0, .int .u8 0, .int .u8 0, .int .u8 0, .int .u8 0, .int .u8 0, .int .u8 0, .int .u8 0, .int .u8 0, .int .u8 0, .int .u8 0, .int .u8 0, .int .u8 0, .int .u8 0, .int .u8 0, .int .u8 0, .int .u8 0, .int .u8 0, .int .u8 0, .int .u8 0, .int .u8 0, .int .u8 0, .int .u8 0, .int .u8 0, .int .u8 0, .int .u8 0, .int .u8 0, .int .u8 0, .int .u8 0, .int .u8 0, .int .u8 0, .int .u8 0, .int .u8 0, .int .u8 0, .int .u8 0, .int .u8 0, .int .u8 0, .int .u8 0, .int .u8 0, .int .u8 0, .int .u8 0, .int .u8 0, .int .u8 0, .int .u8 0, .int .u8 0, .int .u8 0, .int .u8 0, .int .u8 0, .int .u8 0, .int .u8 0, .int .u8 0, .int .u8 0, .int .u8 0, .int .u8 0, .int .u8 0, .int .u8 0, .int .u8 0, .int .u8 0, .int .u8 0, .int .u8 0, .int .u8 0, .int .u8 0, .int .u8 0, .int .u8 0, .int .u8 0, .int .u8 0, .int .u8 0, .int .u8 0, .int .u8 0, .int .u8 0, .int .u8 0, .int .u8 0, .int .u8 0, .int .u8 0, .int .u8 0, .int .u8 0, .int .u8 0, .int .u8 0, .int .u8 0, .int .u8 0, .int .u8 0, .int .u8 0, .int .u8 0, .int .u8 0, .int .u8 0, .int .u8 0, .int .u8 0, .int .u8 0, .int .u8 0, .int .u8 0, .int .u8 0, .int .u8 0, .int .u8 0, .int .u8 0, .int .u8 0, .int .u8 0, .int .u8 0, .int .u8 0, .int .u8 0, .int .u8 0, .int .u8 0, .int .u8 0, .int .u8 0, .int .u8 0, .int .u8 0]⟩),
  (98, ⟨.struct [(5, 0), (5, 1)], 2, 2, [.int .u8 0, .int .u8 0]⟩),
  (99, ⟨.struct [(5, 0), (5, 1)], 2, 2, [.int .u8 0, .int .u8 0]⟩),
  (100, ⟨.array 16 99, 32, 32, [.int .u8 0, .int .u8 0, .int .u8 0, .int .u8 0, .int .u8 0, .int .u8 0, .int .u8 0, .int .u8 0, .int .u8 0, .int .u8 0, .int .u8 0, .int .u8 0, .int .u8 0, .int .u8 0, .int .u8 0, .int .u8 0, .int .u8 0, .int .u8 0, .int .u8 0, .int .u8 0, .int .u8 0, .int .u8 0, .int .u8 0, .int .u8 0, .int .u8 0, .int .u8 0, .int .u8 0, .int .u8 0, .int .u8 0, .int .u8 0, .int .u8 0, .int .u8 0]⟩),
  (101, ⟨.int .u32, 1, 4, [.int .u32 0]⟩),
  (103, ⟨.other, 1, 8, [.nilFunc]⟩),
  (104, ⟨.int .i64, 1, 8, [.int .i64 0]⟩),
  (105, ⟨.int .u64, 1, 8, [.int .u64 0]⟩),
  (107, ⟨.other, 1, 8, [.nilFunc]⟩),
  (108, ⟨.other, 1, 8, [.pointer none]⟩),
  (109, ⟨.other, 1, 8, [.nilFunc]⟩),
  (110, ⟨.other, 1, 8, [.nilFunc]⟩),
  (111, ⟨.other, 1, 8, [.nilFunc]⟩),
  (112, ⟨.slice 5, 1, 24, [.slice none 0 0]⟩),
  (113, ⟨.other, 1, 8, [.nilFunc]⟩),
  (116, ⟨.other, 1, 8, [.nilFunc]⟩),
  (117, ⟨.other, 1, 8, [.nilFunc]⟩),
  (118, ⟨.array 24 5, 24, 24, [.int .u8 0, .int .u8 0, .int .u8 0, .int .u8 0, .int .u8 0, .int .u8 0, .int .u8 0, .int .u8 0, .int .u8 0, .int .u8 0, .int .u8 0, .int .u8 0, .int .u8 0, .int .u8 0, .int .u8 0, .int .u8 0, .int .u8 0, .int .u8 0, .int .u8 0, .int .u8 0, .int .u8 0, .int .u8 0, .int .u8 0, .int .u8 0]⟩),
  (119, ⟨.other, 1, 8, [.nilFunc]⟩),
  (120, ⟨.other, 1, 8, [.nilFunc]⟩),
  (122, ⟨.other, 1, 8, [.nilFunc]⟩),
  (123, ⟨.other, 1, 8, [.pointer none]⟩),
  (124, ⟨.other, 1, 8, [.pointer none]⟩),
  (125, ⟨.struct [(9, 0)], 1, 16, [.string ⟨#[]⟩]⟩),
  (126, ⟨.struct [(9, 0)], 1, 16, [.string ⟨#[]⟩]⟩),
  (127, ⟨.other, 1, 8, [.nilFunc]⟩),
  (128, ⟨.array 20 105, 20, 160, [.int .u64 0, .int .u64 0, .int .u64 0, .int .u64 0, .int .u64 0, .int .u64 0, .int .u64 0, .int .u64 0, .int .u64 0, .int .u64 0, .int .u64 0, .int .u64 0, .int .u64 0, .int .u64 0, .int .u64 0, .int .u64 0, .int .u64 0, .int .u64 0, .int .u64 0, .int .u64 0]⟩),
  (129, ⟨.array 65 5, 65, 65, [.int .u8 0, .int .u8 0, .int .u8 0, .int .u8 0, .int .u8 0, .int .u8 0, .int .u8 0, .int .u8 0, .int .u8 0, .int .u8 0, .int .u8 0, .int .u8 0, .int .u8 0, .int .u8 0, .int .u8 0, .int .u8 0, .int .u8 0, .int .u8 0, .int .u8 0, .int .u8 0, .int .u8 0, .int .u8 0, .int .u8 0, .int .u8 0, .int .u8 0, .int .u8 0, .int .u8 0, .int .u8 0, .int .u8 0, .int .u8 0, .int .u8 0, .int .u8 0, .int .u8 0, .int .u8 0, .int .u8 0, .int .u8 0, .int .u8 0, .int .u8 0, .int .u8 0, .int .u8 0, .int .u8 0, .int .u8 0, .int .u8 0, .int .u8 0, .int .u8 0, .int .u8 0, .int .u8 0, .int .u8 0, .int .u8 0, .int .u8 0, .int .u8 0, .int .u8 0, .int .u8 0, .int .u8 0, .int .u8 0, .int .u8 0, .int .u8 0, .int .u8 0, .int .u8 0, .int .u8 0, .int .u8 0, .int .u8 0, .int .u8 0, .int .u8 0, .int .u8 0]⟩),
  (130, ⟨.other, 1, 8, [.nilFunc]⟩),
  (131, ⟨.other, 1, 8, [.nilFunc]⟩),
  (132, ⟨.other, 1, 8, [.nilFunc]⟩),
  (133, ⟨.array 32 5, 32, 32, [.int .u8 0, .int .u8 0, .int .u8 0, .int .u8 0, .int .u8 0, .int .u8 0, .int .u8 0, .int .u8 0, .int .u8 0, .int .u8 0, .int .u8 0, .int .u8 0, .int .u8 0, .int .u8 0, .int .u8 0, .int .u8 0, .int .u8 0, .int .u8 0, .int .u8 0, .int .u8 0, .int .u8 0, .int .u8 0, .int .u8 0, .int .u8 0, .int .u8 0, .int .u8 0, .int .u8 0, .int .u8 0, .int .u8 0, .int .u8 0, .int .u8 0, .int .u8 0]⟩),
  (134, ⟨.array 64 5, 64, 64, [.int .u8 0, .int .u8 0, .int .u8 0, .int .u8 0, .int .u8 0, .int .u8 0, .int .u8 0, .int .u8 0, .int .u8 0, .int .u8 0, .int .u8 0, .int .u8 0, .int .u8 0, .int .u8 0, .int .u8 0, .int .u8 0, .int .u8 0, .int .u8 0, .int .u8 0, .int .u8 0, .int .u8 0, .int .u8 0, .int .u8 0, .int .u8 0, .int .u8 0, .int .u8 0, .int .u8 0, .int .u8 0, .int .u8 0, .int .u8 0, .int .u8 0, .int .u8 0, .int .u8 0, .int .u8 0, .int .u8 0, .int .u8 0, .int .u8 0, .int .u8 0, .int .u8 0, .int .u8 0, .int .u8 0, .int .u8 0, .int .u8 0, .int .u8 0, .int .u8 0, .int .u8 0, .int .u8 0, .int .u8 0, .int .u8 0, .int .u8 0, .int .u8 0, .int .u8 0, .int .u8 0, .int .u8 0, .int .u8 0, .int .u8 0, .int .u8 0, .int .u8 0, .int .u8 0, .int .u8 0, .int .u8 0, .int .u8 0, .int .u8 0, .int .u8 0]⟩),
  (135, ⟨.other, 1, 8, [.nilFunc]⟩),
  (136, ⟨.struct [(17, 0), (17, 1), (17, 2), (9, 3)], 4, 40, [.pointer none, .pointer none, .pointer none, .string ⟨#[]⟩]⟩),
  (137, ⟨.struct [(17, 0), (17, 1), (17, 2), (9, 3)], 4, 40, [.pointer none, .pointer none, .pointer none, .string ⟨#[]⟩]⟩),
  (138, ⟨.array 0 16, 0, 0, []⟩),
  (141, ⟨.other, 1, 8, [.nilFunc]⟩),
  (142, ⟨.int .u8, 1, 1, [.int .u8 0]⟩),
  (143, ⟨.int .u8, 1, 1, [.int .u8 0]⟩),
  (144, ⟨.other, 1, 8, [.nilFunc]⟩),
  (145, ⟨.int .i32, 1, 4, [.int .i32 0]⟩),
  (146, ⟨.int .i32, 1, 4, [.int .i32 0]⟩),
  (147, ⟨.struct [(12, 0), (12, 1), (101, 2), (142, 3), (5, 4), (5, 5), (143, 6), (144, 7), (123, 8), (145, 9), (146, 10)], 11, 48, [.int .u64 0, .int .u64 0, .int .u32 0, .int .u8 0, .int .u8 0, .int .u8 0, .int .u8 0, .nilFunc, .pointer none, .int .i32 0, .int .i32 0]⟩),
  (148, ⟨.struct [(12, 0), (12, 1), (101, 2), (142, 3), (5, 4), (5, 5), (143, 6), (144, 7), (123, 8), (145, 9), (146, 10)], 11, 48, [.int .u64 0, .int .u64 0, .int .u32 0, .int .u8 0, .int .u8 0, .int .u8 0, .int .u8 0, .nilFunc, .pointer none, .int .i32 0, .int .i32 0]⟩)]
theorem layT_ok : ∀ p ∈ layT, layOf Go.Proofs.Tryd.prog p.1 = some p.2 := by
  unfold layT
  refine List.forall_mem_cons.2 ⟨by kernel_rfl, ?_⟩
  refine List.forall_mem_cons.2 ⟨by kernel_rfl, ?_⟩
  refine List.forall_mem_cons.2 ⟨by kernel_rfl, ?_⟩
  refine List.forall_mem_cons.2 ⟨by kernel_rfl, ?_⟩
  refine List.forall_mem_cons.2 ⟨by kernel_rfl, ?_⟩
  refine List.forall_mem_cons.2 ⟨by kernel_rfl, ?_⟩
  refine List.forall_mem_cons.2 ⟨by kernel_rfl, ?_⟩
  refine List.forall_mem_cons.2 ⟨by kernel_rfl, ?_⟩
  refine List.forall_mem_cons.2 ⟨by kernel_rfl, ?_⟩
  refine List.forall_mem_cons.2 ⟨by kernel_rfl, ?_⟩
  refine List.forall_mem_cons.2 ⟨by kernel_rfl, ?_⟩
  refine List.forall_mem_cons.2 ⟨by kernel_rfl, ?_⟩
  refine List.forall_mem_cons.2 ⟨by kernel_rfl, ?_⟩
  refine List.forall_mem_cons.2 ⟨by kernel_rfl, ?_⟩
  refine List.forall_mem_cons.2 ⟨by kernel_rfl, ?_⟩
  refine List.forall_mem_cons.2 ⟨by kernel_rfl, ?_⟩
  refine List.forall_mem_cons.2 ⟨by kernel_rfl, ?_⟩
  refine List.forall_mem_cons.2 ⟨by kernel_rfl, ?_⟩
  refine List.forall_mem_cons.2 ⟨by kernel_rfl, ?_⟩
  refine List.forall_mem_cons.2 ⟨by kernel_rfl, ?_⟩
  refine List.forall_mem_cons.2 ⟨by kernel_rfl, ?_⟩
  refine List.forall_mem_cons.2 ⟨by kernel_rfl, ?_⟩
  refine List.forall_mem_cons.2 ⟨by kernel_rfl, ?_⟩
  refine List.forall_mem_cons.2 ⟨by kernel_rfl, ?_⟩
  refine List.forall_mem_cons.2 ⟨by kernel_rfl, ?_⟩
  refine List.forall_mem_cons.2 ⟨by kernel_rfl, ?_⟩
  refine List.forall_mem_cons.2 ⟨by kernel_rfl, ?_⟩
  refine List.forall_mem_cons.2 ⟨by kernel_rfl, ?_⟩
  refine List.forall_mem_cons.2 ⟨by kernel_rfl, ?_⟩
  refine List.forall_mem_cons.2 ⟨by kernel_rfl, ?_⟩
  refine List.forall_mem_cons.2 ⟨by kernel_rfl, ?_⟩
  refine List.forall_mem_cons.2 ⟨by kernel_rfl, ?_⟩
  refine List.forall_mem_cons.2 ⟨by kernel_rfl, ?_⟩
  refine List.forall_mem_cons.2 ⟨by kernel_rfl, ?_⟩
  refine List.forall_mem_cons.2 ⟨by kernel_rfl, ?_⟩
  refine List.forall_mem_cons.2 ⟨by kernel_rfl, ?_⟩
  refine List.forall_mem_cons.2 ⟨by kernel_rfl, ?_⟩
  refine List.forall_mem_cons.2 ⟨by kernel_rfl, ?_⟩
  refine List.forall_mem_cons.2 ⟨by kernel_rfl, ?_⟩
  refine List.forall_mem_cons.2 ⟨by kernel_rfl, ?_⟩
  refine List.forall_mem_cons.2 ⟨by kernel_rfl, ?_⟩
  refine List.forall_mem_cons.2 ⟨by kernel_rfl, ?_⟩
  refine List.forall_mem_cons.2 ⟨by kernel_rfl, ?_⟩
  refine List.forall_mem_cons.2 ⟨by kernel_rfl, ?_⟩
  refine List.forall_mem_cons.2 ⟨by kernel_rfl, ?_⟩
  refine List.forall_mem_cons.2 ⟨by kernel_rfl, ?_⟩
  refine List.forall_mem_cons.2 ⟨by kernel_rfl, ?_⟩
  refine List.forall_mem_cons.2 ⟨by kernel_rfl, ?_⟩
  refine List.forall_mem_cons.2 ⟨by kernel_rfl, ?_⟩
  refine List.forall_mem_cons.2 ⟨by kernel_rfl, ?_⟩
  refine List.forall_mem_cons.2 ⟨by kernel_rfl, ?_⟩
  refine List.forall_mem_cons.2 ⟨by kernel_rfl, ?_⟩
  refine List.forall_mem_cons.2 ⟨by kernel_rfl, ?_⟩
  refine List.forall_mem_cons.2 ⟨by kernel_rfl, ?_⟩
  refine List.forall_mem_cons.2 ⟨by kernel_rfl, ?_⟩
  refine List.forall_mem_cons.2 ⟨by kernel_rfl, ?_⟩
  refine List.forall_mem_cons.2 ⟨by kernel_rfl, ?_⟩
  refine List.forall_mem_cons.2 ⟨by kernel_rfl, ?_⟩
  refine List.forall_mem_cons.2 ⟨by kernel_rfl, ?_⟩
  refine List.forall_mem_cons.2 ⟨by kernel_rfl, ?_⟩
  refine List.forall_mem_cons.2 ⟨by kernel_rfl, ?_⟩
  refine List.forall_mem_cons.2 ⟨by kernel_rfl, ?_⟩
  refine List.forall_mem_cons.2 ⟨by kernel_rfl, ?_⟩
  refine List.forall_mem_cons.2 ⟨by kernel_rfl, ?_⟩
  refine List.forall_mem_cons.2 ⟨by kernel_rfl, ?_⟩
  refine List.forall_mem_cons.2 ⟨by kernel_rfl, ?_⟩
  refine List.forall_mem_cons.2 ⟨by kernel_rfl, ?_⟩
  refine List.forall_mem_cons.2 ⟨by kernel_rfl, ?_⟩
  refine List.forall_mem_cons.2 ⟨by kernel_rfl, ?_⟩
  refine List.forall_mem_cons.2 ⟨by kernel_rfl, ?_⟩
  refine List.forall_mem_cons.2 ⟨by kernel_rfl, ?_⟩
  refine List.forall_mem_cons.2 ⟨by kernel_rfl, ?_⟩
  refine List.forall_mem_cons.2 ⟨by kernel_rfl, ?_⟩
  refine List.forall_mem_cons.2 ⟨by kernel_rfl, ?_⟩
  refine List.forall_mem_cons.2 ⟨by kernel_rfl, ?_⟩
  refine List.forall_mem_cons.2 ⟨by kernel_rfl, ?_⟩
  refine List.forall_mem_cons.2 ⟨by kernel_rfl, ?_⟩
  refine List.forall_mem_cons.2 ⟨by kernel_rfl, ?_⟩
  refine List.forall_mem_cons.2 ⟨by kernel_rfl, ?_⟩
  refine List.forall_mem_cons.2 ⟨by kernel_rfl, ?_⟩
  refine List.forall_mem_cons.2 ⟨by kernel_rfl, ?_⟩
  refine List.forall_mem_cons.2 ⟨by kernel_rfl, ?_⟩
  refine List.forall_mem_cons.2 ⟨by kernel_rfl, ?_⟩
  refine List.forall_mem_cons.2 ⟨by kernel_rfl, ?_⟩
  refine List.forall_mem_cons.2 ⟨by kernel_rfl, ?_⟩
  refine List.forall_mem_cons.2 ⟨by kernel_rfl, ?_⟩
  refine List.forall_mem_cons.2 ⟨by kernel_rfl, ?_⟩
  refine List.forall_mem_cons.2 ⟨by kernel_rfl, ?_⟩
  refine List.forall_mem_cons.2 ⟨by kernel_rfl, ?_⟩
  refine List.forall_mem_cons.2 ⟨by kernel_rfl, ?_⟩
  refine List.forall_mem_cons.2 ⟨by kernel_rfl, ?_⟩
  refine List.forall_mem_cons.2 ⟨by kernel_rfl, ?_⟩
  refine List.forall_mem_cons.2 ⟨by kernel_rfl, ?_⟩
  refine List.forall_mem_cons.2 ⟨by kernel_rfl, ?_⟩
  refine List.forall_mem_cons.2 ⟨by kernel_rfl, ?_⟩
  refine List.forall_mem_cons.2 ⟨by kernel_rfl, ?_⟩
  refine List.forall_mem_cons.2 ⟨by kernel_rfl, ?_⟩
  refine List.forall_mem_cons.2 ⟨by kernel_rfl, ?_⟩
  refine List.forall_mem_cons.2 ⟨by kernel_rfl, ?_⟩
  refine List.forall_mem_cons.2 ⟨by kernel_rfl, ?_⟩
  refine List.forall_mem_cons.2 ⟨by kernel_rfl, ?_⟩
  refine List.forall_mem_cons.2 ⟨by kernel_rfl, ?_⟩
  refine List.forall_mem_cons.2 ⟨by kernel_rfl, ?_⟩
  refine List.forall_mem_cons.2 ⟨by kernel_rfl, ?_⟩
  refine List.forall_mem_cons.2 ⟨by kernel_rfl, ?_⟩
  refine List.forall_mem_cons.2 ⟨by kernel_rfl, ?_⟩
  refine List.forall_mem_cons.2 ⟨by kernel_rfl, ?_⟩
  refine List.forall_mem_cons.2 ⟨by kernel_rfl, ?_⟩
  refine List.forall_mem_cons.2 ⟨by kernel_rfl, ?_⟩
  refine List.forall_mem_cons.2 ⟨by kernel_rfl, ?_⟩
  refine List.forall_mem_cons.2 ⟨by kernel_rfl, ?_⟩
  refine List.forall_mem_cons.2 ⟨by kernel_rfl, ?_⟩
  refine List.forall_mem_cons.2 ⟨by kernel_rfl, ?_⟩
  refine List.forall_mem_cons.2 ⟨by kernel_rfl, ?_⟩
  refine List.forall_mem_cons.2 ⟨by kernel_rfl, ?_⟩
  refine List.forall_mem_cons.2 ⟨by kernel_rfl, ?_⟩
  refine List.forall_mem_cons.2 ⟨by kernel_rfl, ?_⟩
  refine List.forall_mem_cons.2 ⟨by kernel_rfl, ?_⟩
  refine List.forall_mem_cons.2 ⟨by kernel_rfl, ?_⟩
  refine List.forall_mem_cons.2 ⟨by kernel_rfl, ?_⟩
  refine List.forall_mem_cons.2 ⟨by kernel_rfl, ?_⟩
  refine List.forall_mem_cons.2 ⟨by kernel_rfl, ?_⟩
  refine List.forall_mem_cons.2 ⟨by kernel_rfl, ?_⟩
  refine List.forall_mem_cons.2 ⟨by kernel_rfl, ?_⟩
  refine List.forall_mem_cons.2 ⟨by kernel_rfl, ?_⟩
  refine List.forall_mem_cons.2 ⟨by kernel_rfl, ?_⟩
  refine List.forall_mem_cons.2 ⟨by kernel_rfl, ?_⟩
  refine List.forall_mem_cons.2 ⟨by kernel_rfl, ?_⟩
  exact fun p hp => absurd hp List.not_mem_nil
theorem mem_of_lookup {t : TypeId} {L : Lay} : ∀ {l : List (TypeId × Lay)}, l.lookup t = some L → (t, L) ∈ l
  | [], h => by simp at h
  | (a, b) :: l, h => by
    simp only [List.lookup] at h
    split at h
    · rename_i he
      simp only [beq_iff_eq, Option.some.injEq] at he h
      subst he h
      exact List.mem_cons_self
    · exact List.mem_cons_of_mem _ (mem_of_lookup h)
/-- The forms of acts. -/
def formL : List (List UInt8 × Int × Bool) := [([111, 102, 102, 101, 114], 1, true), ([98, 108, 111, 99, 107], 2, true), ([112, 108, 97, 110], 2, false), ([102, 114, 101, 101], 1, false), ([116, 117, 114, 110], 3, true), ([119, 97, 105, 116], 1, false)]
/-- What two variables of errors hold: not known. -/
def Env : Type := {p : Value × Value // (p.1 = .nilIface ∨ ∃ t v, p.1 = .iface t v) ∧ (p.2 = .nilIface ∨ ∃ t v, p.2 = .iface t v)}
variable [Inhabited Env]
def ev1 : Value := (default : Env).val.1
def ev2 : Value := (default : Env).val.2
theorem ev1_is : ev1 = .nilIface ∨ ∃ t v, ev1 = .iface t v := (default : Env).property.1
theorem ev2_is : ev2 = .nilIface ∨ ∃ t v, ev2 = .iface t v := (default : Env).property.2
/-- What the program has laid. -/
def GL : Glob := [(0, formL.flatMap fun f => [.string (tx f.1), .int .i64 f.2.1, .bool f.2.2]), (6, Lib.pow10Tab.map (Value.int .u64)), (4, [ev1]), (5, [ev2])]
noncomputable def X : Cx := ⟨Go.Proofs.Tryd.prog, fun t => layT.lookup t, fun t L h => layOf_ok (layT_ok (t, L) (mem_of_lookup h)), GL, by kernel_rfl⟩
theorem lay2 : X.lay 2 = some ⟨.int .i64, 1, 8, [.int .i64 0]⟩ := by kernel_rfl
theorem lay3 : X.lay 3 = some ⟨.int .i64, 1, 8, [.int .i64 0]⟩ := by kernel_rfl
theorem lay4 : X.lay 4 = some ⟨.bool, 1, 1, [.bool false]⟩ := by kernel_rfl
theorem lay5 : X.lay 5 = some ⟨.int .u8, 1, 1, [.int .u8 0]⟩ := by kernel_rfl
theorem lay9 : X.lay 9 = some ⟨.string, 1, 16, [.string ⟨#[]⟩]⟩ := by kernel_rfl
theorem lay22 : X.lay 22 = some ⟨.slice 46, 1, 24, [.slice none 0 0]⟩ := by kernel_rfl
theorem lay28 : X.lay 28 = some ⟨.slice 9, 1, 24, [.slice none 0 0]⟩ := by kernel_rfl
theorem lay31 : X.lay 31 = some ⟨.slice 3, 1, 24, [.slice none 0 0]⟩ := by kernel_rfl
theorem lay32 : X.lay 32 = some ⟨.slice 2, 1, 24, [.slice none 0 0]⟩ := by kernel_rfl
theorem lay34 : X.lay 34 = some ⟨.struct [(22, 0), (31, 1), (32, 2)], 3, 72, [.slice none 0 0, .slice none 0 0, .slice none 0 0]⟩ := by kernel_rfl
theorem lay39 : X.lay 39 = some ⟨.slice 68, 1, 24, [.slice none 0 0]⟩ := by kernel_rfl
theorem lay41 : X.lay 41 = some ⟨.struct [(22, 0), (39, 1), (3, 2)], 3, 56, [.slice none 0 0, .slice none 0 0, .int .i64 0]⟩ := by kernel_rfl
theorem lay44 : X.lay 44 = some ⟨.float .f32, 1, 4, [.float .f32 0]⟩ := by kernel_rfl
theorem lay46 : X.lay 46 = some ⟨.struct [(2, 0), (2, 1), (2, 2), (2, 3), (44, 4)], 5, 40, [.int .i64 0, .int .i64 0, .int .i64 0, .int .i64 0, .float .f32 0]⟩ := by kernel_rfl
theorem lay56 : X.lay 56 = some ⟨.float .f64, 1, 8, [.float .f64 0]⟩ := by kernel_rfl
theorem lay58 : X.lay 58 = some ⟨.slice 4, 1, 24, [.slice none 0 0]⟩ := by kernel_rfl
theorem lay61 : X.lay 61 = some ⟨.array 3 2, 3, 24, [.int .i64 0, .int .i64 0, .int .i64 0]⟩ := by kernel_rfl
theorem lay68 : X.lay 68 = some ⟨.struct [(3, 0), (2, 1)], 2, 16, [.int .i64 0, .int .i64 0]⟩ := by kernel_rfl
theorem lay70 : X.lay 70 = some ⟨.slice 72, 1, 24, [.slice none 0 0]⟩ := by kernel_rfl
theorem lay72 : X.lay 72 = some ⟨.struct [(9, 0), (3, 1), (4, 2)], 3, 32, [.string ⟨#[]⟩, .int .i64 0, .bool false]⟩ := by kernel_rfl
theorem lay73 : X.lay 73 = some ⟨.array 6 72, 18, 192, [.string ⟨#[]⟩, .int .i64 0, .bool false, .string ⟨#[]⟩, .int .i64 0, .bool false, .string ⟨#[]⟩, .int .i64 0, .bool false, .string ⟨#[]⟩, .int .i64 0, .bool false, .string ⟨#[]⟩, .int .i64 0, .bool false, .string ⟨#[]⟩, .int .i64 0, .bool false]⟩ := by kernel_rfl
theorem lay75 : X.lay 75 = some ⟨.other, 1, 8, [.pointer none]⟩ := by kernel_rfl
theorem lay76 : X.lay 76 = some ⟨.array 3 75, 3, 24, [.pointer none, .pointer none, .pointer none]⟩ := by kernel_rfl
end Go.VL
