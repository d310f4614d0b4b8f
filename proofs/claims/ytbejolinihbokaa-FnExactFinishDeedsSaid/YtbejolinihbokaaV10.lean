/- A function's body, on data. Over any program. -/
import Derived.Test.YtbejolinihbokaaV9
namespace Go.VL
open Go.RowKit

/-- The memory looked at anew, some slots forgotten. -/
def Turn (N0 : Nat) (sl : Sl) (H : List Ob) (sl' : Sl) (H' : List Ob) : Prop := ∃ g, Turns N0 H g H' ∧ ∀ t, TrV H g (sl t) (sl' t)

theorem SlotR.turn {G : Glob} {m0 m : Mem} {H H' : List Ob} {n : Nat} {sl sl' : Sl} {a : Act} (hs : SlotR m n sl a) (hS : Sim G m H) (hE : Ext m0 m) (hT : Turn m0.N sl H sl' H') :
    ∃ m', m'.w = m.w ∧ SlotR m' n sl' a ∧ Sim G m' H' ∧ Ext m0 m' := by
  obtain ⟨g, h1, h2⟩ := hT
  obtain ⟨h3, h4⟩ := hS.turn hE h1
  exact ⟨turned m H g, rfl, ⟨hs.size, hs.defers, fun t => (hs.get t).turn hS (h2 t)⟩, h3, h4⟩

abbrev VQ := Exit → Sl → List Ob → Prop

/-- What holds where control goes on behind a part. -/
def VQ.then (next : Sl → List Ob → Prop) (Q : VQ) : VQ
  | .normal, sl, H => next sl H
  | e, sl, H => Q e sl H
def VQ.block (id : Nat) (Q : VQ) : VQ
  | .exit id', sl, H => if id' = id then Q .normal sl H else Q (.exit id') sl H
  | e, sl, H => Q e sl H

/-- A rule for regions whose order is drawn. -/
abbrev DR := Nat → Array Oper → (Sl → List Ob → Prop) → Sl → List Ob → Prop

def vwp (X : Cx) (n N0 : Nat) (D : DR) : Code → VQ → Sl → List Ob → Prop
  | .skip, Q, sl, H => Q .normal sl H
  | .label _, Q, sl, H => Q .normal sl H
  | .region _ ops false, Q, sl, H => dstOk n ops.toList = true ∧ vops X ops.toList ops.toList (Q .normal) sl H
  | .region _ ops true, Q, sl, H => D n ops (Q .normal) sl H
  | .seq a b, Q, sl, H => vwp X n N0 D a (VQ.then (vwp X n N0 D b Q) Q) sl H
  | .cond c x y, Q, sl, H => match rho X.G sl c with
    | .c (.v (.bool b)) => if b then vwp X n N0 D x Q sl H else vwp X n N0 D y Q sl H
    | _ => False
  | .block id c, Q, sl, H => vwp X n N0 D c (VQ.block id Q) sl H
  | .loop c, Q, sl, H => ∃ I : Nat → Sl → List Ob → Prop, (∃ k sl0 H0, Turn N0 sl H sl0 H0 ∧ I k sl0 H0) ∧
      ∀ k sl H, I k sl H → vwp X n N0 D c (VQ.then (fun sl' H' => ∃ k' sl'' H'', Turn N0 sl' H' sl'' H'' ∧ I k' sl'' H'' ∧ k' < k) Q) sl H
  | .exit id, Q, sl, H => Q (.exit id) sl H
  | .ret, Q, sl, H => Q .ret sl H
  | _, _, _, _ => False

def DrawOk (X : Cx) (D : DR) : Prop :=
  ∀ (n : Nat) (id : Nat) (ops : Array Oper) (K : Sl → List Ob → Prop) (m0 m : Mem) (sl : Sl) (H : List Ob) (a : Act) (Q : Exit → Act → World → Prop), (∀ a w, Rel X m0 n K a w → Q .normal a w) →
    SlotR m n sl a → Sim X.G m H → Ext m0 m → D n ops K sl H → (Code.region id ops true).wp X.P Q a m.w

theorem wp_loop_n {P : Program} {Q : Exit → Act → World → Prop} {c : Code} (I : Nat → Act → World → Prop) (round : ∀ n a w, I n a w → c.wp P (Exit.then (fun a' w' => ∃ n', I n' a' w' ∧ n' < n) Q) a w) {n : Nat} {a : Act} {w : World} (h0 : I n a w) :
    (Code.loop c).wp P Q a w := by
  intro b k cs
  have key : ∀ n a w, I n a w → ∃ e a' w', Q e a' w' ∧ Arrives P (lone (b.at a (.code c :: .inLoop c :: k)) cs w) b k cs e a' w' := by
    intro n
    induction n using Nat.strongRecOn with
    | _ n ih =>
      intro a w hI
      obtain ⟨e, a₁, w₁, hq, harr⟩ := round n a w hI b (.inLoop c :: k) cs
      cases e with
      | normal =>
        obtain ⟨n', hI₁, hlt⟩ := hq
        obtain ⟨e₂, a₂, w₂, hq₂, harr₂⟩ := ih n' hlt a₁ w₁ hI₁
        exact ⟨e₂, a₂, w₂, hq₂, .of_steps (Steps.trans harr (.one step_inLoop)) harr₂⟩
      | exit id => exact ⟨_, a₁, w₁, hq, .pass (x := .inLoop c) rfl (fun _ _ => .inl (by simp)) harr⟩
      | goto l => exact ⟨_, a₁, w₁, hq, .pass (x := .inLoop c) rfl (fun _ _ => .inl (by simp)) harr⟩
      | ret => exact ⟨_, a₁, w₁, hq, .pass (x := .inLoop c) rfl (fun _ _ => .inl (by simp)) harr⟩
      | panic ch => exact ⟨_, a₁, w₁, hq, .pass (x := .inLoop c) rfl (fun _ _ => .inl (by simp)) harr⟩
      | outgrown => exact ⟨_, a₁, w₁, hq, .pass (x := .inLoop c) rfl (fun _ _ => .inl (by simp)) harr⟩
  obtain ⟨e, a', w', hq, harr⟩ := key n a w h0
  exact ⟨e, a', w', hq, .of_steps (.one step_loop) harr⟩

theorem vwp_sound {X : Cx} {D : DR} (hD : DrawOk X D) {n : Nat} {m0 : Mem} : ∀ (c : Code) (Q' : VQ) (Q : Exit → Act → World → Prop), (∀ e a w, Rel X m0 n (Q' e) a w → Q e a w) →
    ∀ (m : Mem) (sl : Sl) (H : List Ob) (a : Act), SlotR m n sl a → Sim X.G m H → Ext m0 m → vwp X n m0.N D c Q' sl H → c.wp X.P Q a m.w := by
  intro c
  induction c with
  | skip => intro Q' Q hQ m sl H a hs hS hE h; exact wp_skip (hQ _ _ _ ⟨m, sl, H, rfl, hs, hS, hE, h⟩)
  | label l => intro Q' Q hQ m sl H a hs hS hE h; exact wp_label (hQ _ _ _ ⟨m, sl, H, rfl, hs, hS, hE, h⟩)
  | region id ops draw =>
    intro Q' Q hQ m sl H a hs hS hE h
    cases draw with
    | false => exact region_sound h.1 (fun a w hr => hQ _ _ _ hr) hs hS hE h.2
    | true => exact hD n id ops _ m0 m sl H a Q (fun a w hr => hQ _ _ _ hr) hs hS hE h
  | seq x y ihx ihy =>
    intro Q' Q hQ m sl H a hs hS hE h
    refine wp_seq (ihx _ _ (fun e a' w' hr => ?_) m sl H a hs hS hE h)
    obtain ⟨m', sl', H', rfl, hs', hS', hE', hΦ⟩ := hr
    cases e with
    | normal => exact ihy Q' Q hQ m' sl' H' a' hs' hS' hE' hΦ
    | _ => exact hQ _ _ _ ⟨m', sl', H', rfl, hs', hS', hE', hΦ⟩
  | cond c x y ihx ihy =>
    intro Q' Q hQ m sl H a hs hS hE h
    have hc := rho_rel hS hs c
    simp only [vwp] at h
    split at h
    · rename_i b hb
      rw [hb] at hc
      refine wp_cond (t := b) hc.val ?_
      cases b with
      | true => exact ihx Q' Q hQ m sl H a hs hS hE h
      | false => exact ihy Q' Q hQ m sl H a hs hS hE h
    · exact h.elim
  | block id c ih =>
    intro Q' Q hQ m sl H a hs hS hE h
    refine wp_block (ih _ _ (fun e a' w' hr => ?_) m sl H a hs hS hE h)
    obtain ⟨m', sl', H', rfl, hs', hS', hE', hΦ⟩ := hr
    cases e with
    | exit id' =>
      simp only [VQ.block] at hΦ
      simp only [Exit.inBlock]
      by_cases hid : id' = id
      · rw [if_pos hid] at hΦ ⊢
        exact hQ _ _ _ ⟨m', sl', H', rfl, hs', hS', hE', hΦ⟩
      · rw [if_neg hid] at hΦ ⊢
        exact hQ _ _ _ ⟨m', sl', H', rfl, hs', hS', hE', hΦ⟩
    | _ => exact hQ _ _ _ ⟨m', sl', H', rfl, hs', hS', hE', hΦ⟩
  | loop c ih =>
    intro Q' Q hQ m sl H a hs hS hE h
    obtain ⟨I, ⟨k, sl0, H0, hw, hI⟩, hround⟩ := h
    obtain ⟨m1, hm1, hs1, hS1, hE1⟩ := hs.turn hS hE hw
    rw [← hm1]
    refine wp_loop_n (fun k a w => Rel X m0 n (I k) a w) (fun k a w hr => ?_) (n := k) ⟨m1, sl0, H0, rfl, hs1, hS1, hE1, hI⟩
    obtain ⟨m', sl', H', rfl, hs', hS', hE', hI'⟩ := hr
    refine ih _ _ (fun e a' w' hr => ?_) m' sl' H' a hs' hS' hE' (hround k sl' H' hI')
    obtain ⟨m2, sl2, H2, rfl, hs2, hS2, hE2, hΦ⟩ := hr
    cases e with
    | normal =>
      obtain ⟨k', sl3, H3, hw3, hI3, hlt⟩ := hΦ
      obtain ⟨m3, hm3, hs3, hS3, hE3⟩ := hs2.turn hS2 hE2 hw3
      exact ⟨k', ⟨m3, sl3, H3, hm3, hs3, hS3, hE3, hI3⟩, hlt⟩
    | _ => exact hQ _ _ _ ⟨m2, sl2, H2, rfl, hs2, hS2, hE2, hΦ⟩
  | exit id => intro Q' Q hQ m sl H a hs hS hE h; exact wp_exit (hQ _ _ _ ⟨m, sl, H, rfl, hs, hS, hE, h⟩)
  | ret => intro Q' Q hQ m sl H a hs hS hE h; exact wp_ret (hQ _ _ _ ⟨m, sl, H, rfl, hs, hS, hE, h⟩)
  | _ => intro Q' Q hQ m sl H a hs hS hE h; exact h.elim

/-! ### A function -/
def resL (X : Cx) (sl : Sl) (H : List Ob) : List ResultVar → Option (List V)
  | [] => some []
  | .tmp t :: r => (resL X sl H r).map (sl t :: ·)
  | .cell a t :: r => match evq X.lay H (rho X.G sl) (.load t (.tmp a)), resL X sl H r with
    | some v, some vs => some (v :: vs)
    | _, _ => none
/-- What a function answers. -/
def resV (X : Cx) (rs : List ResultVar) (sl : Sl) (H : List Ob) : Option V :=
  (resL X sl H rs).map fun vs => match vs with
    | [v] => v
    | vs => .tup vs

def retQ (X : Cx) (rs : List ResultVar) (Q : V → List Ob → Prop) : VQ
  | .normal, sl, H => ∃ r, resV X rs sl H = some r ∧ Q r H
  | .ret, sl, H => ∃ r, resV X rs sl H = some r ∧ Q r H
  | _, _, _ => False

def resOne (a : Act) : ResultVar → Sem Value
  | .tmp t => pure (a.tmps.getD t Go.undef)
  | .cell x t => do loadVar t (← asAddr (a.tmps.getD x Go.undef))

theorem load_sound {X : Cx} {m : Mem} {H : List Ob} (hS : Sim X.G m H) {t : TypeId} {ρ : Operand → V} {x : Operand} {v : V} {ux : Value} (hv : evq X.lay H ρ (.load t x) = some v) (hx : RV m (ρ x) ux) :
    ∃ u b off, ux = .pointer (some ⟨b, off, none⟩) ∧ (loadVar t ⟨b, off, none⟩).run X.P m.w = .ok u m.w ∧ RV m v u := by
  simp only [evq] at hv
  split at hv
  · rename_i L own cs off hL hx'
    rw [hx'] at hx
    split at hv
    · rename_i hl
      obtain ⟨b, base, hu, hF, hB, hc, -⟩ := hx.vwI
      obtain ⟨u, g1, g2⟩ := run_loadVar (X := X) hL (m := m) (b := b) (off := base + off) (cs := reowns own (sub cs off L.size)) (fun j c hj => by
        obtain ⟨c', hj', rfl⟩ := reowns_get hj
        obtain ⟨-, hg⟩ := sub_get hj'
        obtain ⟨u, q1, q2⟩ := hc _ _ hg
        exact ⟨u, by rw [Nat.add_assoc]; exact q1, q2.r⟩) (by rw [reowns_length]; exact sub_length hl) hv
      exact ⟨u, _, _, hu, g1, g2⟩
    · cases hv
  · rename_i L id off hL hx'
    rw [hx'] at hx
    split at hv
    · rename_i ob ho
      split at hv
      · rename_i hl
        obtain ⟨hu, -⟩ := hx.ptI
        obtain ⟨u, g1, g2⟩ := run_loadVar (X := X) hL (m := m) (b := (m.μ id).block) (off := (m.μ id).base + off) (cs := sub ob.cs off L.size) (fun j c hj => by
          obtain ⟨-, hg⟩ := sub_get hj
          obtain ⟨u, q1, q2⟩ := hS.cell ho hl.1 hg
          exact ⟨u, by rw [Nat.add_assoc]; exact q1, q2⟩) (sub_length hl.2) hv
        exact ⟨u, _, _, hu, g1, g2⟩
      · cases hv
    · cases hv
  · cases hv

theorem results_sound {X : Cx} {m : Mem} {sl : Sl} {H : List Ob} {n : Nat} {a : Act} (hs : SlotR m n sl a) (hS : Sim X.G m H) : ∀ (rs : List ResultVar) (vs : List V), resL X sl H rs = some vs →
    vs.length = rs.length ∧ ∀ (j : Nat) (v : V), vs[j]? = some v → ∃ r u, rs[j]? = some r ∧ (resOne a r).run X.P m.w = .ok u m.w ∧ RV m v u
  | [], vs, h => by
    simp only [resL, Option.some.injEq] at h
    subst h
    exact ⟨rfl, fun j v h => by simp at h⟩
  | .tmp t :: rs, vs, h => by
    simp only [resL] at h
    obtain ⟨vs', hvs, rfl⟩ := Option.map_eq_some_iff.1 h
    obtain ⟨h1, h2⟩ := results_sound hs hS rs vs' hvs
    refine ⟨by simp [h1], fun j v hj => ?_⟩
    cases j with
    | zero => simp at hj; subst hj; exact ⟨_, _, rfl, rfl, by simpa using hs.get t⟩
    | succ j => simpa using h2 j v (by simpa using hj)
  | .cell x t :: rs, vs, h => by
    simp only [resL] at h
    split at h
    · rename_i v vs' hv hvs
      simp only [Option.some.injEq] at h
      subst h
      obtain ⟨h1, h2⟩ := results_sound hs hS rs vs' hvs
      refine ⟨by simp [h1], fun j v' hj => ?_⟩
      cases j with
      | zero =>
        simp at hj
        subst hj
        obtain ⟨u, b, off, hu, g1, g2⟩ := load_sound (ux := a.tmps.getD x Go.undef) hS hv (hs.get x)
        refine ⟨_, u, rfl, ?_, g2⟩
        simp only [resOne, Sem.run_bind, hu, asAddr, Sem.run_pure, Result.andThen_ok, g1]
      | succ j => simpa using h2 j v' (by simpa using hj)
    · cases h

theorem resV_sound {X : Cx} {m : Mem} {sl : Sl} {H : List Ob} {n : Nat} {a : Act} (hs : SlotR m n sl a) (hS : Sim X.G m H) {fn : Func} {r : V} (h : resV X fn.results.toList sl H = some r) :
    ∃ u, (results fn a.tmps).run X.P m.w = .ok u m.w ∧ RV m r u := by
  obtain ⟨vs, hvs, rfl⟩ := Option.map_eq_some_iff.1 h
  obtain ⟨h1, h2⟩ := results_sound hs hS _ _ hvs
  obtain ⟨us, hul, hus⟩ := choose_list (cs := vs) (p := fun j v u => ∃ r, fn.results.toList[j]? = some r ∧ (resOne a r).run X.P m.w = .ok u m.w ∧ RV m v u) (fun j v hj => by
    obtain ⟨r, u, g1, g2, g3⟩ := h2 j v hj
    exact ⟨u, r, g1, g2, g3⟩)
  have hmap := run_mapM_list (P := X.P) (w := m.w) (g := resOne a) fn.results.toList us (by omega) (fun j u hj => by
    have hlt : j < vs.length := by rw [← hul]; exact (List.getElem?_eq_some_iff.1 hj).1
    obtain ⟨u', g0, r, g1, g2, g3⟩ := hus j _ (List.getElem?_eq_getElem hlt)
    rw [hj] at g0
    injection g0 with g0
    subst g0
    exact ⟨r, g1, g2⟩)
  have hres : results fn a.tmps = (do let vs ← fn.results.mapM (resOne a); pure (if h : vs.size = 1 then vs[0] else .tuple vs)) := by
    unfold results
    congr 1
  refine ⟨if h : us.toArray.size = 1 then us.toArray[0] else .tuple us.toArray, ?_, ?_⟩
  · rw [hres, Array.mapM_eq_mapM_toList]
    simp only [Sem.run_bind, Sem.run_map, hmap, Result.andThen_ok, Sem.run_pure]
  · match vs, us, hul, hus with
    | [v], [u], _, hus =>
      obtain ⟨u', g0, r, g1, g2, g3⟩ := hus 0 v rfl
      simp at g0
      subst g0
      simpa using g3
    | [], [], _, _ => exact .tup (fun _ => default) rfl (fun j v h => by simp at h) (fun j v h => by simp at h)
    | v :: v' :: vs, u :: u' :: us, hul, hus =>
      refine .tup (fun j => (u :: u' :: us).getD j default) (by simpa using hul) (fun j v hj => ?_) (fun j v hj => ?_)
      · obtain ⟨x, g0, r, g1, g2, g3⟩ := hus j v hj
        simp only [List.getD, g0, Option.getD_some]
        simpa using g0
      · obtain ⟨x, g0, r, g1, g2, g3⟩ := hus j v hj
        simpa [List.getD, g0] using g3

/-- A frame's first slots. -/
def slots (args : List V) : Sl := fun t => args.getD t .any

/-- A function by its body, in the midst of objects. -/
theorem CallC.of_body {X : Cx} {D : DR} (hD : DrawOk X D) {g : FuncId} {fn : Func} {c : Code} (hen : Enters X g) (hf : X.P.funcs[g]? = some fn) (hb : fn.body = some c) {args : List V} {H : List Ob} {Q : V → List Ob → Prop} {n : Nat} (hn : args.length + (fn.ntmps - args.length) = n)
    (h : vwp X n H.length D c (retQ X fn.results.toList Q) (slots args) H) : CallC X g args H Q := by
  intro m arr hS hr
  refine .inr ⟨hen _ _, calls_of_wp hf hb ?_⟩
  rw [← hS.N] at h
  refine vwp_sound hD (m0 := m) (n := n) c _ _ (fun e a w hrel => ?_) m _ H _ ⟨by simp [hr.1]; exact hn, rfl, fun t => ?_⟩ hS (Ext.refl m) h
  · obtain ⟨m', sl, H', rfl, hs, hS', hE, hΦ⟩ := hrel
    cases e <;> simp only [retQ] at hΦ <;> try exact hΦ.elim
    all_goals
      obtain ⟨r, hr, hQ⟩ := hΦ
      obtain ⟨u, h1, h2⟩ := resV_sound hs hS' hr
      exact ⟨hs.defers, u, h1, u, rfl, m', r, H', rfl, hQ, hS', hE, h2⟩
  · simp only [Array.getD_eq_getD_getElem?, slots, List.getD_eq_getElem?_getD]
    by_cases hlt : t < args.length
    · obtain ⟨u, h1, h2⟩ := hr.2 t _ (List.getElem?_eq_getElem hlt)
      rw [List.getElem?_eq_getElem hlt, Array.getElem?_append_left (by rw [hr.1]; exact hlt), h1]
      exact h2
    · rw [List.getElem?_eq_none (by omega)]
      exact .any
end Go.VL
