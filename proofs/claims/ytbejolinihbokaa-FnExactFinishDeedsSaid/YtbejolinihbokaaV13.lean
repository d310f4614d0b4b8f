/- A region whose order is drawn, on data: one order, and what makes all the others come to the same. Over any program. -/
import Derived.Test.YtbejolinihbokaaV12
namespace Go.VL
open Go.RowKit

/-- One operation in the order that is told: its number, its kind (0: writes nothing; 1: writes; 2: a slice's literal, frozen at once), and which that look at the objects are asked again behind it. -/
structure En where
  i : Nat
  kind : Nat
  chk : List Nat

/-- What an operation comes to that looks at no object: by the model's own run. -/
def RawQ (X : Cx) (op : Op) (ρ : Operand → V) (v : V) : Prop :=
  ∀ (m : Mem) (H : List Ob) (ε : Operand → Value) (o : Oper), o.op = op → Sim X.G m H → (∀ x ∈ op.operands, RV m (ρ x) (ε x)) → Good X m H ε o v

/-- What holds of an operation that turns no object, and of its value. -/
def Qt (X : Cx) (kind : Nat) (H : List Ob) (ρ : Operand → V) (o : Op) (v : V) : Prop :=
  if kind = 2 then frz X.lay ρ o = some v else match callOf o with
    | some (f, args) => match target (ρ f) with
      | some (g, caps) => PCall X H g (args.map ρ ++ caps) v
      | none => False
    | none => evq X.lay H ρ o = some v ∨ RawQ X o ρ v
/-- .. told by the steps on data alone. -/
def Qt0 (X : Cx) (kind : Nat) (H : List Ob) (ρ : Operand → V) (o : Op) (v : V) : Prop :=
  if kind = 2 then frz X.lay ρ o = some v else match callOf o with
    | some (f, args) => match target (ρ f) with
      | some (g, caps) => PCall X H g (args.map ρ ++ caps) v
      | none => False
    | none => evq X.lay H ρ o = some v
theorem Qt0.qt {X : Cx} {kind : Nat} {H : List Ob} {ρ : Operand → V} {o : Op} {v : V} (h : Qt0 X kind H ρ o v) : Qt X kind H ρ o v := by
  unfold Qt0 at h
  unfold Qt
  split
  · rename_i hk; rw [if_pos hk] at h; exact h
  · rename_i hk
    rw [if_neg hk] at h
    split
    · rename_i f args hc
      rw [hc] at h
      exact h
    · rename_i hc
      rw [hc] at h
      exact .inl h

def vq (X : Cx) (kind : Nat) (o : Op) (ρ : Operand → V) (H : List Ob) (K : V → Prop) : Prop :=
  if kind = 2 then (match frz X.lay ρ o with
    | some v => K v
    | none => False) else match callOf o with
    | some (f, args) => match target (ρ f) with
      | some (g, caps) => ∃ r, PCall X H g (args.map ρ ++ caps) r ∧ K r
      | none => False
    | none => match evq X.lay H ρ o with
      | some v => K v
      | none => ∃ v, RawQ X o ρ v ∧ K v

theorem vq_qt {X : Cx} {kind : Nat} {o : Op} {ρ : Operand → V} {H : List Ob} {K : V → Prop} (h : vq X kind o ρ H K) : ∃ v, Qt X kind H ρ o v ∧ K v := by
  unfold vq at h
  split at h
  · rename_i hk
    split at h
    · rename_i v hv; exact ⟨v, by unfold Qt; rw [if_pos hk]; exact hv, h⟩
    · exact h.elim
  · rename_i hk
    split at h
    · rename_i f args hc
      split at h
      · rename_i g caps ht
        obtain ⟨r, h1, h2⟩ := h
        refine ⟨r, ?_, h2⟩
        unfold Qt
        rw [if_neg hk, hc]
        simp only [ht]
        exact h1
      · exact h.elim
    · rename_i hc
      split at h
      · rename_i v hv
        refine ⟨v, ?_, h⟩
        unfold Qt
        rw [if_neg hk, hc]
        exact .inl hv
      · obtain ⟨v, hv, h⟩ := h
        refine ⟨v, ?_, h⟩
        unfold Qt
        rw [if_neg hk, hc]
        exact .inr hv

abbrev Hist := List (Nat × Sl × V)

/-- Asked again among other objects, it says the same. -/
def again (X : Cx) (all : List Oper) (H : List Ob) (x : Nat × Sl × V) : Prop :=
  match all[x.1]? with
  | some o => Qt0 X 0 H (rho X.G x.2.1) o.op x.2.2
  | none => True
def againAll (X : Cx) (all : List Oper) (H : List Ob) (chk : List Nat) : Hist → Prop
  | [] => True
  | x :: r => (if chk.contains x.1 then again X all H x else True) ∧ againAll X all H chk r

theorem againAll_mem {X : Cx} {all : List Oper} {H : List Ob} {chk : List Nat} : ∀ {h : Hist}, againAll X all H chk h → ∀ x ∈ h, x.1 ∈ chk → again X all H x
  | [], _, x, hx, _ => by cases hx
  | y :: h, hh, x, hx, hc => by
    rcases List.mem_cons.1 hx with rfl | hx
    · have := hh.1
      rw [if_pos (by simpa using hc)] at this
      exact this
    · exact againAll_mem hh.2 x hx hc

/-- What holds of an operation that turns the objects: what it answers, and what they are behind it. -/
def Et (X : Cx) (H : List Ob) (ρ : Operand → V) (o : Op) (v : V) (H' : List Ob) : Prop :=
  (∃ f, eve X.lay H ρ o = some f ∧ f.φ ∧ f.v = v ∧ f.H = H') ∨ ∃ f args g caps, callOf o = some (f, args) ∧ target (ρ f) = some (g, caps) ∧ CallC X g (args.map ρ ++ caps) H fun v' H'' => v' = v ∧ H'' = H'

/-- The operations in the order that is told. -/
def vopsD (X : Cx) (all : List Oper) : List En → Hist → (Sl → List Ob → Prop) → Sl → List Ob → Prop
  | [], _, K, sl, H => K sl H
  | e :: r, hist, K, sl, H => match all[e.i]? with
    | none => False
    | some o => vguard all sl o
        (if e.kind = 1 then (∃ (v : V) (H' : List Ob), Et X H (rho X.G sl) o.op v H' ∧ againAll X all H' e.chk hist ∧ vopsD X all r hist K (putV sl o.dst v) H')
        else vq X e.kind o.op (rho X.G sl) H fun v => vopsD X all r (if e.kind = 0 && sens o.op then (e.i, sl, v) :: hist else hist) K (putV sl o.dst v) H)
        (vopsD X all r hist K (putV sl o.dst .undef) H)

/-! ### What the run that is told says, step by step -/
structure St where
  sl : Sl
  H : List Ob
  v : V
  ran : Bool

structure Step (X : Cx) (all : List Oper) (es : List En) (hist : Hist) (T : Nat → St) (p : Nat) (e : En) (o : Oper) : Prop where
  op : all[e.i]? = some o
  sl : (T (p + 1)).sl = putV (T p).sl o.dst (T p).v
  guard : vguard all (T p).sl o ((T p).ran = true) ((T p).ran = false)
  off : (T p).ran = false → (T p).v = .undef ∧ (T (p + 1)).H = (T p).H
  quiet : (T p).ran = true → e.kind ≠ 1 → Qt X e.kind (T p).H (rho X.G (T p).sl) o.op (T p).v ∧ (T (p + 1)).H = (T p).H
  eff : (T p).ran = true → e.kind = 1 → Et X (T p).H (rho X.G (T p).sl) o.op (T p).v (T (p + 1)).H
  re0 : (T p).ran = true → e.kind = 1 → ∀ x ∈ hist, x.1 ∈ e.chk → again X all (T (p + 1)).H x
  re : (T p).ran = true → e.kind = 1 → ∀ (q : Nat) (e' : En) (o' : Oper), q < p → es[q]? = some e' → all[e'.i]? = some o' → e'.kind = 0 → sens o'.op = true → (T q).ran = true → e'.i ∈ e.chk → again X all (T (p + 1)).H (e'.i, (T q).sl, (T q).v)

theorem vguard_or {all : List Oper} {sl : Sl} {o : Oper} {A B : Prop} (h : vguard all sl o A B) : (vguard all sl o True False ∧ A) ∨ (vguard all sl o False True ∧ B) := by
  unfold vguard at *
  split at h
  · exact .inl ⟨trivial, h⟩
  · split at h
    · rename_i d hd
      split at h
      · rename_i b hb
        split at h
        · rename_i he; exact .inl ⟨by simp only [if_pos he], h⟩
        · rename_i he; exact .inr ⟨by simp only [if_neg he], h⟩
      · exact .inr ⟨trivial, h⟩
      · exact h.elim
    · exact h.elim
theorem vguard_imp {all : List Oper} {sl : Sl} {o : Oper} {A B A' B' : Prop} (ha : A → A') (hb : B → B') (h : vguard all sl o A B) : vguard all sl o A' B' := by
  unfold vguard at *
  split at h
  · exact ha h
  · split at h
    · rename_i d hd
      split at h
      · rename_i b hb'
        split at h
        · rename_i he; simp only [if_pos he]; exact ha h
        · rename_i he; simp only [if_neg he]; exact hb h
      · exact hb h
      · exact h.elim
    · exact h.elim

theorem trace {X : Cx} {all : List Oper} {K : Sl → List Ob → Prop} : ∀ (r : List En) (hist : Hist) (sl : Sl) (H : List Ob), vopsD X all r hist K sl H →
    ∃ T : Nat → St, (T 0).sl = sl ∧ (T 0).H = H ∧ (∀ p e, r[p]? = some e → ∃ o, Step X all r hist T p e o) ∧ K (T r.length).sl (T r.length).H
  | [], hist, sl, H, h => ⟨fun _ => ⟨sl, H, .any, false⟩, rfl, rfl, fun p e he => by simp at he, h⟩
  | e :: r, hist, sl, H, h => by
    simp only [vopsD] at h
    split at h
    · exact h.elim
    · rename_i o ho
      -- what this step leaves
      have key : ∃ (v : V) (H' : List Ob) (ran : Bool) (hist' : Hist), vopsD X all r hist' K (putV sl o.dst v) H' ∧ vguard all sl o (ran = true) (ran = false) ∧ (ran = false → v = .undef ∧ H' = H) ∧
          (ran = true → e.kind ≠ 1 → Qt X e.kind H (rho X.G sl) o.op v ∧ H' = H) ∧ (ran = true → e.kind = 1 → Et X H (rho X.G sl) o.op v H') ∧
          (ran = true → e.kind = 1 → ∀ x ∈ hist, x.1 ∈ e.chk → again X all H' x) ∧ (∀ x ∈ hist, x ∈ hist') ∧ (ran = true → e.kind = 0 → sens o.op = true → (e.i, sl, v) ∈ hist') := by
        rcases vguard_or h with ⟨hg, h⟩ | ⟨hg, h⟩
        · split at h
          · rename_i hk
            obtain ⟨v, H', h1, h2, h3⟩ := h
            exact ⟨v, H', true, hist, h3, vguard_imp (fun _ => rfl) (fun h => h.elim) hg, fun h => (by cases h), fun _ h => absurd hk h, fun _ _ => h1, fun _ _ x hx hc => againAll_mem h2 x hx hc, fun x hx => hx, fun _ h => by omega⟩
          · rename_i hk
            obtain ⟨v, h1, h2⟩ := vq_qt h
            refine ⟨v, H, true, _, h2, vguard_imp (fun _ => rfl) (fun h => h.elim) hg, fun h => (by cases h), fun _ _ => ⟨h1, rfl⟩, fun _ h => absurd h hk, fun _ h => absurd h hk, fun x hx => ?_, fun _ h0 hs => ?_⟩
            · split
              · exact List.mem_cons_of_mem _ hx
              · exact hx
            · rw [if_pos (by simp [h0, hs])]
              exact List.mem_cons_self
        · exact ⟨.undef, H, false, hist, h, vguard_imp (fun h => h.elim) (fun _ => rfl) hg, fun _ => ⟨rfl, rfl⟩, fun h => (by cases h), fun h => (by cases h), fun h => (by cases h), fun x hx => hx, fun h => (by cases h)⟩
      obtain ⟨v, H', ran, hist', k0, k1, k2, k3, k4, k5, k6, k7⟩ := key
      obtain ⟨T, t1, t2, t3, t4⟩ := trace r hist' _ _ k0
      refine ⟨fun p => match p with | 0 => ⟨sl, H, v, ran⟩ | p + 1 => T p, rfl, rfl, fun p e' he' => ?_, t4⟩
      cases p with
      | zero =>
        simp only [List.getElem?_cons_zero, Option.some.injEq] at he'
        subst he'
        exact ⟨o, ho, t1, k1, fun h => ⟨(k2 h).1, t2.trans (k2 h).2⟩, fun h h' => ⟨(k3 h h').1, t2.trans (k3 h h').2⟩, fun h h' => by rw [t2]; exact k4 h h', fun h h' => by rw [t2]; exact k5 h h', fun _ _ q _ _ hq => absurd hq (Nat.not_lt_zero _)⟩
      | succ p =>
        simp only [List.getElem?_cons_succ] at he'
        obtain ⟨o', s⟩ := t3 p e' he'
        refine ⟨o', s.op, s.sl, s.guard, s.off, s.quiet, s.eff, fun h h' x hx hc => s.re0 h h' x (k6 x hx) hc, fun hran hone q e2 o2 hq he2 ho2 hk hs hr hc => ?_⟩
        cases q with
        | zero =>
          simp only [List.getElem?_cons_zero, Option.some.injEq] at he2
          subst he2
          have : o2 = o := by rw [ho] at ho2; exact (Option.some.inj ho2).symm
          subst this
          exact s.re0 hran hone _ (k7 hr hk hs) hc
        | succ q => exact s.re hran hone q e2 o2 (by omega) (by simpa using he2) ho2 hk hs hr hc

/-! ### What is asked of the order -/
def upDirect : List Edge → Nat
  | [] => 0
  | e :: r => if Region.binds .any e then 2 ^ e.on ||| upDirect r else upDirect r
def upMask (M : List Nat) : List Edge → Nat
  | [] => 0
  | e :: r => if Region.binds .any e then (2 ^ e.on ||| M.getD e.on 0) ||| upMask M r else upMask M r

def chkPair (M : List Nat) (ops : Array Oper) (e' e : En) (o' o : Oper) : Bool :=
  let b := (M.getD e.i 0).testBit e'.i
  (match o'.dst with
    | some d => (!(o.looksAt ops).contains d || b) && (o.dst != some d)
    | none => true) &&
  (match o.dst with
    | some d => !(o'.looksAt ops).contains d || b
    | none => true) &&
  (e.kind != 1 || ((e'.kind != 1 || b) && (e'.kind != 0 || !sens o'.op || b || e.chk.contains e'.i))) &&
  (e'.kind != 1 || e.kind != 0 || !sens o.op || b)

def chkOrd (M : List Nat) (ops : Array Oper) : List En → Nat → List En → Bool
  | _, mask, [] => mask == 2 ^ ops.size - 1
  | done, mask, e :: r => match ops[e.i]? with
    | none => false
    | some o => Nat.ble e.kind 2 && !mask.testBit e.i && (upDirect o.after.toList ||| mask == mask) && (M.getD e.i 0 ||| upMask M o.after.toList == upMask M o.after.toList) &&
        (done.all fun e' => match ops[e'.i]? with
          | some o' => chkPair M ops e' e o' o
          | none => false) && chkOrd M ops (e :: done) (mask ||| 2 ^ e.i) r

theorem testBit_upDirect {es : List Edge} {e : Edge} (he : e ∈ es) (hb : Region.binds .any e = true) : (upDirect es).testBit e.on = true := by
  induction es with
  | nil => cases he
  | cons x es ih =>
    simp only [upDirect]
    rcases List.mem_cons.1 he with rfl | he
    · rw [if_pos hb, Nat.testBit_or, Nat.testBit_two_pow_self, Bool.true_or]
    · split
      · rw [Nat.testBit_or, ih he, Bool.or_true]
      · exact ih he

theorem testBit_upMask {M : List Nat} {es : List Edge} {j : Nat} (h : (upMask M es).testBit j = true) : ∃ e ∈ es, Region.binds .any e = true ∧ (j = e.on ∨ (M.getD e.on 0).testBit j = true) := by
  induction es with
  | nil => simp [upMask] at h
  | cons x es ih =>
    simp only [upMask] at h
    split at h
    · rename_i hb
      rw [Nat.testBit_or, Nat.testBit_or, Bool.or_eq_true, Bool.or_eq_true] at h
      rcases h with (h | h) | h
      · rw [Nat.testBit_two_pow] at h
        exact ⟨x, List.mem_cons_self, hb, .inl (of_decide_eq_true h).symm⟩
      · exact ⟨x, List.mem_cons_self, hb, .inr h⟩
      · obtain ⟨e, h1, h2⟩ := ih h
        exact ⟨e, List.mem_cons_of_mem _ h1, h2⟩
    · obtain ⟨e, h1, h2⟩ := ih h
      exact ⟨e, List.mem_cons_of_mem _ h1, h2⟩

theorem testBit_of_or {a b j : Nat} (h : a ||| b = b) (ha : a.testBit j = true) : b.testBit j = true := by
  rw [← h, Nat.testBit_or, ha, Bool.true_or]

structure Ord1 (M : List Nat) (ops : Array Oper) (pre : En → Prop) (e : En) (o : Oper) : Prop where
  op : ops[e.i]? = some o
  kind : e.kind ≤ 2
  pair : ∀ e', pre e' → e'.i ≠ e.i ∧ ∃ o', ops[e'.i]? = some o' ∧ chkPair M ops e' e o' o = true
  dep : ∀ x ∈ o.after.toList, Region.binds .any x = true → ∃ e', pre e' ∧ e'.i = x.on
  mask : ∀ j, (M.getD e.i 0).testBit j = true → ∃ x ∈ o.after.toList, Region.binds .any x = true ∧ (j = x.on ∨ (M.getD x.on 0).testBit j = true)

theorem chkOrd_spec {M : List Nat} {ops : Array Oper} : ∀ (r done : List En) (mask : Nat), (∀ i, mask.testBit i = true ↔ ∃ e ∈ done, e.i = i) → chkOrd M ops done mask r = true →
    (∀ (p : Nat) (e : En), r[p]? = some e → ∃ o, Ord1 M ops (fun e' => e' ∈ done ∨ ∃ q, q < p ∧ r[q]? = some e') e o) ∧ ∀ i, i < ops.size → ∃ e, (e ∈ done ∨ e ∈ r) ∧ e.i = i
  | [], done, mask, hm, h => by
    refine ⟨fun p e he => by simp at he, fun i hi => ?_⟩
    simp only [chkOrd, beq_iff_eq] at h
    have : mask.testBit i = true := by rw [h, Nat.testBit_two_pow_sub_one]; simpa using hi
    obtain ⟨e, h1, h2⟩ := (hm i).1 this
    exact ⟨e, .inl h1, h2⟩
  | e :: r, done, mask, hm, h => by
    simp only [chkOrd] at h
    split at h
    · cases h
    · rename_i o ho
      simp only [Bool.and_eq_true, Bool.not_eq_true', beq_iff_eq] at h
      obtain ⟨⟨⟨⟨⟨h0, h1⟩, h2⟩, h3⟩, h4⟩, h5⟩ := h
      have hm' : ∀ i, (mask ||| 2 ^ e.i).testBit i = true ↔ ∃ e' ∈ e :: done, e'.i = i := fun i => by
        rw [Nat.testBit_or, Bool.or_eq_true, hm i, Nat.testBit_two_pow]
        simp only [decide_eq_true_eq, List.mem_cons, exists_eq_or_imp]
        exact Or.comm
      obtain ⟨k1, k2⟩ := chkOrd_spec r (e :: done) _ hm' h5
      refine ⟨fun p e' he' => ?_, fun i hi => ?_⟩
      · cases p with
        | zero =>
          simp only [List.getElem?_cons_zero, Option.some.injEq] at he'
          subst he'
          refine ⟨o, ho, Nat.le_of_ble_eq_true h0, fun e' he' => ?_, fun x hx hb => ?_, fun j hj => testBit_upMask (testBit_of_or h3 hj)⟩
          · have hd : e' ∈ done := he'.elim id fun ⟨q, hq, _⟩ => absurd hq (Nat.not_lt_zero _)
            refine ⟨fun heq => ?_, ?_⟩
            · have := (hm e.i).2 ⟨e', hd, heq⟩
              rw [h1] at this
              cases this
            · have := List.all_eq_true.1 h4 e' hd
              split at this
              · rename_i o' ho'; exact ⟨o', ho', this⟩
              · cases this
          · obtain ⟨e', g1, g2⟩ := (hm _).1 (testBit_of_or h2 (testBit_upDirect hx hb))
            exact ⟨e', .inl g1, g2⟩
        | succ p =>
          simp only [List.getElem?_cons_succ] at he'
          obtain ⟨o', s⟩ := k1 p e' he'
          refine ⟨o', s.op, s.kind, fun e2 h2 => s.pair e2 ?_, fun x hx hb => ?_, s.mask⟩
          · rcases h2 with h2 | ⟨q, hq, h2⟩
            · exact .inl (List.mem_cons_of_mem _ h2)
            · cases q with
              | zero => simp only [List.getElem?_cons_zero, Option.some.injEq] at h2; subst h2; exact .inl List.mem_cons_self
              | succ q => exact .inr ⟨q, by omega, by simpa using h2⟩
          · obtain ⟨e2, g1, g2⟩ := s.dep x hx hb
            refine ⟨e2, ?_, g2⟩
            rcases g1 with g1 | ⟨q, hq, g1⟩
            · rcases List.mem_cons.1 g1 with rfl | g1
              · exact .inr ⟨0, by omega, rfl⟩
              · exact .inl g1
            · exact .inr ⟨q + 1, by omega, by simpa using g1⟩
      · obtain ⟨e', g1, g2⟩ := k2 i hi
        refine ⟨e', ?_, g2⟩
        rcases g1 with g1 | g1
        · rcases List.mem_cons.1 g1 with rfl | g1
          · exact .inr List.mem_cons_self
          · exact .inl g1
        · exact .inr (List.mem_cons_of_mem _ g1)
end Go.VL
