/- A run of operations, on data. Over any program. -/
import Derived.Test.YtbejolinihbokaaV8
namespace Go.VL
open Go.RowKit

/-- What stands for nothing: an operation that was passed over. -/
abbrev V.undef : V := .tup []

def upd (sl : Sl) (d : Tmp) (v : V) : Sl := fun t => bif Nat.beq t d then v else sl t
def putV (sl : Sl) (d : Option Tmp) (v : V) : Sl :=
  match d with
  | some d => upd sl d v
  | none => sl

theorem putV_get (sl : Sl) (d : Option Tmp) (v : V) (t : Nat) : putV sl d v t = if d = some t then v else sl t := by
  cases d with
  | none => simp [putV]
  | some d =>
    simp only [putV, upd, Option.some.injEq]
    by_cases h : d = t
    · subst h; simp
    · have hb : Nat.beq t d = false := by
        cases hh : Nat.beq t d with
        | false => rfl
        | true => exact absurd (Nat.eq_of_beq_eq_true hh).symm h
      rw [hb, if_neg h]; rfl

/-- The slot that is written is one of the frame's. -/
def dstOk (n : Nat) (ops : List Oper) : Bool := ops.all fun o => match o.dst with
  | some d => Nat.blt d n
  | none => true
theorem dstOk_spec {n : Nat} {ops : List Oper} (h : dstOk n ops = true) : ∀ o ∈ ops, ∀ d, o.dst = some d → d < n := fun o ho d hd => by
  have := List.all_eq_true.1 h o ho
  rw [hd] at this
  exact Nat.le_of_ble_eq_true this

def callOf : Op → Option (Operand × List Operand)
  | .call { callee := .value f, args, argTypes := _ } => some (f, args.toList)
  | _ => none

def target : V → Option (FuncId × List V)
  | .c (.fn g cs) => some (g, cs.map .c)
  | _ => none

/-- An operation by the model's own word: whatever it comes to. -/
def RawOp (X : Cx) (o : Op) (ρ : Operand → V) (H : List Ob) (K : V → List Ob → Prop) : Prop :=
  ∀ (m : Mem) (ε : Operand → Value) (oper : Oper), oper.op = o → Sim X.G m H → (∀ x, RV m (ρ x) (ε x)) → ∃ (n : Next) (m' : Mem) (v : V) (H' : List Ob), (execOp ε oper).run X.P m.w = .ok n m'.w ∧ Sim X.G m' H' ∧ Ext m m' ∧ K v H' ∧ ((∃ u, n = .value u ∧ RV m' v u) ∨ (n = .skip ∧ v = .any))

/-- One operation, and what comes behind it. -/
def vop (X : Cx) (raw : Bool) (o : Op) (ρ : Operand → V) (H : List Ob) (K : V → List Ob → Prop) : Prop :=
  match callOf o with
  | some (f, args) => match target (ρ f) with
    | some (g, caps) => CallC X g (args.map ρ ++ caps) H K
    | none => False
  | none => match evq X.lay H ρ o with
    | some v => K v H
    | none => match eve X.lay H ρ o with
      | some f => f.φ ∧ K f.v f.H
      | none => raw = true ∧ RawOp X o ρ H K

/-- Is an operation passed over? -/
def vguard (all : List Oper) (sl : Sl) (o : Oper) (A B : Prop) : Prop :=
  match o.guard with
  | none => A
  | some (j, want) => match (all[j]?).bind (·.dst) with
    | some d => match sl d with
      | .c (.v (.bool b)) => if b = want then A else B
      | .tup _ => B
      | _ => False
    | none => False

def vops (X : Cx) (all : List Oper) : List Oper → (Sl → List Ob → Prop) → Sl → List Ob → Prop
  | [], K, sl, H => K sl H
  | o :: r, K, sl, H => vguard all sl o (vop X (!all.isEmpty) o.op (rho X.G sl) H fun v H' => vops X all r K (putV sl o.dst v) H') (vops X all r K (putV sl o.dst .undef) H)

/-- The frame's slots hold what the data says. -/
structure SlotR (m : Mem) (n : Nat) (sl : Sl) (a : Act) : Prop where
  size : a.tmps.size = n
  defers : a.defers = []
  get : ∀ t, RV m (sl t) (a.tmps.getD t Go.undef)

def Rel (X : Cx) (m0 : Mem) (n : Nat) (Φ : Sl → List Ob → Prop) (a : Act) (w : World) : Prop :=
  ∃ (m : Mem) (sl : Sl) (H : List Ob), m.w = w ∧ SlotR m n sl a ∧ Sim X.G m H ∧ Ext m0 m ∧ Φ sl H

theorem SlotR.ext {m m' : Mem} (h : Ext m m') {n : Nat} {sl : Sl} {a : Act} (hs : SlotR m n sl a) : SlotR m' n sl a := ⟨hs.size, hs.defers, fun t => (hs.get t).ext h⟩

theorem SlotR.put {m : Mem} {n : Nat} {sl : Sl} {a : Act} (hs : SlotR m n sl a) {d : Option Tmp} (hd : ∀ e, d = some e → e < n) {v : V} {u : Value} (h : RV m v u) : SlotR m n (putV sl d v) (a.put d u) := by
  cases d with
  | none => exact hs
  | some d =>
    refine ⟨by simp [Act.put, hs.size], hs.defers, fun t => ?_⟩
    rw [putV_get]
    simp only [Act.put, Array.getD_eq_getD_getElem?, Option.some.injEq]
    have hg := hs.get t
    simp only [Array.getD_eq_getD_getElem?] at hg
    by_cases ht : d = t
    · subst ht
      rw [if_pos rfl, Array.getElem?_setIfInBounds_self_of_lt (by rw [hs.size]; exact hd d rfl)]
      exact h
    · rw [if_neg ht, Array.getElem?_setIfInBounds_ne ht]
      exact hg

theorem RV.undef {m : Mem} : RV m .undef Go.undef := .tup (fun _ => default) rfl (fun j v h => by simp at h) (fun j v h => by simp at h)

theorem cOf_rel {m : Mem} {x : Value} (h : plain x = true) : R m (cOf x) x := by
  cases x <;> first
    | exact .v h
    | exact R.float

theorem rho_rel {X : Cx} {m : Mem} {H : List Ob} (hS : Sim X.G m H) {n : Nat} {sl : Sl} {a : Act} (hs : SlotR m n sl a) (x : Operand) : RV m (rho X.G sl x) (a.eval x) := by
  cases x with
  | tmp t => exact hs.get t
  | const v =>
    simp only [rho, Act.eval]
    cases v <;> simp only [vOf] <;> try exact .c (cOf_rel rfl)
    · split
      · rename_i cs hp
        refine .agg (by simp) fun j c hj => ?_
        rw [List.getElem?_map, Option.map_eq_some_iff] at hj
        obtain ⟨u, hu, rfl⟩ := hj
        exact ⟨u, by simpa using hu, cOf_rel (List.all_eq_true.1 hp u (List.mem_of_getElem? hu))⟩
      · exact .any
    · exact .any
  | global g =>
    simp only [rho, Act.eval]
    split
    · rename_i cs hl
      have hmem : (g, cs) ∈ X.G := by
        clear hS
        generalize X.G = G at hl
        induction G with
        | nil => simp at hl
        | cons p G ih =>
          obtain ⟨g', cs'⟩ := p
          simp only [List.lookup] at hl
          split at hl
          · rename_i he
            simp at he hl
            subst he hl
            simp
          · simp [ih hl]
      obtain ⟨h1, h2⟩ := hS.gl _ hmem
      refine .c (.fz (.vw (base := 0) (off := 0) (fun j => cs.getD j default) ⟨h1, fun h => by cases h⟩ (fun j c hj => ?_) (fun j c hj => ?_)))
      all_goals
        rw [List.getElem?_map, Option.map_eq_some_iff] at hj
        obtain ⟨x, hx, rfl⟩ := hj
        obtain ⟨g1, g2⟩ := h2.1 j x hx
        simp only [List.getD, hx, Option.getD_some]
      · simpa using g1
      · exact .v g2
    · exact .any
  | func f => exact .c (.func (fun _ => default) rfl (fun j c h => by simp at h) (fun j c h => by simp at h))

section
variable {X : Cx} {m0 : Mem} {Q : Exit → Act → World → Prop}

theorem vop_sound {m : Mem} {n : Nat} {sl : Sl} {H : List Ob} {a : Act} (hs : SlotR m n sl a) (hS : Sim X.G m H) (_hE : Ext m0 m) {o : Oper} {raw : Bool} {K : V → List Ob → Prop} (h : vop X raw o.op (rho X.G sl) H K) {next : Act → World → Prop}
    (hn : ∀ (v : V) (H' : List Ob) (m' : Mem) (u : Value), K v H' → Sim X.G m' H' → Ext m m' → RV m' v u → next (a.put o.dst u) m'.w) : o.wp X.P a m.w next Q := by
  have hρ := fun x => rho_rel hS hs x
  unfold vop at h
  unfold Oper.wp
  split at h
  · rename_i f args hc
    split at h
    · rename_i g caps ht
      have hcall : CallC X g (args.map (rho X.G sl) ++ caps) H K := h
      generalize hop : o.op = op at hc
      cases op <;> simp only [callOf] at hc <;> try (cases hc; done)
      rename_i cc
      obtain ⟨callee, args', tys⟩ := cc
      cases callee <;> simp only at hc <;> try (cases hc; done)
      rename_i f'
      simp only [Option.some.injEq, Prod.mk.injEq] at hc
      obtain ⟨rfl, rfl⟩ := hc
      have hf := hρ f'
      generalize hv : rho X.G sl f' = vf at ht hf
      cases vf with
      | c x =>
        cases x <;> simp only [target] at ht <;> try (cases ht; done)
        rename_i g' cs
        simp only [Option.some.injEq, Prod.mk.injEq] at ht
        obtain ⟨rfl, rfl⟩ := ht
        generalize huf : a.eval f' = uf at hf
        cases hf.cell with
        | fz h => cases h
        | func us hl hw hr =>
          rename_i carr
          have hrun : (execOp a.eval o).run X.P m.w = (callFunc g' (args'.map a.eval ++ carr)).run X.P m.w := by
            simp only [execOp, hop, resolve, Sem.run_bind, huf, Deferred.ofValue, Sem.run_pure, Result.andThen_ok, invoke, Array.empty_append]
          have hargs : RVs m (args'.toList.map (rho X.G sl) ++ cs.map V.c) (args'.map a.eval ++ carr) := by
            refine ⟨by simp [hl], fun j v hj => ?_⟩
            by_cases hlt : j < args'.size
            · rw [List.getElem?_append_left (by simpa using hlt), List.getElem?_map, Option.map_eq_some_iff] at hj
              obtain ⟨x, hx, rfl⟩ := hj
              refine ⟨a.eval x, ?_, hρ x⟩
              rw [Array.getElem?_append_left (by simpa using hlt)]
              simpa using ⟨x, by simpa using hx, rfl⟩
            · rw [List.getElem?_append_right (by simp; omega), List.getElem?_map, Option.map_eq_some_iff] at hj
              obtain ⟨c, hc, rfl⟩ := hj
              simp at hc
              refine ⟨us (j - args'.size), ?_, .c (hr _ c hc)⟩
              rw [Array.getElem?_append_right (by simp; omega)]
              simpa using hw _ c hc
          rw [hrun]
          rcases hcall m (args'.map a.eval ++ carr) hS hargs with ⟨u, w', h1, m', r, H', hmw, hK, hS', hE', hrv⟩ | ⟨h1, h2⟩
          · rw [h1, Oper.upon_value, ← hmw]
            exact hn r H' m' u hK hS' hE' hrv
          · rw [h1, Oper.upon_enter]
            refine h2.mono fun e w' ⟨u, he, m', r, H', hmw, hK, hS', hE', hrv⟩ => ?_
            subst he
            rw [← hmw]
            exact hn r H' m' u hK hS' hE' hrv
      | _ => simp [target] at ht
    · exact h.elim
  · split at h
    · rename_i v hv
      obtain ⟨u, m', hrun, hS', hE', hrv⟩ := evq_sound (o := o) hS hρ hv
      rw [hrun, Oper.upon_value]
      exact hn v H m' u h hS' hE' hrv
    · split at h
      · rename_i f hf
        obtain ⟨hφ, hK⟩ := h
        obtain ⟨n, m', hrun, hS', hE', hrv⟩ := eve_sound (o := o) hS hρ hf hφ
        rcases hrv with ⟨u, rfl, hrv⟩ | ⟨rfl, hv⟩
        · rw [hrun, Oper.upon_value]
          exact hn f.v f.H m' u hK hS' hE' hrv
        · rw [hrun, Oper.upon_skip]
          exact hn f.v f.H m' Go.undef hK hS' hE' (by rw [hv]; exact .any)
      · obtain ⟨nx, m', v, H', hrun, hS', hE', hK, hrv⟩ := h.2 m a.eval o rfl hS hρ
        rcases hrv with ⟨u, rfl, hrv⟩ | ⟨rfl, hv⟩
        · rw [hrun, Oper.upon_value]
          exact hn v H' m' u hK hS' hE' hrv
        · rw [hrun, Oper.upon_skip]
          exact hn v H' m' Go.undef hK hS' hE' (by rw [hv]; exact .any)

/-- Whether an operation is passed over, as the data says. -/
theorem vguard_sound {m : Mem} {n : Nat} {sl : Sl} {a : Act} (hs : SlotR m n sl a) {ops : Array Oper} {o : Oper} {A B : Prop} (h : vguard ops.toList sl o A B) :
    (Region.wanted o (yielded ops a.tmps) = true ∧ A) ∨ (Region.wanted o (yielded ops a.tmps) = false ∧ B) := by
  unfold vguard at h
  unfold Region.wanted
  cases hg : o.guard with
  | none => rw [hg] at h; exact .inl ⟨rfl, h⟩
  | some jw =>
    obtain ⟨j, want⟩ := jw
    rw [hg] at h
    simp only at h ⊢
    have hops : ops.toList[j]? = ops[j]? := by simp
    rw [hops] at h
    cases hd : (ops[j]?).bind (·.dst) with
    | none => rw [hd] at h; exact h.elim
    | some d =>
      rw [hd] at h
      simp only at h
      have hslot := hs.get d
      generalize hv : sl d = v at h hslot
      have hy : yielded ops a.tmps j = match a.tmps[d]? with | some (.bool b) => some b | _ => none := by
        unfold yielded; rw [hd]; rfl
      rw [hy]
      have hget : a.tmps.getD d Go.undef = match a.tmps[d]? with | some u => u | none => Go.undef := by
        rw [Array.getD_eq_getD_getElem?]; cases a.tmps[d]? <;> rfl
      cases v with
      | c x =>
        cases x with
        | v y =>
          cases y with
          | bool b =>
            simp only at h
            have hb : a.tmps[d]? = some (.bool b) := by
              have := hslot.val
              rw [hget] at this
              cases ha : a.tmps[d]? with
              | none => rw [ha] at this; cases this
              | some u => rw [ha] at this; simp only at this; rw [this]
            rw [hb]
            simp only
            by_cases hbw : b = want
            · rw [if_pos hbw] at h; exact .inl ⟨by simp [hbw], h⟩
            · rw [if_neg hbw] at h; exact .inr ⟨by simpa using hbw, h⟩
          | _ => exact h.elim
        | _ => exact h.elim
      | tup vs =>
        simp only at h
        refine .inr ⟨?_, h⟩
        rw [hget] at hslot
        cases ha : a.tmps[d]? with
        | none => rfl
        | some u =>
          rw [ha] at hslot
          simp only at hslot
          cases hslot with
          | tup => rfl
      | _ => exact h.elim

theorem vops_sound {n : Nat} {ops : Array Oper} {K : Sl → List Ob → Prop} (hd : dstOk n ops.toList = true) (hQ : ∀ a w, Rel X m0 n K a w → Q .normal a w) : ∀ (r : List Oper) (i : Nat) (m : Mem) (sl : Sl) (H : List Ob) (a : Act),
    ops.toList.drop i = r → SlotR m n sl a → Sim X.G m H → Ext m0 m → vops X ops.toList r K sl H → wpOps X.P ops Q (List.range' i r.length) a m.w
  | [], i, m, sl, H, a, hr, hs, hS, hE, h => hQ _ _ ⟨m, sl, H, rfl, hs, hS, hE, h⟩
  | o :: r, i, m, sl, H, a, hr, hs, hS, hE, h => by
    have hoi : ops[i]? = some o := by
      have : (ops.toList.drop i)[0]? = some o := by rw [hr]; rfl
      rw [List.getElem?_drop] at this
      simpa using this
    have hdo : ∀ d, o.dst = some d → d < n := dstOk_spec hd o (by
      have := List.mem_of_getElem? (l := ops.toList) (i := i) (a := o) (by simpa using hoi)
      exact this)
    have hr' : ops.toList.drop (i + 1) = r := by
      have : (ops.toList.drop i).drop 1 = r := by rw [hr]; rfl
      rw [List.drop_drop] at this
      exact this
    rw [List.length_cons, List.range'_succ, wpOps_cons]
    unfold wpOp
    rw [hoi]
    simp only
    rcases vguard_sound (ops := ops) hs h with ⟨hw, h⟩ | ⟨hw, h⟩
    · rw [hw]
      simp only [if_true]
      refine .inl (vop_sound (Q := Q) hs hS hE h fun v H' m' u hK hS' hE' hrv => ?_)
      exact vops_sound hd hQ r (i + 1) m' _ H' _ hr' ((hs.ext hE').put hdo hrv) hS' (hE.trans hE') hK
    · rw [hw]
      simp only [Bool.false_eq_true, if_false]
      exact vops_sound hd hQ r (i + 1) m _ H _ hr' (hs.put hdo RV.undef) hS hE h

theorem region_sound {n : Nat} {id : Nat} {ops : Array Oper} {K : Sl → List Ob → Prop} (hd : dstOk n ops.toList = true) (hQ : ∀ a w, Rel X m0 n K a w → Q .normal a w) {m : Mem} {sl : Sl} {H : List Ob} {a : Act} (hs : SlotR m n sl a) (hS : Sim X.G m H) (hE : Ext m0 m)
    (h : vops X ops.toList ops.toList K sl H) : (Code.region id ops false).wp X.P Q a m.w := by
  refine wp_region ?_
  have := vops_sound hd hQ ops.toList 0 m sl H a (by simp) hs hS hE h
  simpa [List.range_eq_range'] using this
end
end Go.VL
