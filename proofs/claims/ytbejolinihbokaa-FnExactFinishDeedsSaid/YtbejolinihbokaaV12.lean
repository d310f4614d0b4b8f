/- What an operation comes to hangs on its operands alone; literals of slices as frozen memory. Over any program. -/
import Derived.Test.YtbejolinihbokaaV11
namespace Go.VL
open Go.RowKit

/-- Does the operation look at the objects? -/
def sens : Op → Bool
  | .load _ _ => true
  | .slice _ _ _ _ _ => true
  | .call { callee := .value _, args := _, argTypes := _ } => true
  | _ => false

theorem parts_congr {ρ ρ' : Operand → V} : ∀ (ps : List (Nat × Operand)), (∀ x ∈ ps.map (·.2), ρ x = ρ' x) → (ps.map fun p => (p.1, ρ p.2)) = ps.map fun p => (p.1, ρ' p.2)
  | [], _ => rfl
  | p :: ps, h => by
    simp only [List.map_cons]
    rw [h p.2 (by simp), parts_congr ps fun x hx => h x (by simp only [List.map_cons, List.mem_cons]; exact .inr hx)]

theorem capsOf_congr {ρ ρ' : Operand → V} : ∀ (xs : List Operand), (∀ x ∈ xs, ρ x = ρ' x) → capsOf ρ xs = capsOf ρ' xs
  | [], _ => rfl
  | x :: xs, h => by
    simp only [capsOf]
    rw [h x (by simp), capsOf_congr xs fun y hy => h y (by simp [hy])]

theorem bnd_congr {ρ ρ' : Operand → V} {x : Option Operand} {d : Int} (h : ∀ y, x = some y → ρ y = ρ' y) : bnd ρ x d = bnd ρ' x d := by
  cases x with
  | none => rfl
  | some y => simp only [bnd]; rw [h y rfl]

theorem evq_congr {lay : TypeId → Option Lay} {H : List Ob} {ρ ρ' : Operand → V} (op : Op) (h : ∀ x ∈ op.operands, ρ x = ρ' x) : evq lay H ρ op = evq lay H ρ' op := by
  cases op <;> simp only [Op.operands] at h
  case build t ps =>
    simp only [evq]
    rw [parts_congr ps.toList fun x hx => h x (by simpa using hx)]
  case slice t x lo hi mx =>
    have hx := h x (by simp)
    have hlo : ∀ d, bnd ρ lo d = bnd ρ' lo d := fun d => bnd_congr fun y hy => h y (by subst hy; simp)
    have hhi : ∀ d, bnd ρ hi d = bnd ρ' hi d := fun d => bnd_congr fun y hy => h y (by subst hy; simp)
    cases mx
    · simp only [evq]; rw [hx]; simp only [hlo, hhi]
    · simp only [evq]
  case makeFunc f first caps =>
    cases f with
    | func g =>
      simp only [evq]
      rw [capsOf_congr caps.toList fun x hx => h x (by simp at hx ⊢; exact .inr hx)]
    | _ => rfl
  case call c =>
    obtain ⟨callee, args, tys⟩ := c
    have ha : ∀ x ∈ args.toList, ρ x = ρ' x := fun x hx => h x (by simp only [Call.operands]; simp at hx ⊢; exact .inr hx)
    cases callee with
    | builtin b =>
      cases b <;> simp only [evq]
      all_goals
        generalize args.toList = l at ha ⊢
        match l, ha with
        | [], _ => rfl
        | [x], ha =>
          have h1 : ρ x = ρ' x := ha x List.mem_cons_self
          first | rfl | simp only [h1] | (split <;> first | rfl | (rename_i q1 q2; simp only [List.cons.injEq] at q1; obtain ⟨rfl, -⟩ := q1; simp only [h1]) | simp_all)
        | [x, y], ha =>
          have h1 : ρ x = ρ' x := ha x List.mem_cons_self
          have h2 : ρ y = ρ' y := ha y (List.mem_cons_of_mem _ List.mem_cons_self)
          first | rfl | simp only [h1, h2] | (split <;> first | rfl | (rename_i q1 q2; simp only [List.cons.injEq] at q1; obtain ⟨rfl, rfl, -⟩ := q1; simp only [h1, h2]) | simp_all)
        | _ :: _ :: _ :: _, _ => rfl
    | _ => rfl
  all_goals (try simp only [evq]) <;> (try rfl)
  all_goals
    simp only [Array.mem_def, List.mem_cons, List.not_mem_nil, or_false, forall_eq_or_imp, forall_eq] at h
    first
      | (rw [h]; done)
      | (simp only [h]; done)

theorem evq_heap {lay : TypeId → Option Lay} {H H' : List Ob} {ρ : Operand → V} (op : Op) (h : sens op = false) : evq lay H ρ op = evq lay H' ρ op := by
  cases op <;> try rfl
  case load => cases h
  case slice => cases h
  case makeFunc f _ _ => cases f <;> rfl
  case call c =>
    obtain ⟨callee, args, tys⟩ := c
    cases callee with
    | builtin b => cases b <;> rfl
    | value f => rfl
    | invoke r m => rfl

theorem srcOf_congr {H : List Ob} {v v' : V} (h : v = v') : srcOf H v = srcOf H v' := by rw [h]

theorem eve_congr {lay : TypeId → Option Lay} {H : List Ob} {ρ ρ' : Operand → V} (op : Op) (h : ∀ x ∈ op.operands, ρ x = ρ' x) : eve lay H ρ op = eve lay H ρ' op := by
  cases op <;> simp only [Op.operands] at h
  case buildSlice t n ps =>
    simp only [eve]
    rw [parts_congr ps.toList fun x hx => h x (by simpa using hx)]
  case call c =>
    obtain ⟨callee, args, tys⟩ := c
    have ha : ∀ x ∈ args.toList, ρ x = ρ' x := fun x hx => h x (by simp only [Call.operands]; simp at hx ⊢; exact .inr hx)
    cases callee with
    | builtin b =>
      cases b <;> simp only [eve]
      all_goals
        generalize args.toList = l at ha ⊢
        match l, ha with
        | [], _ => rfl
        | [x], _ => rfl
        | [x, y], ha =>
          have h1 : ρ x = ρ' x := ha x List.mem_cons_self
          have h2 : ρ y = ρ' y := ha y (List.mem_cons_of_mem _ List.mem_cons_self)
          first | rfl | simp only [h1, h2] | (split <;> first | rfl | (rename_i q1 q2; simp only [List.cons.injEq] at q1; obtain ⟨rfl, rfl, -⟩ := q1; simp only [h1, h2]) | simp_all)
        | _ :: _ :: _ :: _, _ => rfl
    | _ => rfl
  all_goals (try simp only [eve]) <;> (try rfl)
  all_goals
    simp only [Array.mem_def, List.mem_cons, List.not_mem_nil, or_false, forall_eq_or_imp, forall_eq] at h
    first
      | (rw [h]; done)
      | (simp only [h]; done)

theorem callOf_congr {ρ ρ' : Operand → V} {op : Op} (h : ∀ x ∈ op.operands, ρ x = ρ' x) {f : Operand} {args : List Operand} (hc : callOf op = some (f, args)) : ρ f = ρ' f ∧ args.map ρ = args.map ρ' := by
  cases op <;> simp only [callOf] at hc <;> try (cases hc; done)
  rename_i c
  obtain ⟨callee, args', tys⟩ := c
  cases callee <;> simp only at hc <;> try (cases hc; done)
  simp only [Option.some.injEq, Prod.mk.injEq] at hc
  obtain ⟨rfl, rfl⟩ := hc
  simp only [Op.operands, Call.operands] at h
  exact ⟨h _ (by simp), List.map_congr_left fun x hx => h x (by simp at hx ⊢; exact .inr hx)⟩

def frzC : C → Bool
  | .pt _ _ => false
  | .mu _ _ _ _ => false
  | .fn _ _ => false
  | _ => true
theorem R.rf {m : Mem} {c : C} {u : Value} (hf : frzC c = true) {o : Bool} (ho : o = true → ownC c = true) (h : R m c u) : RF m o c u := by
  cases h with
  | fz h =>
    cases c with
    | v x => cases h with | v h => exact .v h
    | f k x => cases h with
      | fs h => exact .fs h
      | fn h => exact .fn h
    | any => cases h with | any h => exact .any h
    | sl b n k cs => exact RF.down (m := m) ho h
    | vw b cs off => exact RF.down (m := m) ho h
    | _ => cases hf
  | _ => cases hf

/-- A slice's literal, frozen at once. -/
def frz (lay : TypeId → Option Lay) (ρ : Operand → V) : Op → Option V
  | .buildSlice t n parts => match lay t with
    | some ⟨.slice e, _, _, _⟩ => match lay e with
      | some L => match fillC (fun i => some (i * L.size, L.size)) (zeros L n) (parts.toList.map fun p => (p.1, ρ p.2)) with
        | some cs => if 0 < L.size ∧ n * L.size ≤ 2 ^ 24 ∧ cs.all frzC = true then some (.c (.sl (cs.all ownC) n L.size cs)) else none
        | none => none
      | none => none
    | _ => none
  | _ => none

theorem frz_congr {lay : TypeId → Option Lay} {ρ ρ' : Operand → V} (op : Op) (h : ∀ x ∈ op.operands, ρ x = ρ' x) : frz lay ρ op = frz lay ρ' op := by
  cases op <;> simp only [Op.operands] at h <;> try rfl
  case buildSlice t n ps =>
    simp only [frz]
    rw [parts_congr ps.toList fun x hx => h x (by simpa using hx)]

theorem good_frz {X : Cx} {m : Mem} {H : List Ob} {ε : Operand → Value} {ρ : Operand → V} {o : Oper} {v : V} (hS : Sim X.G m H) (hρ : ∀ x, RV m (ρ x) (ε x)) (h : frz X.lay ρ o.op = some v) : Good X m H ε o v := by
  generalize hop : o.op = op at h
  cases op <;> simp only [frz] at h <;> try (cases h; done)
  rename_i t n parts
  split at h
  · rename_i e _ _ _ hL0
    have ht : X.P.underlying t = some (.slice e) := (X.ok t _ hL0).kind
    split at h
    · rename_i L hL
      split at h
      · rename_i cs hf
        split at h
        · rename_i hh
          obtain ⟨h0, h24, hfz⟩ := hh
          simp only [Option.some.injEq] at h; subst h
          obtain ⟨-, hp, i, z, g1, g2, g3, g4, g5, g6⟩ := X.ok e L hL
          have hs : L.zero.length = L.size := by rw [← g5]; simpa using g6
          obtain ⟨a1, a2⟩ := zeros_rel (m := m) hp hs h0 g5 n
          obtain ⟨arr', f1, f2, f3⟩ := fill_rel hρ parts.toList (zeros L n) cs _ a1 a2 hf
          have hlen : arr'.size = n * L.size ∧ cs.length = n * L.size := by
            have : ∀ (parts : List (Nat × V)) (cs cs' : List C) (place : Nat → Option (Nat × Nat)), fillC place cs parts = some cs' → cs'.length = cs.length := by
              intro parts
              induction parts with
              | nil => intro cs cs' place h; simp [fillC] at h; rw [h]
              | cons p parts ih =>
                intro cs cs' place h
                obtain ⟨i, v⟩ := p
                simp only [fillC] at h
                split at h
                · split at h
                  · rename_i hh
                    rw [ih _ _ _ h]
                    simp; omega
                  · cases h
                · cases h
            have h1 := this _ _ _ _ hf
            rw [zeros_length hs] at h1
            exact ⟨by rw [f2, h1], h1⟩
          have hrun : (execOp ε o).run X.P m.w = .ok (.value (.slice (some ⟨m.w.heap.size, 0, none⟩) n n)) { m.w with heap := m.w.heap.push (.cells arr' e) } := by
            simp only [execOp, hop, Instr.buildSlice, Sem.run_bind, run_underlying ht, Result.andThen_ok, sizeOf, typeInfo, program, Sem.run, g1, Sem.run_pure, g2]
            rw [if_neg (by omega)]
            by_cases hn : n * L.size = 0
            · have hn0 : n = 0 := by
                rcases Nat.mul_eq_zero.1 hn with h | h
                · exact h
                · omega
              subst hn0
              simp only [Nat.zero_mul, if_true, Array.toList_map]
              have : ((Array.range (0 * L.size)).map (z.cells[· % z.cells.size]!)) = (Array.range 0).map ((#[] : Array Value)[· % (#[] : Array Value).size]!) := by simp
              rw [this] at f1
              simp only [Sem.run_bind, Sem.run_pure, Result.andThen_ok, f1]
              simp [newRow, newObj, Sem.run]
            · simp only [hn, if_false, Sem.run_bind, zeroValue, typeInfo, program, Sem.run, g1, g4, Sem.run_pure, Result.andThen_ok, Array.toList_map, f1]
              simp [newRow, newObj, Sem.run]
          obtain ⟨q1, q2⟩ := hS.grow (w' := { m.w with heap := m.w.heap.push (.cells arr' e) }) ⟨rfl, rfl, rfl, by simp, fun b hb => by simp only [Array.getElem?_push]; rw [if_neg (by omega)]⟩
          obtain ⟨us, hul, hus⟩ := choose_list (cs := cs) (p := fun j c u => arr'[j]? = some u ∧ R m c u) f3
          refine ⟨_, _, hrun, q1, q2, .c (.fz (.sl (fun j => us.getD j default) (Nat.le_refl _) (by unfold maxLen; have : n ≤ n * L.size := Nat.le_mul_of_pos_right n h0; omega) hlen.2
            (fun hne => ⟨rfl, .inr ⟨Nat.le_refl _, by simp⟩, fun _ => hS.bs⟩) (fun j c hj => ?_) (fun j c hj => ?_)))⟩
          · have hlt := (List.getElem?_eq_some_iff.1 hj).1
            obtain ⟨u, h1, h2, h3⟩ := hus j c hj
            simp [List.getD, h1, World.cell?, h2]
          · obtain ⟨u, h1, h2, h3⟩ := hus j c hj
            have hm := List.mem_of_getElem? hj
            simpa [List.getD, h1, C.own] using (h3.ext q2).rf (List.all_eq_true.1 hfz c hm) (fun (ho : cs.all ownC = true) => List.all_eq_true.1 ho c hm)
        · cases h
      · cases h
    · cases h
  · cases h
end Go.VL
