/- Every operation that writes nothing: the model comes to what 'evq' says. Over any program. -/
import Derived.Test.YtbejolinihbokaaV4b
namespace Go.VL
open Go.RowKit

section
variable {X : Cx} {m : Mem} {H : List Ob} {ε : Operand → Value} {ρ : Operand → V} {o : Oper} {v : V}

theorem RV.vwI {own : Bool} {cs : List C} {off : Nat} {u : Value} (h : RV m (.c (.vw own cs off)) u) : ∃ b base, u = .pointer (some ⟨b, base + off, none⟩) ∧ m.F b ∧ (own = true → m.B ≤ b) ∧
    (∀ (j : Nat) (c : C), cs[j]? = some c → ∃ u, m.w.cell? ⟨b, base + j, none⟩ = some u ∧ RF m own c u) ∧ ∀ off', R m (.vw own cs off') (.pointer (some ⟨b, base + off', none⟩)) := by
  cases h with
  | c h => cases h with
    | fz h => cases h with
      | vw us hF hw hr => exact ⟨_, _, rfl, hF.1, hF.2, fun j c hj => ⟨us j, hw j c hj, hr j c hj⟩, fun off' => .fz (.vw us hF hw hr)⟩
theorem RV.ptI {id off : Nat} {u : Value} (h : RV m (.c (.pt id off)) u) : u = .pointer (some ⟨(m.μ id).block, (m.μ id).base + off, none⟩) ∧ id < m.N ∧ (m.μ id).gh = false := by
  cases h with
  | c h => cases h with
    | fz h => cases h
    | pt h hg => exact ⟨rfl, h, hg⟩
/-- A frozen slice: nil, or in memory. -/
theorem RV.slI {own : Bool} {n k : Nat} {cs : List C} {u : Value} (h : RV m (.c (.sl own n k cs)) u) : (u = .slice none 0 0 ∧ n = 0 ∧ cs = []) ∨ ∃ a cap, u = .slice (some a) n cap ∧ n ≤ cap ∧ cap ≤ maxLen ∧ cs.length = n * k ∧
    (cs ≠ [] → a.spot = none ∧ m.F a.block ∧ (own = true → m.B ≤ a.block)) ∧ (∀ (j : Nat) (c : C), cs[j]? = some c → ∃ u, m.w.cell? ⟨a.block, a.off + j, none⟩ = some u ∧ RF m own c u) := by
  cases h with
  | c h => cases h with
    | fz h => cases h with
      | sl us hn hc hl hF hw hr => exact .inr ⟨_, _, rfl, hn, hc, hl, hF, fun j c hj => ⟨us j, hw j c hj, hr j c hj⟩⟩
      | nil => exact .inl ⟨rfl, rfl, rfl⟩
theorem RV.muI {id off n k : Nat} {u : Value} (h : RV m (.c (.mu id off n k)) u) : (u = .slice none 0 0 ∧ n = 0 ∧ off = 0 ∧ id < m.N ∧ (m.μ id).gh = true) ∨ ∃ cap, u = .slice (some ⟨(m.μ id).block, (m.μ id).base + off, none⟩) n cap ∧ id < m.N ∧ n ≤ cap ∧
    (m.μ id).base + off + cap * k ≤ (m.μ id).size ∧ cap ≤ maxLen ∧ (m.μ id).gh = false := by
  cases h with
  | c h => cases h with
    | fz h => cases h
    | mu h hg hn hs hm => exact .inr ⟨_, rfl, h, hn, hs, hm, hg⟩
    | mn h hg => exact .inl ⟨rfl, rfl, rfl, h, hg⟩

/-- A view of some cells out of others. -/
theorem RF.vw_sub {own b' : Bool} {b base : Nat} {cs : List C} (hF : m.F b ∧ (own = true → m.B ≤ b)) (hc : ∀ (j : Nat) (c : C), cs[j]? = some c → ∃ u, m.w.cell? ⟨b, base + j, none⟩ = some u ∧ RF m own c u) (off n : Nat) :
    RF m own (.vw b' (sub cs off n) 0) (.pointer (some ⟨b, base + off, none⟩)) := by
  obtain ⟨us, hl, hus⟩ := choose_list (cs := sub cs off n) (p := fun j c u => m.w.cell? ⟨b, base + off + j, none⟩ = some u ∧ RF m own c u) (fun j c hj => by
    obtain ⟨-, hg⟩ := sub_get hj
    obtain ⟨u, h1, h2⟩ := hc _ _ hg
    exact ⟨u, by rw [Nat.add_assoc]; exact h1, h2⟩)
  exact .vw (base := base + off) (off := 0) (fun j => us.getD j default) hF (fun j c hj => by obtain ⟨u, h1, h2, h3⟩ := hus j c hj; simpa [List.getD, h1] using h2)
    (fun j c hj => by obtain ⟨u, h1, h2, h3⟩ := hus j c hj; simpa [List.getD, h1] using h3)
theorem R.vw_sub {own : Bool} {b base : Nat} {cs : List C} (hF : m.F b ∧ (own = true → m.B ≤ b)) (hc : ∀ (j : Nat) (c : C), cs[j]? = some c → ∃ u, m.w.cell? ⟨b, base + j, none⟩ = some u ∧ RF m own c u) (off n : Nat) :
    R m (.vw own (sub cs off n) 0) (.pointer (some ⟨b, base + off, none⟩)) := .fz (RF.vw_sub hF hc off n)

theorem capsOf_get {ρ : Operand → V} : ∀ {xs : List Operand} {cs : List C}, capsOf ρ xs = some cs → cs.length = xs.length ∧ ∀ (j : Nat) (c : C), cs[j]? = some c → ∃ x, xs[j]? = some x ∧ ρ x = .c c
  | [], cs, h => by simp [capsOf] at h; subst h; simp
  | x :: xs, cs, h => by
    simp only [capsOf] at h
    split at h
    · rename_i a cs' h1 h2
      simp only [Option.some.injEq] at h
      subst h
      obtain ⟨h3, h4⟩ := capsOf_get h2
      refine ⟨by simp [h3], fun j c hj => ?_⟩
      cases j with
      | zero => simp at hj; subst hj; exact ⟨x, rfl, h1⟩
      | succ j => simpa using h4 j c (by simpa using hj)
    · cases h

/-- A slice of the nil slice. -/
theorem good_slice_nil (hS : Sim X.G m H) {t e : TypeId} {x : Operand} {lo hi : Option Operand} (ho : o.op = .slice t x lo hi none) (ht : X.P.underlying t = some (.slice e)) {L : Lay} (hL : X.lay e = some L) (hx : ε x = .slice none 0 0)
    (hlo : (lo = none ∧ (0 : Int) = 0) ∨ ∃ y k, lo = some y ∧ ε y = .int k 0) (hhi : (hi = none ∧ (0 : Int) = (0 : Nat)) ∨ ∃ y k, hi = some y ∧ ε y = .int k 0) (hv : RV m v (.slice none 0 0)) : Good X m H ε o v := by
  obtain ⟨i, i1, i2⟩ := size_ok hL
  refine Good.here hS (u := .slice none 0 0) ?_ hv
  have := run_bounds (P := X.P) (w := m.w) (isSlice := true) (len := 0) (cap := 0) (lo_of hlo) (lo_of hhi) (Int.le_refl 0) (Int.le_refl 0) (Int.le_refl 0) (Nat.le_refl 0)
  simp [execOp, ho, hx, Instr.sliceAt, run_underlying ht, Instr.slice, this, sizeOf, typeInfo, i1]

theorem evq_sound (hS : Sim X.G m H) (hρ : ∀ x, RV m (ρ x) (ε x)) (h : evq X.lay H ρ o.op = some v) : Good X m H ε o v := by
  generalize hop : o.op = op at h
  cases op <;> simp only [evq] at h <;> try (cases h; done)
  case move x => simp at h; subst h; exact good_move hS (.inl hop) (hρ x)
  case assign x => simp at h; subst h; exact good_move hS (.inr hop) (hρ x)
  case pick c a b =>
    have hc := hρ c
    split at h
    · rename_i t hc'
      rw [hc'] at hc
      simp only [Option.some.injEq] at h
      subst h
      exact good_pick hS hop hc.val (hρ a) (hρ b)
    · cases h
  case load t x =>
    have hx := hρ x
    split at h
    · rename_i L own cs off hL hx'
      rw [hx'] at hx
      split at h
      · rename_i hl
        obtain ⟨b, base, hu, hF, hB, hc, -⟩ := hx.vwI
        refine good_load hS hop hL hu (cs := reowns own (sub cs off L.size)) (fun j c hj => ?_) (by rw [reowns_length]; exact sub_length hl) h
        obtain ⟨c', hj', rfl⟩ := reowns_get hj
        obtain ⟨-, hg⟩ := sub_get hj'
        obtain ⟨u, h1, h2⟩ := hc _ _ hg
        exact ⟨u, by rw [Nat.add_assoc]; exact h1, h2.r⟩
      · cases h
    · rename_i L id off hL hx'
      rw [hx'] at hx
      split at h
      · rename_i ob ho
        split at h
        · rename_i hl
          obtain ⟨hu, -⟩ := hx.ptI
          refine good_load hS hop hL hu (cs := sub ob.cs off L.size) (fun j c hj => ?_) (sub_length hl.2) h
          obtain ⟨-, hg⟩ := sub_get hj
          obtain ⟨u, h1, h2⟩ := hS.cell ho hl.1 hg
          exact ⟨u, by rw [Nat.add_assoc]; exact h1, h2⟩
        · cases h
      · cases h
    · cases h
  case nilCheck x =>
    have hx := hρ x
    split at h
    · rename_i hx'
      simp only [Option.some.injEq] at h; subst h
      rw [hx'] at hx
      obtain ⟨b, base, hu, -⟩ := hx.vwI
      exact good_nilCheck hS hop (.inl ⟨_, hu⟩) hx
    · rename_i hx'
      simp only [Option.some.injEq] at h; subst h
      rw [hx'] at hx
      exact good_nilCheck hS hop (.inl ⟨_, hx.ptI.1⟩) hx
    · rename_i hx'
      simp only [Option.some.injEq] at h; subst h
      rw [hx'] at hx
      refine good_nilCheck hS hop (.inr ?_) hx
      generalize ε x = u at hx
      cases hx.cell with
      | fz h => cases h
      | func us hl hw hr => exact ⟨_, _, rfl⟩
    · cases h
  case binOp op t x y ty =>
    have hx := hρ x
    have hy := hρ y
    split at h
    · rename_i L a b hL hx' hy'
      rw [hx'] at hx
      rw [hy'] at hy
      obtain ⟨c, hc, rfl⟩ := Option.map_eq_some_iff.1 h
      exact good_bin hS hop hL hx.cell hy.cell hc
    · cases h
  case unOp op t x =>
    have hx := hρ x
    split at h
    · rename_i a hx'
      rw [hx'] at hx
      obtain ⟨c, hc, rfl⟩ := Option.map_eq_some_iff.1 h
      exact good_un hS hop hx.cell hc
    · cases h
  case fieldAddr s x f =>
    have hx := hρ x
    split at h
    · rename_i fs _ _ _ own cs off hL hx'
      rw [hx'] at hx
      obtain ⟨p, hp, rfl⟩ := Option.map_eq_some_iff.1 h
      obtain ⟨b, base, hu, hF, hB, hc, hv⟩ := hx.vwI
      exact good_fieldAddr hS hop hL hp hu (.c (by rw [Nat.add_assoc]; exact hv _))
    · rename_i fs _ _ _ id off hL hx'
      rw [hx'] at hx
      obtain ⟨p, hp, rfl⟩ := Option.map_eq_some_iff.1 h
      obtain ⟨hu, hid, hgh⟩ := hx.ptI
      exact good_fieldAddr hS hop hL hp hu (.c (by rw [Nat.add_assoc]; exact .pt hid hgh))
    · cases h
  case field s x f =>
    have hx := hρ x
    split at h
    · rename_i fs _ _ _ cs hL hx'
      rw [hx'] at hx
      obtain ⟨p, hp, h⟩ := Option.bind_eq_some_iff.1 h
      obtain ⟨L, hL1, h⟩ := Option.bind_eq_some_iff.1 h
      split at h
      · rename_i hl
        exact good_field hS hop hL hp hL1 hx hl h
      · cases h
    · cases h
  case indexAddr t x i =>
    have hx := hρ x
    have hi := hρ i
    split at h
    · rename_i e _ _ _ own n k cs _ j hL hx' hi'
      rw [hx'] at hx
      rw [hi'] at hi
      split at h
      · rename_i L hLe
        split at h
        · rename_i hh
          obtain ⟨hk, hk0, h0, hj⟩ := hh
          simp only [Option.some.injEq] at h; subst h
          obtain ⟨a, cap, hu, hn, hm, hl, hF, hc⟩ := hx.slI.resolve_left (fun h => by omega)
          have hne : cs ≠ [] := by
            rintro rfl
            have : 0 < n * k := Nat.mul_pos (by omega) hk0
            simp at hl; omega
          obtain ⟨hsp, hF1, hF2⟩ := hF hne
          obtain ⟨ab, ao, as⟩ := a
          simp only at hsp hF1 hF2 hc
          subst hsp
          have ht : X.P.underlying t = some (.slice e) := (X.ok t _ hL).kind
          refine good_indexAddr hS hop hLe hi.val h0 hj (.inr ⟨cap, ht, hu⟩) (.c ?_)
          rw [hk]
          exact R.vw_sub ⟨hF1, hF2⟩ hc _ _
        · cases h
      · cases h
    · rename_i e _ _ _ id off n k _ j hL hx' hi'
      rw [hx'] at hx
      rw [hi'] at hi
      split at h
      · rename_i L hLe
        split at h
        · rename_i hh
          obtain ⟨hk, h0, hj⟩ := hh
          simp only [Option.some.injEq] at h; subst h
          obtain ⟨cap, hu, hid, -, -, -, hgh⟩ := hx.muI.resolve_left (fun h => by omega)
          have ht : X.P.underlying t = some (.slice e) := (X.ok t _ hL).kind
          refine good_indexAddr hS hop hLe hi.val h0 hj (.inr ⟨cap, ht, hu⟩) (.c ?_)
          rw [hk, Nat.add_assoc]
          exact .pt hid hgh
        · cases h
      · cases h
    · rename_i n e _ _ _ own cs off _ j hL hx' hi'
      rw [hx'] at hx
      rw [hi'] at hi
      split at h
      · rename_i L hLe
        split at h
        · rename_i hh
          obtain ⟨h0, hj⟩ := hh
          simp only [Option.some.injEq] at h; subst h
          obtain ⟨b, base, hu, hF, hB, hc, hv⟩ := hx.vwI
          have ht : X.P.underlying t = some (.array n e) := (X.ok t _ hL).kind
          refine good_indexAddr hS hop hLe hi.val h0 hj (.inl ⟨ht, hu⟩) (.c ?_)
          rw [Nat.add_assoc]
          exact hv _
        · cases h
      · cases h
    · rename_i n e _ _ _ id off _ j hL hx' hi'
      rw [hx'] at hx
      rw [hi'] at hi
      split at h
      · rename_i L hLe
        split at h
        · rename_i hh
          obtain ⟨h0, hj⟩ := hh
          simp only [Option.some.injEq] at h; subst h
          obtain ⟨hu, hid, hgh⟩ := hx.ptI
          have ht : X.P.underlying t = some (.array n e) := (X.ok t _ hL).kind
          refine good_indexAddr hS hop hLe hi.val h0 hj (.inl ⟨ht, hu⟩) (.c ?_)
          rw [Nat.add_assoc]
          exact .pt hid hgh
        · cases h
      · cases h
    · cases h
  case index t x i =>
    have hx := hρ x
    have hi := hρ i
    split at h
    · rename_i n e _ _ _ cs _ j hL hx' hi'
      rw [hx'] at hx
      rw [hi'] at hi
      split at h
      · rename_i L hLe
        split at h
        · rename_i hh
          have ht : X.P.underlying t = some (.array n e) := (X.ok t _ hL).kind
          exact good_index_array hS hop ht hLe hx hi.val hh.1 hh.2.1 hh.2.2 h
        · cases h
      · cases h
    · rename_i s _ j hL hx' hi'
      rw [hx'] at hx
      rw [hi'] at hi
      split at h
      · rename_i hh
        simp only [Option.some.injEq] at h; subst h
        have ht : X.P.underlying t = some .string := (X.ok t _ hL).kind
        exact good_index_string hS hop ht hx.val hi.val hh.1 hh.2
      · cases h
    · cases h
  case extract x i =>
    have hx := hρ x
    split at h
    · rename_i vs hx'
      rw [hx'] at hx
      exact good_extract hS hop hx h
    · cases h
  case makeFunc fn first caps =>
    cases fn <;> simp only at h <;> try (cases h; done)
    rename_i g
    split at h
    · rename_i hf
      obtain ⟨cs, hcs, rfl⟩ := Option.map_eq_some_iff.1 h
      obtain ⟨h1, h2⟩ := capsOf_get hcs
      refine good_makeFunc hS hop hf (by simpa using h1) (fun j c hj => ?_)
      obtain ⟨x, hx, hr⟩ := h2 j c hj
      have := hρ x
      rw [hr] at this
      exact ⟨x, by simpa using hx, this.cell⟩
    · cases h
  case call cc =>
    obtain ⟨callee, args, argTypes⟩ := cc
    cases callee <;> try (cases h; done)
    rename_i b
    cases b <;> try (cases h; done)
    case max =>
      simp only at h
      split at h
      · rename_i x y hargs
        have hargs' : args = #[x, y] := by cases args; simpa using hargs
        subst hargs'
        have hx := hρ x
        have hy := hρ y
        split at h
        · rename_i hx' hy'
          rw [hx'] at hx
          rw [hy'] at hy
          simp only [Option.some.injEq] at h; subst h
          exact good_max hS hop hx.val hy.val
        · cases h
      · cases h
    case min =>
      simp only at h
      split at h
      · rename_i x y hargs
        have hargs' : args = #[x, y] := by cases args; simpa using hargs
        subst hargs'
        have hx := hρ x
        have hy := hρ y
        split at h
        · rename_i hx' hy'
          rw [hx'] at hx
          rw [hy'] at hy
          simp only [Option.some.injEq] at h; subst h
          exact good_min hS hop hx.val hy.val
        · cases h
      · cases h
    simp only at h
    split at h
    · rename_i x t hargs htypes
      have hargs' : args = #[x] := by cases args; simpa using hargs
      have htypes' : argTypes = #[t] := by cases argTypes; simpa using htypes
      subst hargs' htypes'
      have hx := hρ x
      split at h
      · rename_i e _ _ _ hL
        obtain ⟨n, hn, rfl⟩ := Option.map_eq_some_iff.1 h
        have ht : X.P.underlying t = some (.slice e) := (X.ok t _ hL).kind
        generalize ρ x = vx at hn hx
        unfold lenV at hn
        split at hn
        · simp only [Option.some.injEq] at hn; subst hn
          rcases hx.slI with ⟨hu, rfl, -⟩ | ⟨a, cap, hu, -⟩
          · exact good_len hS hop (.inl ⟨e, _, _, 0, ht, hu, rfl⟩)
          · exact good_len hS hop (.inl ⟨e, _, _, _, ht, hu, rfl⟩)
        · simp only [Option.some.injEq] at hn; subst hn
          rcases hx.muI with ⟨hu, rfl, -⟩ | ⟨cap, hu, -⟩
          · exact good_len hS hop (.inl ⟨e, _, _, 0, ht, hu, rfl⟩)
          · exact good_len hS hop (.inl ⟨e, _, _, _, ht, hu, rfl⟩)
        · simp only [Option.some.injEq] at hn; subst hn
          exact good_len hS hop (.inl ⟨e, _, _, 0, ht, hx.val, rfl⟩)
        · cases hn
      · rename_i s hL hx'
        rw [hx'] at hx
        simp only [Option.some.injEq] at h; subst h
        have ht : X.P.underlying t = some .string := (X.ok t _ hL).kind
        exact good_len hS hop (.inr (.inl ⟨s, ht, hx.val, rfl⟩))
      · rename_i n e _ _ _ hL
        simp only [Option.some.injEq] at h; subst h
        have ht : X.P.underlying t = some (.array n e) := (X.ok t _ hL).kind
        exact good_len hS hop (.inr (.inr ⟨e, n, ht, rfl⟩))
      · cases h
    · cases h
  case build t parts =>
    split at h
    · rename_i fs _ _ z hL
      split at h
      · rename_i places hp
        obtain ⟨cs, hcs, rfl⟩ := Option.map_eq_some_iff.1 h
        exact good_build_struct hS hρ hop hL hp hcs
      · cases h
    · rename_i n e _ _ z hL
      split at h
      · rename_i L hLe
        obtain ⟨cs, hcs, rfl⟩ := Option.map_eq_some_iff.1 h
        exact good_build_array hS hρ hop hL hLe hcs
      · cases h
    · cases h
  case convert s t x =>
    exact good_conv hS hop (hρ x) (by simp only [evq]; exact h)
  case slice t x lo hi mx =>
    cases mx with
    | some _ => simp only at h; cases h
    | none =>
    simp only at h
    have hx := hρ x
    split at h
    · rename_i e _ _ _ own n k cs hL hx'
      rw [hx'] at hx
      have ht : X.P.underlying t = some (.slice e) := (X.ok t _ hL).kind
      split at h
      · rename_i L l hh hLe hlo hhi
        split at h
        · rename_i hc
          obtain ⟨hk, hk0, c0, c1, c2⟩ := hc
          simp only [Option.some.injEq] at h; subst h
          have b1 := bnd_sound hρ hlo
          have b2 := bnd_sound hρ hhi
          rcases hx.slI with ⟨hu, rfl, rfl⟩ | ⟨a, cap, hu, hn, hm, hl, hF, hcell⟩
          · have e1 : l = 0 := by omega
            have e2 : hh = 0 := by omega
            subst e1 e2
            exact good_slice_nil hS hop ht hLe hu b1 b2 (.c (by simpa [sub] using R.fz (m := m) (c := .sl own 0 k []) .nil))
          refine good_slice_slice hS hop ht hLe hu b1 b2 c0 c1 (by omega) hn (.c ?_)
          have hlen : l.toNat * k + (hh.toNat - l.toNat) * k ≤ cs.length := by
            rw [hl, ← Nat.add_mul]; exact Nat.mul_le_mul_right k (by omega)
          obtain ⟨us, hul, hus⟩ := choose_list (cs := sub cs (l.toNat * k) ((hh.toNat - l.toNat) * k)) (p := fun j c u => m.w.cell? ⟨a.block, a.off + l.toNat * k + j, none⟩ = some u ∧ RF m own c u) (fun j c hj => by
            obtain ⟨-, hg⟩ := sub_get hj
            obtain ⟨u, h1, h2⟩ := hcell _ _ hg
            exact ⟨u, by rw [Nat.add_assoc]; exact h1, h2⟩)
          refine .fz (.sl (fun j => us.getD j default) (by omega) (by omega) (sub_length hlen) (fun hne => ?_) (fun j c hj => ?_) (fun j c hj => ?_))
          · have hne' : cs ≠ [] := by rintro rfl; exact hne (by simp [sub])
            obtain ⟨hsp, h1, h2⟩ := hF hne'
            have hblk : (if cap = l.toNat then a else a.add (l.toNat * L.size)).block = a.block := by split <;> simp [Addr.add]; split <;> rfl
            refine ⟨?_, by rw [hblk]; exact h1, by rw [hblk]; exact h2⟩
            split
            · exact hsp
            · unfold Addr.add; split
              · exact hsp
              · rfl
          · obtain ⟨u, h1, h2, h3⟩ := hus j c hj
            have hcap : cap ≠ l.toNat := by
              intro he
              have : (sub cs (l.toNat * k) ((hh.toNat - l.toNat) * k)).length = 0 := by
                rw [sub_length hlen]
                have : hh.toNat - l.toNat = 0 := by omega
                rw [this]; simp
              have hlt := (List.getElem?_eq_some_iff.1 hj).1
              omega
            have hadd : (if cap = l.toNat then a else a.add (l.toNat * L.size)).block = a.block ∧ (if cap = l.toNat then a else a.add (l.toNat * L.size)).off = a.off + l.toNat * k := by
              rw [if_neg hcap, hk]
              unfold Addr.add
              by_cases hz : l.toNat * k = 0
              · rw [if_pos hz, hz]; exact ⟨rfl, rfl⟩
              · rw [if_neg hz]; exact ⟨rfl, rfl⟩
            rw [hadd.1, hadd.2]
            simpa [List.getD, h1] using h2
          · obtain ⟨u, h1, h2, h3⟩ := hus j c hj
            simpa [List.getD, h1, C.own] using h3
        · cases h
      · cases h
    · rename_i e _ _ _ id off n k hL hx'
      rw [hx'] at hx
      have ht : X.P.underlying t = some (.slice e) := (X.ok t _ hL).kind
      split at h
      · rename_i L l hh hLe hlo hhi
        split at h
        · rename_i hc
          obtain ⟨hk, c0, c1, c2, c3⟩ := hc
          simp only [Option.some.injEq] at h; subst h
          have b1 := bnd_sound hρ hlo
          have b2 := bnd_sound hρ hhi
          rcases hx.muI with ⟨hu, rfl, rfl, hid, hgh⟩ | ⟨cap, hu, hid, hn, hsz, hm, hgh⟩
          · have e1 : l = 0 := by omega
            have e2 : hh = 0 := by omega
            subst e1 e2
            refine good_slice_nil hS hop ht hLe hu b1 b2 (.c ?_)
            simp only [Int.toNat_zero, Nat.zero_mul, Nat.sub_self]
            exact .mn hid hgh
          have hmul : (cap - l.toNat) * k + l.toNat * k = cap * k := by rw [← Nat.add_mul]; congr 1; omega
          refine good_slice_slice hS hop ht hLe hu b1 b2 c0 c1 (by omega) hn (.c ?_)
          have hadd : (if cap = l.toNat then (⟨(m.μ id).block, (m.μ id).base + off, none⟩ : Addr) else (⟨(m.μ id).block, (m.μ id).base + off, none⟩ : Addr).add (l.toNat * L.size)) = ⟨(m.μ id).block, (m.μ id).base + (off + l.toNat * k), none⟩ := by
            rcases c3 with rfl | c3
            · simp [addr_add]
            · rw [if_neg (by omega), addr_add, hk, Nat.add_assoc]
          rw [hadd]
          exact .mu hid hgh (by omega) (by omega) (by omega)
        · split at h
          · rename_i hc
            obtain ⟨c0, c1, c2⟩ := hc
            simp only [Option.some.injEq] at h; subst h
            have b1 := bnd_sound hρ hlo
            have b2 := bnd_sound hρ hhi
            obtain ⟨cap, hu, hid, hn, hsz, hm, hgh⟩ := hx.muI.resolve_left (fun h => by have := h.2.1; omega)
            refine good_slice_slice hS hop ht hLe hu b1 b2 (by omega) (by omega) (by omega) hn (.c (.fz ?_))
            rw [show hh.toNat - l.toNat = 0 by omega]
            exact .sl (fun _ => default) (Nat.zero_le _) (by omega) (by simp) (fun h => absurd rfl h) (fun j c hj => by simp at hj) (fun j c hj => by simp at hj)
          · cases h
      · cases h
    · rename_i s hL hx'
      rw [hx'] at hx
      have ht : X.P.underlying t = some .string := (X.ok t _ hL).kind
      split at h
      · rename_i l hh hlo hhi
        split at h
        · rename_i hc
          obtain ⟨c0, c1, c2⟩ := hc
          simp only [Option.some.injEq] at h; subst h
          exact good_slice_string hS hop ht hx.val (bnd_sound hρ hlo) (bnd_sound hρ hhi) c0 c1 c2
        · cases h
      · cases h
    · rename_i n e _ _ _ own cs off hL hx'
      rw [hx'] at hx
      have ht : X.P.underlying t = some (.array n e) := (X.ok t _ hL).kind
      split at h
      · rename_i L l hh hLe hlo hhi
        split at h
        · rename_i hc
          obtain ⟨hk0, c0, c1, c2, c3, c4⟩ := hc
          simp only [Option.some.injEq] at h; subst h
          obtain ⟨b, base, hu, hF, hB, hcell, -⟩ := hx.vwI
          have hmul : l.toNat * L.size + (hh.toNat - l.toNat) * L.size ≤ n * L.size := by rw [← Nat.add_mul]; exact Nat.mul_le_mul_right _ (by omega)
          refine good_slice_array hS hop ht hLe hu (bnd_sound hρ hlo) (bnd_sound hρ hhi) c0 c1 c2 (.c ?_)
          obtain ⟨us, hul, hus⟩ := choose_list (cs := sub cs (off + l.toNat * L.size) ((hh.toNat - l.toNat) * L.size)) (p := fun j c u => m.w.cell? ⟨b, base + off + l.toNat * L.size + j, none⟩ = some u ∧ RF m own c u) (fun j c hj => by
            obtain ⟨-, hg⟩ := sub_get hj
            obtain ⟨u, h1, h2⟩ := hcell _ _ hg
            exact ⟨u, by rw [show base + off + l.toNat * L.size + j = base + (off + l.toNat * L.size + j) by omega]; exact h1, h2⟩)
          refine .fz (.sl (fun j => us.getD j default) (by omega) (by omega) (sub_length (by omega)) (fun hne => ?_) (fun j c hj => ?_) (fun j c hj => ?_))
          · refine ⟨?_, ?_, ?_⟩
            · split
              · rfl
              · rw [addr_add]
            · split
              · exact hF
              · rw [addr_add]; exact hF
            · split
              · exact hB
              · rw [addr_add]; exact hB
          · obtain ⟨u, h1, h2, h3⟩ := hus j c hj
            have hcap : n ≠ l.toNat := by
              intro he
              have : (sub cs (off + l.toNat * L.size) ((hh.toNat - l.toNat) * L.size)).length = 0 := by
                rw [sub_length (by omega)]
                have : hh.toNat - l.toNat = 0 := by omega
                rw [this]; simp
              have hlt := (List.getElem?_eq_some_iff.1 hj).1
              omega
            rw [if_neg hcap, addr_add]
            simpa [List.getD, h1] using h2
          · obtain ⟨u, h1, h2, h3⟩ := hus j c hj
            simpa [List.getD, h1, C.own] using h3
        · cases h
      · cases h
    · rename_i n e _ _ _ id off hL hx'
      rw [hx'] at hx
      have ht : X.P.underlying t = some (.array n e) := (X.ok t _ hL).kind
      split at h
      · rename_i L l hh ob hLe hlo hhi hob
        split at h
        · rename_i hc
          obtain ⟨c0, c1, c2, c3, c4, c5, c6⟩ := hc
          simp only [Option.some.injEq] at h; subst h
          obtain ⟨hu, hid, hgh⟩ := hx.ptI
          obtain ⟨arr, o1, o2, o3, -⟩ := hS.ob id ob hob c4 hgh
          have hmul : (n - l.toNat) * L.size + l.toNat * L.size = n * L.size := by rw [← Nat.add_mul]; congr 1; omega
          refine good_slice_array hS hop ht hLe hu (bnd_sound hρ hlo) (bnd_sound hρ hhi) c0 c1 c2 (.c ?_)
          have hadd : (if n = l.toNat then (⟨(m.μ id).block, (m.μ id).base + off, none⟩ : Addr) else (⟨(m.μ id).block, (m.μ id).base + off, none⟩ : Addr).add (l.toNat * L.size)) = ⟨(m.μ id).block, (m.μ id).base + (off + l.toNat * L.size), none⟩ := by
            rcases c6 with rfl | c6
            · simp [addr_add]
            · rw [if_neg (by omega), addr_add, Nat.add_assoc]
          rw [hadd]
          exact .mu hid hgh (by omega) (by omega) (by omega)
        · cases h
      · cases h
    · cases h
end
end Go.VL
