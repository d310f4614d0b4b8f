/- slices.Insert of one tally, on data. -/
import Derived.Test.YtenaamehifbfeaaI1
import Derived.Test.YtenaamehifbfeaaC2
namespace Go.VL
open Go.RowKit
set_option maxHeartbeats 4000000
set_option maxRecDepth 20000
theorem flat_take {α : Type} {enc : α → List C} {k : Nat} (he : ∀ a, (enc a).length = k) : ∀ (ys : List α) (i : Nat), (flat enc ys).take (i * k) = flat enc (ys.take i)
  | [], i => by simp [flat]
  | y :: ys, 0 => by simp [flat]
  | y :: ys, i + 1 => by
    rw [flat_cons, List.take_succ_cons, flat_cons, ← flat_take he ys i, Nat.add_mul, Nat.one_mul, List.take_append, he, show i * k + k - k = i * k by omega, List.take_of_length_le (by rw [he]; omega)]
theorem flat_drop {α : Type} {enc : α → List C} {k : Nat} (he : ∀ a, (enc a).length = k) : ∀ (ys : List α) (i : Nat), (flat enc ys).drop (i * k) = flat enc (ys.drop i)
  | [], i => by simp [flat]
  | y :: ys, 0 => by simp
  | y :: ys, i + 1 => by
    rw [flat_cons, List.drop_succ_cons, ← flat_drop he ys i, Nat.add_mul, Nat.one_mul, List.drop_append, he, show i * k + k - k = i * k by omega, List.drop_of_length_le (by rw [he]; omega), List.nil_append]
/-- Cells, and the values that they are. -/
def RL (m : Mem) (cs : List C) (us : List Value) : Prop := us.length = cs.length ∧ ∀ (j : Nat) (c : C), cs[j]? = some c → ∃ u, us[j]? = some u ∧ R m c u
theorem RL.take {m : Mem} {cs : List C} {us : List Value} (h : RL m cs us) (i : Nat) : RL m (cs.take i) (us.take i) :=
  ⟨by simp [h.1], fun j c hj => by
    rw [List.getElem?_take] at hj ⊢
    split at hj
    · rename_i hlt
      rw [if_pos hlt]; exact h.2 j c hj
    · cases hj⟩
theorem RL.drop {m : Mem} {cs : List C} {us : List Value} (h : RL m cs us) (i : Nat) : RL m (cs.drop i) (us.drop i) :=
  ⟨by simp [h.1], fun j c hj => by
    rw [List.getElem?_drop] at hj ⊢
    exact h.2 _ c hj⟩
theorem RL.append {m : Mem} {cs cs' : List C} {us us' : List Value} (h : RL m cs us) (h' : RL m cs' us') : RL m (cs ++ cs') (us ++ us') :=
  ⟨by simp [h.1, h'.1], fun j c hj => by
    by_cases hlt : j < cs.length
    · rw [List.getElem?_append_left hlt] at hj
      rw [List.getElem?_append_left (by rw [h.1]; exact hlt)]
      exact h.2 j c hj
    · rw [List.getElem?_append_right (by omega)] at hj
      rw [List.getElem?_append_right (by rw [h.1]; omega), h.1]
      exact h'.2 _ c hj⟩
theorem RL.one {m : Mem} {cs : List C} {us : List Value} (h : RL m cs us) : ∀ v ∈ us, v.oneCell' = true := fun v hv => by
  obtain ⟨j, hj⟩ := List.getElem?_of_mem hv
  have hlt : j < cs.length := by rw [← h.1]; exact (List.getElem?_eq_some_iff.1 hj).1
  obtain ⟨u, h1, h2⟩ := h.2 j _ (List.getElem?_eq_getElem hlt)
  rw [hj] at h1
  obtain rfl := Option.some.inj h1
  exact oneCell_of_plain h2.plain
theorem RL.of_row {m : Mem} {cs : List C} {arr : Array Value} {b : Nat} (hl : b + cs.length ≤ arr.size) (h : ∀ (j : Nat) (c : C), cs[j]? = some c → ∃ u, arr[b + j]? = some u ∧ R m c u) : RL m cs ((arr.toList.drop b).take cs.length) :=
  ⟨by simp; omega, fun j c hj => by
    obtain ⟨u, h1, h2⟩ := h j c hj
    refine ⟨u, ?_, h2⟩
    rw [List.getElem?_take_of_lt (List.getElem?_eq_some_iff.1 hj).1, List.getElem?_drop]
    simpa using h1⟩
theorem run_of_exec {P : Program} {w w' : World} {ε : Operand → Value} {t : TypeId} {u v : Value} {nx : Next} {o : Oper} (hop : o.op = .call { callee := .builtin .append, args := #[.tmp 0, .tmp 1], argTypes := #[t, t] }) (h0 : ε (.tmp 0) = u) (h1 : ε (.tmp 1) = v)
    (h : (execOp ε o).run P w = .ok nx w') : ∃ r, nx = .value r ∧ (Builtin.append_ #[t, t] o.type #[u, v]).run P w = .ok r w' := by
  unfold execOp at h
  simp only [hop, resolve, invoke, builtin, Sem.run_bind, Sem.run_pure, Result.andThen_ok, List.map_toArray, List.map_cons, List.map_nil, h0, h1] at h
  cases hr : (Builtin.append_ #[t, t] o.type #[u, v]).run P w with
  | ok r w1 =>
    rw [hr] at h
    simp only [Result.andThen_ok, Result.ok.injEq] at h
    obtain ⟨rfl, rfl⟩ := h
    exact ⟨r, rfl, rfl⟩
  | _ => rw [hr] at h; simp [Result.andThen] at h
theorem seg_shift {A vs : List Value} {off i n : Nat} (hi : i < n) (hA : off + (n + 1) * 3 ≤ A.length) (hv : vs.length = 3) {A1 : List Value} (h1 : A1 = A.take (off + (i + 1) * 3) ++ (A.drop (off + i * 3)).take ((n - i) * 3) ++ A.drop (off + (i + 1) * 3 + (n - i) * 3)) :
    ((A1.take (off + i * 3) ++ vs ++ A1.drop (off + i * 3 + 3)).drop off).take ((n + 1) * 3) = ((A.drop off).take (n * 3)).take (i * 3) ++ vs ++ ((A.drop off).take (n * 3)).drop (i * 3) := by
  have hl1 : A1.length = A.length := by rw [h1]; simp; omega
  apply List.ext_getElem?
  intro j
  have hA1 : ∀ q, A1[q]? = if q < off + (i + 1) * 3 then A[q]? else if q < off + (n + 1) * 3 then A[q - 3]? else A[q]? := fun q => by
    rw [h1]
    have e1 : (A.take (off + (i + 1) * 3)).length = off + (i + 1) * 3 := by simp; omega
    have e2 : ((A.drop (off + i * 3)).take ((n - i) * 3)).length = (n - i) * 3 := by simp; omega
    split
    · rename_i hq
      rw [List.getElem?_append_left (by simp; omega), List.getElem?_append_left (by omega), List.getElem?_take_of_lt (by omega)]
    · split
      · rename_i hq hq2
        rw [List.getElem?_append_left (by rw [List.length_append, e1, e2]; omega), List.getElem?_append_right (by omega), e1, List.getElem?_take_of_lt (by omega), List.getElem?_drop]
        congr 1; omega
      · rename_i hq hq2
        rw [List.getElem?_append_right (by rw [List.length_append, e1, e2]; omega), List.length_append, e1, e2, List.getElem?_drop]
        congr 1; omega
  have e3 : (A1.take (off + i * 3)).length = off + i * 3 := by simp; omega
  have e4 : (((A.drop off).take (n * 3)).take (i * 3)).length = i * 3 := by simp; omega
  by_cases hj : j < (n + 1) * 3
  · rw [List.getElem?_take_of_lt hj, List.getElem?_drop]
    by_cases c1 : j < i * 3
    · rw [List.getElem?_append_left (by rw [List.length_append, e3]; omega), List.getElem?_append_left (by omega), List.getElem?_take_of_lt (by omega), hA1, if_pos (by omega),
        List.getElem?_append_left (by rw [List.length_append, e4]; omega), List.getElem?_append_left (by omega), List.getElem?_take_of_lt (by omega), List.getElem?_take_of_lt (by omega), List.getElem?_drop]
    · by_cases c2 : j < i * 3 + 3
      · rw [List.getElem?_append_left (by rw [List.length_append, e3]; omega), List.getElem?_append_right (by omega), e3,
          List.getElem?_append_left (by rw [List.length_append, e4]; omega), List.getElem?_append_right (by omega), e4]
        congr 1; omega
      · rw [List.getElem?_append_right (by rw [List.length_append, e3]; omega), List.length_append, e3, hv, List.getElem?_drop, hA1, if_neg (by omega), if_pos (by omega),
          List.getElem?_append_right (by rw [List.length_append, e4]; omega), List.length_append, e4, hv, List.getElem?_drop, List.getElem?_take_of_lt (by omega), List.getElem?_drop]
        congr 1; omega
  · rw [List.getElem?_eq_none (by rw [List.length_take]; omega), List.getElem?_eq_none (by rw [List.length_append, List.length_append, e4, hv]; simp; omega)]
theorem seg_grow {cs vs Z0 Z1 : List Value} {i n : Nat} (hi : i < n) (hc : cs.length = n * 3) (hv : vs.length = 3) (hz : Z0.length = (n + 1 - i) * 3) {R0 R1 : List Value} (h0 : R0 = cs.take (i * 3) ++ Z0 ++ Z1)
    (h1 : R1 = R0.take (i * 3) ++ vs ++ R0.drop (i * 3 + 3)) : (R1.take ((i + 1) * 3) ++ cs.drop (i * 3) ++ R1.drop ((i + 1) * 3 + (n - i) * 3)).take ((n + 1) * 3) = cs.take (i * 3) ++ vs ++ cs.drop (i * 3) := by
  have e0 : (cs.take (i * 3)).length = i * 3 := by simp; omega
  have t0 : R0.take (i * 3) = cs.take (i * 3) := by rw [h0, List.append_assoc, List.take_append_of_le_length (by omega), List.take_of_length_le (by omega)]
  have t1 : R1.take ((i + 1) * 3) = cs.take (i * 3) ++ vs := by
    rw [h1, t0, List.take_append_of_le_length (by rw [List.length_append, e0, hv]; omega), List.take_of_length_le (by rw [List.length_append, e0, hv]; omega)]
  rw [t1, List.take_append_of_le_length (by simp; omega), List.take_of_length_le (by simp; omega)]
end Go.VL
