/- slices.Delete of one notice, in the midst of objects. -/
import Derived.Test.YtbejolinihbokaaJ1
namespace Go.VL
open Go.RowKit
set_option maxHeartbeats 4000000
set_option maxRecDepth 20000
theorem flat_take {α : Type} {enc : α → List C} {k : Nat} (he : ∀ a, (enc a).length = k) : ∀ (ys : List α) (i : Nat), (flat enc ys).take (i * k) = flat enc (ys.take i)
  | [], i => by simp [flat]
  | y :: ys, 0 => by simp [flat]
  | y :: ys, i + 1 => by
    rw [flat_cons, List.take_succ_cons, flat_cons, ← flat_take he ys i, Nat.add_mul, Nat.one_mul, List.take_append, he, show i * k + k - k = i * k by omega, List.take_of_length_le (by rw [he]; omega)]
theorem flat_drop {α : Type} {enc : α → List C} {k : Nat} (he : ∀ a, (enc a).length = k) : ∀ (ys : List α) (i : Nat), (flat enc ys).drop (i * k) = flat enc (ys.drop i)
  | [], i => by simp [flat]
  | y :: ys, 0 => by simp
  | y :: ys, i + 1 => by
    rw [flat_cons, List.drop_succ_cons, ← flat_drop he ys i, Nat.add_mul, Nat.one_mul, List.drop_append, he, show i * k + k - k = i * k by omega, List.drop_of_length_le (by rw [he]; omega), List.nil_append]
/-- Cells, and the values that they are. -/
def RL (m : Mem) (cs : List C) (us : List Value) : Prop := us.length = cs.length ∧ ∀ (j : Nat) (c : C), cs[j]? = some c → ∃ u, us[j]? = some u ∧ R m c u
theorem RL.take {m : Mem} {cs : List C} {us : List Value} (h : RL m cs us) (i : Nat) : RL m (cs.take i) (us.take i) :=
  ⟨by simp [h.1], fun j c hj => by
    rw [List.getElem?_take] at hj ⊢
    split at hj
    · rename_i hlt
      rw [if_pos hlt]; exact h.2 j c hj
    · cases hj⟩
theorem RL.drop {m : Mem} {cs : List C} {us : List Value} (h : RL m cs us) (i : Nat) : RL m (cs.drop i) (us.drop i) :=
  ⟨by simp [h.1], fun j c hj => by
    rw [List.getElem?_drop] at hj ⊢
    exact h.2 _ c hj⟩
theorem RL.append {m : Mem} {cs cs' : List C} {us us' : List Value} (h : RL m cs us) (h' : RL m cs' us') : RL m (cs ++ cs') (us ++ us') :=
  ⟨by simp [h.1, h'.1], fun j c hj => by
    by_cases hlt : j < cs.length
    · rw [List.getElem?_append_left hlt] at hj
      rw [List.getElem?_append_left (by rw [h.1]; exact hlt)]
      exact h.2 j c hj
    · rw [List.getElem?_append_right (by omega)] at hj
      rw [List.getElem?_append_right (by rw [h.1]; omega), h.1]
      exact h'.2 _ c hj⟩
theorem RL.one {m : Mem} {cs : List C} {us : List Value} (h : RL m cs us) : ∀ v ∈ us, v.oneCell' = true := fun v hv => by
  obtain ⟨j, hj⟩ := List.getElem?_of_mem hv
  have hlt : j < cs.length := by rw [← h.1]; exact (List.getElem?_eq_some_iff.1 hj).1
  obtain ⟨u, h1, h2⟩ := h.2 j _ (List.getElem?_eq_getElem hlt)
  rw [hj] at h1
  obtain rfl := Option.some.inj h1
  exact oneCell_of_plain h2.plain
theorem RL.of_row {m : Mem} {cs : List C} {arr : Array Value} {b : Nat} (hl : b + cs.length ≤ arr.size) (h : ∀ (j : Nat) (c : C), cs[j]? = some c → ∃ u, arr[b + j]? = some u ∧ R m c u) : RL m cs ((arr.toList.drop b).take cs.length) :=
  ⟨by simp; omega, fun j c hj => by
    obtain ⟨u, h1, h2⟩ := h j c hj
    refine ⟨u, ?_, h2⟩
    rw [List.getElem?_take_of_lt (List.getElem?_eq_some_iff.1 hj).1, List.getElem?_drop]
    simpa using h1⟩
theorem Calls.good {X : Cx} {g : FuncId} {arr : Array Value} {H' : List Ob} {m m' : Mem} {Q : V → List Ob → Prop} {r : V} {u : Value} (hen : Enters X g) (hQ : Q r H') (h1 : Sim X.G m' H') (h2 : Ext m m') (h3 : RV m' r u) (hc : Calls X.P g arr m.w fun e w' => e = .returned u ∧ w' = m'.w) :
    Goes X g arr m.w fun u w' => ∃ (m' : Mem) (r : V) (H' : List Ob), m'.w = w' ∧ Q r H' ∧ Sim X.G m' H' ∧ Ext m m' ∧ RV m' r u :=
  .inr ⟨hen _ _, hc.mono fun _e _w' ⟨he, hw⟩ => ⟨u, he, m', r, H', hw.symm, hQ, h1, h2, h3⟩⟩
theorem three {m : Mem} {a b c : V} {arr : Array Value} (h : RVs m [a, b, c] arr) : ∃ x y z, arr = #[x, y, z] ∧ RV m a x ∧ RV m b y ∧ RV m c z := by
  obtain ⟨x, a1, a2⟩ := h.2 0 _ rfl
  obtain ⟨y, b1, b2⟩ := h.2 1 _ rfl
  obtain ⟨z, c1, c2⟩ := h.2 2 _ rfl
  refine ⟨x, y, z, ?_, a2, b2, c2⟩
  refine Array.ext (by simpa using h.1) fun j h1 h2 => ?_
  have hj : j < 3 := by simpa using h2
  rcases (by omega : j = 0 ∨ j = 1 ∨ j = 2) with rfl | rfl | rfl
  · have := (Array.getElem?_eq_some_iff.1 a1).2; simpa using this
  · have := (Array.getElem?_eq_some_iff.1 b1).2; simpa using this
  · have := (Array.getElem?_eq_some_iff.1 c1).2; simpa using this
abbrev No := Bool × Int × Int × Int
def nce (n : No) : List C := [.v (.bool n.1), .v (.int .i64 n.2.1), .v (.int .i64 n.2.2.1), .v (.int .i64 n.2.2.2)]
theorem nce_len (n : No) : (nce n).length = 4 := rfl
theorem nce_sc (n : No) : (nce n).all sc = true := rfl
open Go.Proofs.Ytbejolinihbokaa in
/-- A notice, taken out of a live list. -/
theorem c101 {H : List Ob} {id n i : Nat} {ys : List No} (ho : H[id]? = some ⟨flat nce ys, 101, true⟩) (hn : n = ys.length) (hi : i < n) {Q : V → List Ob → Prop}
    (hQ : Q (.c (.mu H.length 0 (n - 1) 4)) (H.set id ⟨flat nce ys, 101, false⟩ ++ [⟨flat nce (ys.take i ++ ys.drop (i + 1)), 101, true⟩])) : CallC X 101 [.c (.mu id 0 n 4), .c (.v (.int .i64 i)), .c (.v (.int .i64 ((i : Int) + 1)))] H Q := by
  intro m arr0 hS hr
  obtain ⟨u0, u1, u2, rfl, r0, r1, r2⟩ := three hr
  have e1 := r1.val
  have e2 := r2.val
  subst e1 e2
  have hen : Enters X 101 := fun _ _ => Go.Proofs.Try.call101 _ _
  have hyl : (flat nce ys).length = n * 4 := by rw [flat_length nce_len, hn]
  obtain ⟨cap, hu0, hid, hcap, hfit, hcm, hgh⟩ := r0.muI.resolve_left (fun h => by have := h.2.1; omega)
  simp only [Nat.add_zero] at hu0 hfit
  obtain ⟨arr, o1, o2, o3, o4, o5, o6⟩ := hS.ob id _ ho rfl hgh
  simp only at o3 o4
  have hcs := RL.of_row o3 o4
  rw [hyl] at hcs
  generalize hcsd : (arr.toList.drop (m.μ id).base).take (n * 4) = cs at hcs
  have hcl : cs.length = n * 4 := by rw [hcs.1, hyl]
  have hcg : ∀ (j : Nat) (v : Value), cs[j]? = some v → arr[(m.μ id).base + j]? = some v := fun j v hj => by
    rw [← hcsd] at hj
    have hjl := (List.getElem?_eq_some_iff.1 hj).1
    rw [List.getElem?_take_of_lt (by simp at hjl; omega), List.getElem?_drop] at hj
    simpa using hj
  have hpart : flat nce (ys.take i ++ ys.drop (i + 1)) = (flat nce ys).take (i * 4) ++ (flat nce ys).drop ((i + 1) * 4) := by
    rw [flat_append, flat_take nce_len, flat_drop nce_len]
  have hrel : RL m (flat nce (ys.take i ++ ys.drop (i + 1))) (cs.take (i * 4) ++ cs.drop ((i + 1) * 4)) := by
    rw [hpart]
    exact (hcs.take _).append (hcs.drop _)
  have hnl : (flat nce (ys.take i ++ ys.drop (i + 1))).length = (n - 1) * 4 := by rw [flat_length nce_len]; simp; omega
  subst hu0
  obtain ⟨-, hp, i0, z, g1, g2, g3, g4, g5, g6⟩ := X.ok 101 _ lay101
  simp only at g2 g3 g6 hp g5
  have h62 : X.P.underlying 62 = some (.slice 101) := Go.Proofs.Try.underlying62
  have hul : (cs.drop ((i + 1) * 4)).length = (n - (i + 1)) * 4 := by simp; omega
  have h4 : (n - 1) * 4 + 4 = n * 4 := by omega
  have hfit4 : n * 4 ≤ cap * 4 := Nat.mul_le_mul_right 4 hcap
  have happ : ∀ ty a sc, (∀ (j : Nat) (v : Value), (cs.drop ((i + 1) * 4))[j]? = some v → m.w.drew.cell? (a.add j) = some v) → (Builtin.append_ #[62, 62] ty #[.slice (some ⟨(m.μ id).block, (m.μ id).base, none⟩) i cap, .slice (some a) (n - (i + 1)) sc]).run X.P m.w.drew =
      .ok (.slice (some ⟨(m.μ id).block, (m.μ id).base, none⟩) (n - 1) cap) (m.w.drew.setRow (m.μ id).block (arr.toList.take ((m.μ id).base + i * 4) ++ cs.drop ((i + 1) * 4) ++ arr.toList.drop ((m.μ id).base + i * 4 + (cs.drop ((i + 1) * 4)).length)).toArray) := fun ty a sc hs => by
    have h := run_append_rows (P := X.P) m.w.drew 62 ty 101 i0 4 (m.μ id).block (m.μ id).base i cap a (n - (i + 1)) sc arr 101 (cs.drop ((i + 1) * 4)) h62 g1 g2 (by omega) hul o1 (by rw [hul]; omega) hs (fun v hv => hcs.one v (List.mem_of_mem_drop hv))
    rw [show i + (n - (i + 1)) = n - 1 by omega] at h
    exact h
  generalize hA1 : (arr.toList.take ((m.μ id).base + i * 4) ++ cs.drop ((i + 1) * 4) ++ arr.toList.drop ((m.μ id).base + i * 4 + (cs.drop ((i + 1) * 4)).length)).toArray = A1 at happ
  have hA1s : A1.size = arr.size := by rw [← hA1]; simp [hcl]; omega
  have hrow1 : Row (m.w.drew.setRow (m.μ id).block A1) (m.μ id).block A1 101 := Row.set (w := m.w.drew) o1 hA1s
  obtain ⟨A2, hA2s, hA2t, hclr⟩ := run_clear_rows (P := X.P) (m.w.drew.setRow (m.μ id).block A1) 62 101 0 i0 z (m.μ id).block ((m.μ id).base + (n - 1) * 4) 1 (cap - (n - 1)) A1 101 h62 g1 g4 (by omega) hrow1 (by rw [g6, hA1s]; omega) (fun v hv => by
    rw [g5] at hv
    exact oneCell_of_plain (List.all_eq_true.1 hp v hv))
  rw [setRow_setRow] at hclr
  have hseg : (A2.toList.drop (m.μ id).base).take ((n - 1) * 4) = cs.take (i * 4) ++ cs.drop ((i + 1) * 4) := by
    have ht : (A2.toList.drop (m.μ id).base).take ((n - 1) * 4) = (A2.toList.take ((m.μ id).base + (n - 1) * 4)).drop (m.μ id).base := by
      rw [List.drop_take]; congr 1; omega
    rw [ht, hA2t, ← hA1]
    have e0 : (arr.toList.take ((m.μ id).base + i * 4)).length = (m.μ id).base + i * 4 := by simp; omega
    show ((arr.toList.take ((m.μ id).base + i * 4) ++ cs.drop ((i + 1) * 4) ++ _).take ((m.μ id).base + (n - 1) * 4)).drop (m.μ id).base = _
    rw [List.take_append_of_le_length (by rw [List.length_append, e0, hul]; omega), List.take_of_length_le (by rw [List.length_append, e0, hul]; omega), List.drop_append_of_le_length (by omega)]
    congr 1
    rw [← hcsd, List.take_take, Nat.min_eq_left (by omega), List.drop_take]
    congr 1; omega
  obtain ⟨s1, s2⟩ := hS.put (arr' := A2) (w' := m.w.drew.setRow (m.μ id).block A2) (cs' := flat nce (ys.take i ++ ys.drop (i + 1))) ho rfl hgh (Row.set (w := m.w.drew) o1 (hA2s.trans hA1s)) (by omega)
    (fun b hb => setRow_other m.w.drew _ b A2 hb) (setRow_size m.w.drew _ A2) rfl rfl rfl (by rw [hnl]; omega) (fun j c hj => by
      have hjl := (List.getElem?_eq_some_iff.1 hj).1
      obtain ⟨u, h1, h2⟩ := hrel.2 j c hj
      refine ⟨u, ?_, h2⟩
      rw [← hseg, List.getElem?_take_of_lt (by omega), List.getElem?_drop] at h1
      simpa using h1)
  have hidlt : id < H.length := (List.getElem?_eq_some_iff.1 ho).1
  obtain ⟨m1, m2⟩ := s1.move (id := id) (off := 0) (ob := ⟨flat nce (ys.take i ++ ys.drop (i + 1)), 101, true⟩) (by rw [List.getElem?_set_self hidlt]) rfl hgh (Nat.zero_le _)
  simp only [List.drop_zero, List.set_set] at m1
  have m1' : Sim X.G { m with w := m.w.drew.setRow (m.μ id).block A2, N := m.N + 1, μ := μadd m.μ m.N ⟨(m.μ id).block, (m.μ id).base + 0, (m.μ id).size, false⟩ } (H.set id ⟨flat nce ys, 101, false⟩ ++ [⟨flat nce (ys.take i ++ ys.drop (i + 1)), 101, true⟩]) := by
    refine m1.same_live (by simp) fun j o' hj hl' => ?_
    by_cases hlt : j < H.length
    · rw [List.getElem?_append_left (by simpa using hlt)] at hj ⊢
      by_cases hii : j = id
      · subst hii
        rw [List.getElem?_set_self hlt] at hj
        have := (Option.some.inj hj).symm
        subst this
        simp at hl'
      · rw [List.getElem?_set_ne (fun e => hii e.symm)] at hj ⊢
        exact hj
    · rw [List.getElem?_append_right (by simp; omega)] at hj ⊢
      simpa using hj
  have hR : RV { m with w := m.w.drew.setRow (m.μ id).block A2, N := m.N + 1, μ := μadd m.μ m.N ⟨(m.μ id).block, (m.μ id).base + 0, (m.μ id).size, false⟩ } (.c (.mu H.length 0 (n - 1) 4)) (.slice (some ⟨(m.μ id).block, (m.μ id).base, none⟩) (n - 1) cap) := by
    refine .c ?_
    have := R.mu (m := { m with w := m.w.drew.setRow (m.μ id).block A2, N := m.N + 1, μ := μadd m.μ m.N ⟨(m.μ id).block, (m.μ id).base + 0, (m.μ id).size, false⟩ }) (id := m.N) (off := 0) (n := n - 1) (k := 4) (cap := cap) (Nat.lt_succ_self _) (by simp [μadd_new]) (by omega) (by simp [μadd_new]; omega) hcm
    rw [← hS.N]
    simpa [μadd_new] using this
  have hsrc : ∀ (off : Nat), (m.μ id).base + (i + 1) * 4 = off → ∀ (j : Nat) (v : Value), (cs.drop ((i + 1) * 4))[j]? = some v → m.w.drew.cell? ((⟨(m.μ id).block, off, none⟩ : Addr).add j) = some v := fun off ho j v hj => by
    rw [addr_add, ← ho]
    rw [List.getElem?_drop] at hj
    have := Row.cell (w := m.w.drew) o1 (hcg _ v hj)
    rw [Nat.add_assoc]
    exact this
  by_cases hci : cap = i + 1
  · have hni : n = i + 1 := by omega
    have hnil : cs.drop ((i + 1) * 4) = [] := List.eq_nil_of_length_eq_zero (by rw [hul]; omega)
    subst hci
    have e1 : n - 1 = i := by omega
    have e2 : n - (i + 1) = 0 := by omega
    have e3 : i + 1 - i = 1 := by omega
    rw [e1, e2] at happ
    rw [e1, e3] at hclr
    rw [e1] at hR
    have hw := del_walk_end m.w _ _ (m.μ id).block (m.μ id).base i (by unfold maxLen at hcm; omega) (fun ty => happ ty _ 0 (by rw [hnil]; intro j v hj; simp at hj)) (fun ty => hclr)
    rw [← hni] at hw
    rw [← hni] at hR
    rw [← e1] at hR
    rw [← hni]
    exact Calls.good hen hQ m1' (s2.trans m2) hR (by rw [e1]; exact hw)
  · exact Calls.good hen hQ m1' (s2.trans m2) hR (del_walk m.w _ _ (m.μ id).block (m.μ id).base n cap i hi hcap (by unfold maxLen at hcm; omega) hci (fun ty => happ ty _ _ (hsrc _ rfl)) (fun ty => hclr))
end Go.VL
