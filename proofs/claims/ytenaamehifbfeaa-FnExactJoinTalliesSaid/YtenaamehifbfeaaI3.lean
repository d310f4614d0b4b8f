/- slices.Insert of one tally, in the midst of objects. -/
import Derived.Test.YtenaamehifbfeaaI2
namespace Go.VL
open Go.RowKit
set_option maxHeartbeats 4000000
set_option maxRecDepth 20000
theorem Row.plain {w : World} {b : Nat} {arr : Array Value} {t : TypeId} (h : Row w b arr t) (ht : t ≠ markT) : w.heap[b]? = some (.cells arr t (0, 0)) := by
  obtain ⟨fz, h1, h2⟩ := h
  rcases h2 with rfl | ⟨-, h2⟩
  · exact h1
  · exact absurd h2 ht
theorem push_setRow {w : World} {h : Array Obj} {a a' : Array Value} {t : TypeId} (hw : w.heap = h.push (.cells a t (0, 0))) : (w.setRow h.size a').heap = h.push (.cells a' t (0, 0)) := by
  unfold World.setRow
  simp only [hw]
  refine Array.ext_getElem? fun i => ?_
  rw [Array.getElem?_modify]
  simp only [Array.getElem?_push]
  by_cases hi : i = h.size
  · subst hi; simp
  · rw [if_neg (fun e => hi e.symm)]; simp only [if_neg hi]
theorem Calls.good {X : Cx} {g : FuncId} {arr : Array Value} {H' : List Ob} {m m' : Mem} {Q : V → List Ob → Prop} {r : V} {u : Value} (hen : Enters X g) (hQ : Q r H') (h1 : Sim X.G m' H') (h2 : Ext m m') (h3 : RV m' r u) (hc : Calls X.P g arr m.w fun e w' => e = .returned u ∧ w' = m'.w) :
    Goes X g arr m.w fun u w' => ∃ (m' : Mem) (r : V) (H' : List Ob), m'.w = w' ∧ Q r H' ∧ Sim X.G m' H' ∧ Ext m m' ∧ RV m' r u :=
  .inr ⟨hen _ _, hc.mono fun e w' ⟨he, hw⟩ => ⟨u, he, m', r, H', hw.symm, hQ, h1, h2, h3⟩⟩
theorem three {m : Mem} {a b c : V} {arr : Array Value} (h : RVs m [a, b, c] arr) : ∃ x y z, arr = #[x, y, z] ∧ RV m a x ∧ RV m b y ∧ RV m c z := by
  obtain ⟨x, a1, a2⟩ := h.2 0 _ rfl
  obtain ⟨y, b1, b2⟩ := h.2 1 _ rfl
  obtain ⟨z, c1, c2⟩ := h.2 2 _ rfl
  refine ⟨x, y, z, ?_, a2, b2, c2⟩
  refine Array.ext (by simpa using h.1) fun j h1 h2 => ?_
  have hj : j < 3 := by simpa using h2
  rcases (by omega : j = 0 ∨ j = 1 ∨ j = 2) with rfl | rfl | rfl
  · have := (Array.getElem?_eq_some_iff.1 a1).2; simpa using this
  · have := (Array.getElem?_eq_some_iff.1 b1).2; simpa using this
  · have := (Array.getElem?_eq_some_iff.1 c1).2; simpa using this
open Go.Proofs.Ytenaamehifbfeaa in
/-- A tally, set into a live list. -/
theorem c92 {H : List Ob} {id idv n i : Nat} {ys : List Tal} {t : Tal} (hne : id ≠ idv) (ho : H[id]? = some ⟨flat te ys, 27, true⟩) (hv : H[idv]? = some ⟨flat te [t], 27, true⟩) (hn : n = ys.length) (hi : i ≤ n) (hb : n + 1 ≤ 2 ^ 30) {Q : V → List Ob → Prop}
    (hQ : Q (.c (.mu H.length 0 (n + 1) 3)) (H.set id ⟨flat te ys, 27, false⟩ ++ [⟨flat te (ys.take i ++ t :: ys.drop i), 27, true⟩])) : CallC X 92 [.c (.mu id 0 n 3), .c (.v (.int .i64 i)), .c (.mu idv 0 1 3)] H Q := by
  intro m arr0 hS hr
  obtain ⟨u0, u1, u2, rfl, r0, r1, r2⟩ := three hr
  have e1 := r1.val
  subst e1
  have hen : Enters X 92 := fun _ _ => Go.Proofs.Try.call92 _ _
  have hft : flat te [t] = te t := by simp [flat]
  have hgv : (m.μ idv).gh = false := by
    cases hg : (m.μ idv).gh with
    | false => rfl
    | true => exact absurd (hS.gho idv _ hv rfl hg) (by rw [hft]; simp [te])
  obtain ⟨capv, hu2, -, -, -, -, -⟩ := r2.muI.resolve_left (fun h => by have := h.2.2.2.2; rw [hgv] at this; cases this)
  simp only [Nat.add_zero] at hu2
  have hyl : (flat te ys).length = n * 3 := by rw [flat_length te_len, hn]
  have hpart : flat te (ys.take i ++ t :: ys.drop i) = (flat te ys).take (i * 3) ++ te t ++ (flat te ys).drop (i * 3) := by
    rw [flat_append, flat_cons, flat_take te_len, flat_drop te_len, List.append_assoc]
  have h40 : X.P.underlying 40 = some (.slice 27) := Go.Proofs.Try.underlying40
  have hsame : ∀ (cs0 : List C) {m1 : Mem} {cs1 : List C}, Sim X.G m1 (H.set id ⟨cs0, 27, false⟩ ++ [⟨cs1, 27, true⟩]) → Sim X.G m1 (H.set id ⟨flat te ys, 27, false⟩ ++ [⟨cs1, 27, true⟩]) := fun cs0 m1 cs1 h => by
    refine h.same_live (by simp) fun j o' hj hl' => ?_
    by_cases hlt : j < H.length
    · rw [List.getElem?_append_left (by simpa using hlt)] at hj ⊢
      by_cases hii : j = id
      · subst hii
        rw [List.getElem?_set_self hlt] at hj
        have := (Option.some.inj hj).symm
        subst this
        simp at hl'
      · rw [List.getElem?_set_ne (fun e => hii e.symm)] at hj ⊢
        exact hj
    · rw [List.getElem?_append_right (by simp; omega)] at hj ⊢
      simpa using hj
  -- at the end: as an append does
  have fin : i = n → ∃ (r : Value) (m' : Mem), (Builtin.append_ #[40, 40] 40 #[u0, u2]).run X.P m.w = .ok r m'.w ∧ Q (.c (.mu H.length 0 (n + 1) 3)) (H.set id ⟨flat te ys, 27, false⟩ ++ [⟨flat te (ys.take i ++ t :: ys.drop i), 27, true⟩]) ∧
      Sim X.G m' (H.set id ⟨flat te ys, 27, false⟩ ++ [⟨flat te (ys.take i ++ t :: ys.drop i), 27, true⟩]) ∧ Ext m m' ∧ RV m' (.c (.mu H.length 0 (n + 1) 3)) r := fun hin => by
    obtain ⟨nx, m', k1, k2, k3, k4⟩ := good_append_mu (X := X) hS (o := ⟨some 0, .call { callee := .builtin .append, args := #[.tmp 0, .tmp 1], argTypes := #[40, 40] }, 40, "", #[], none⟩) (ε := fun o => match o with | .tmp 0 => u0 | _ => u2) (ρ := fun o => match o with | .tmp 0 => .c (.mu id 0 n 3) | _ => .c (.mu idv 0 1 3))
      (s := .tmp 0) (x := .tmp 1) rfl h40 lay27 (n := 1) (k := 3) (cs := te t) (by simp only [srcOf, hv]; rw [hft]; rfl) r2 (id := id) (off := 0) (n0 := n) r0 ho rfl rfl (by simp [hyl]) rfl (by unfold maxLen; omega) (by show (n + 1) * 16 ≤ _; omega)
    obtain ⟨r, rfl, k5⟩ := run_of_exec (o := ⟨some 0, .call { callee := .builtin .append, args := #[.tmp 0, .tmp 1], argTypes := #[40, 40] }, 40, "", #[], none⟩) (t := 40) (u := u0) (v := u2) rfl rfl rfl k1
    have hcs : flat te (ys.take i ++ t :: ys.drop i) = sub (flat te ys) 0 (n * 3) ++ te t := by
      rw [hpart, hin]
      unfold sub
      rw [List.drop_zero, List.drop_of_length_le (by omega), List.append_nil]
    refine ⟨r, m', k5, hQ, by rw [hcs]; exact k2, k3, ?_⟩
    rcases k4 with ⟨u, hu, k4⟩ | ⟨hu, -⟩
    · injection hu with hu
      rw [hu]; exact k4
    · cases hu
  rcases r0.muI with ⟨rfl, hn0, -, -, -⟩ | ⟨cap, hu0, hid, hcap, hfit, hcm, hgh⟩
  · have hi0 : i = 0 := by omega
    obtain ⟨r, m', k1, k2, k3, k4, k5⟩ := fin (by omega)
    subst hi0 hu2
    exact Calls.good hen k2 k3 k4 k5 (ins_end_nil m.w _ _ _ r m'.w k1)
  simp only [Nat.add_zero] at hu0 hfit
  by_cases hin : i = n
  · obtain ⟨r, m', k1, k2, k3, k4, k5⟩ := fin hin
    subst hu0 hu2 hin
    exact Calls.good hen k2 k3 k4 k5 (ins_end_walk m.w _ _ _ _ _ _ _ r m'.w k1)
  have hlt : i < n := by omega
  obtain ⟨arr, o1, o2, o3, o4, o5, o6⟩ := hS.ob id _ ho rfl hgh
  obtain ⟨brr, b1, b2, b3, b4, b5, b6⟩ := hS.ob idv _ hv rfl hgv
  have o1' : m.w.heap[(m.μ id).block]? = some (.cells arr 27 (0, 0)) := o1.plain (show (27 : Nat) ≠ markT by decide)
  have b1' : m.w.heap[(m.μ idv).block]? = some (.cells brr 27 (0, 0)) := b1.plain (show (27 : Nat) ≠ markT by decide)
  simp only at o3 o4 b3 b4
  rw [hft] at b3 b4
  have hbl : (m.μ idv).block ≠ (m.μ id).block := fun e => hS.inj id idv _ _ ho hv rfl rfl hgh hgv hne e.symm
  have hcs := RL.of_row o3 o4
  have hvs := RL.of_row b3 b4
  rw [hyl] at hcs
  generalize hcsd : (arr.toList.drop (m.μ id).base).take (n * 3) = cs at hcs
  generalize hvsd : (brr.toList.drop (m.μ idv).base).take (te t).length = vs at hvs
  have hvl : vs.length = 3 := hvs.1
  have hcl : cs.length = n * 3 := by rw [hcs.1, hyl]
  have hvg : ∀ (j : Nat) (v : Value), vs[j]? = some v → brr[(m.μ idv).base + j]? = some v := fun j v hj => by
    rw [← hvsd] at hj
    have hjl := (List.getElem?_eq_some_iff.1 hj).1
    rw [List.getElem?_take_of_lt (by simp at hjl; omega), List.getElem?_drop] at hj
    simpa using hj
  have hcg : ∀ (j : Nat) (v : Value), cs[j]? = some v → arr[(m.μ id).base + j]? = some v := fun j v hj => by
    rw [← hcsd] at hj
    have hjl := (List.getElem?_eq_some_iff.1 hj).1
    rw [List.getElem?_take_of_lt (by simp at hjl; omega), List.getElem?_drop] at hj
    simpa using hj
  have hrel : RL m (flat te (ys.take i ++ t :: ys.drop i)) (cs.take (i * 3) ++ vs ++ cs.drop (i * 3)) := by
    rw [hpart]
    exact ((hcs.take _).append hvs).append (hcs.drop _)
  have hnl : (flat te (ys.take i ++ t :: ys.drop i)).length = (n + 1) * 3 := by rw [flat_length te_len]; simp; omega
  subst hu0 hu2
  by_cases hroom : n + 1 ≤ cap
  · -- in place
    have hfit2 : (n + 1) * 3 ≤ cap * 3 := Nat.mul_le_mul_right 3 hroom
    have hw := ins_shift m.w (m.μ id).block (m.μ id).base n cap i (m.μ idv).block (m.μ idv).base capv arr brr vs hlt hroom (by unfold maxLen at hcm; omega) hbl o1' b1' (by omega) hvl hvg
      (fun j v hj hjv => hcs.one v (List.mem_of_getElem? (i := j) (by
        rw [← hcsd, List.getElem?_take_of_lt hj, List.getElem?_drop]
        simpa using hjv))) hvs.one
    rw [setRow_setRow] at hw
    generalize hA2 : insB (insA arr (m.μ id).base i n) (m.μ id).base i vs = A2 at hw
    have hA1s : (insA arr (m.μ id).base i n).size = arr.size := by unfold insA; simp; omega
    have hA2s : A2.size = arr.size := by rw [← hA2]; unfold insB; simp [hvl]; omega
    have hseg : (A2.toList.drop (m.μ id).base).take ((n + 1) * 3) = cs.take (i * 3) ++ vs ++ cs.drop (i * 3) := by
      have := seg_shift (A := arr.toList) (vs := vs) (off := (m.μ id).base) (i := i) (n := n) hlt (by simp; omega) hvl (A1 := (insA arr (m.μ id).base i n).toList) rfl
      rw [hcsd] at this
      rw [← hA2]
      exact this
    obtain ⟨s1, s2⟩ := hS.put (arr' := A2) (w' := m.w.drew.setRow (m.μ id).block A2) (cs' := flat te (ys.take i ++ t :: ys.drop i)) ho rfl hgh (Row.set (w := m.w.drew) o1 hA2s) (by omega)
      (fun b hb => setRow_other m.w.drew _ b A2 hb) (setRow_size m.w.drew _ A2) rfl rfl rfl (by rw [hnl]; omega) (fun j c hj => by
        have hjl := (List.getElem?_eq_some_iff.1 hj).1
        obtain ⟨u, h1, h2⟩ := hrel.2 j c hj
        refine ⟨u, ?_, h2⟩
        rw [← hseg, List.getElem?_take_of_lt (by omega), List.getElem?_drop] at h1
        simpa using h1)
    have hidlt : id < H.length := (List.getElem?_eq_some_iff.1 ho).1
    obtain ⟨m1, m2⟩ := s1.move (id := id) (off := 0) (ob := ⟨flat te (ys.take i ++ t :: ys.drop i), 27, true⟩) (by rw [List.getElem?_set_self hidlt]) rfl hgh (Nat.zero_le _)
    simp only [List.drop_zero, List.set_set] at m1
    refine Calls.good hen hQ (hsame _ m1) (s2.trans m2) (.c ?_) hw
    have := R.mu (m := { m with w := m.w.drew.setRow (m.μ id).block A2, N := m.N + 1, μ := μadd m.μ m.N ⟨(m.μ id).block, (m.μ id).base + 0, (m.μ id).size, false⟩ }) (id := m.N) (off := 0) (n := n + 1) (k := 3) (cap := cap) (Nat.lt_succ_self _) (by simp [μadd_new]) hroom (by simp [μadd_new]; omega) hcm
    rw [← hS.N]
    simpa [μadd_new] using this
  · -- a new row
    obtain ⟨-, hp, i0, z, g1, g2, g3, g4, g5, g6⟩ := X.ok 27 _ lay27
    simp only at g2 g3 g6
    have hgrow := Lib.run_append_grow_zeros (P := X.P) m.w 40 3 40 27 i0 z .i64 .i64 h40 Go.Proofs.Try.underlying3 g1 g4 (some ⟨(m.μ id).block, (m.μ id).base, none⟩) i cap (cs.take (i * 3))
      (run_firstCells_some m.w.drew i0.size i ⟨(m.μ id).block, (m.μ id).base, none⟩ i cap (cs.take (i * 3)) (by rw [g2]; simp; omega) (fun j v hj => by
        rw [addr_add]
        refine Row.cell (w := m.w.drew) o1 (hcg j v ?_)
        rw [List.getElem?_take] at hj
        split at hj
        · exact hj
        · cases hj)) (n + 1 - i) (by omega) (by omega) (by omega) (by omega) (by rw [g3]; omega) (growslice_fits (by omega) (by rw [g3]; omega))
    rw [show i + (n + 1 - i) = n + 1 by omega, show ((n + 1 - i : Nat) : Int) = (n : Int) + 1 - (i : Int) by omega] at hgrow
    have hGn := grownCap_ge m.w (n + 1) cap 27
    have hGm := grownCap_le_maxLen m.w (n + 1) cap 27 (by unfold maxLen; omega)
    generalize grownCap m.w (n + 1) cap 27 = G at hgrow hGn hGm
    generalize hR0 : (cs.take (i * 3)).toArray ++ Builtin.zeroCells z.cells (n + 1 - i) ++ Builtin.zeroCells z.cells (G - (n + 1)) = R0 at hgrow
    have hR0s : R0.size = G * 3 := by
      rw [← hR0]
      simp only [Array.size_append, size_zeroCells, g6, List.size_toArray, List.length_take, hcl]
      omega
    have hW1 : (m.w.drew.alloc (.cells R0 27)).heap = m.w.heap.push (.cells R0 27 (0, 0)) := rfl
    have hN1 : (m.w.drew.alloc (.cells R0 27)).heap[m.w.heap.size]? = some (.cells R0 27 (0, 0)) := by rw [hW1]; simp
    have hbv : (m.μ idv).block < m.w.heap.size := (Array.getElem?_eq_some_iff.1 b1').1
    have hbo : (m.μ id).block < m.w.heap.size := (Array.getElem?_eq_some_iff.1 o1').1
    have hv1 : (m.w.drew.alloc (.cells R0 27)).heap[(m.μ idv).block]? = some (.cells brr 27 (0, 0)) := by rw [hW1, Array.getElem?_push, if_neg (by omega)]; exact b1'
    have hsz : (Go.Proofs.Try.prog.info? 27).map (·.size) = some 3 := by kernel_rfl
    have hcpA : ∀ ty dc, (Builtin.copy_ #[40, 40] ty #[.slice (some ⟨m.w.heap.size, i * 3, none⟩) (n + 1 - i) dc, .slice (some ⟨(m.μ idv).block, (m.μ idv).base, none⟩) 1 capv]).run Go.Proofs.Try.prog (m.w.drew.alloc (.cells R0 27)) =
        .ok (goInt (Nat.min 1 (n + 1 - i))) ((m.w.drew.alloc (.cells R0 27)).setRow m.w.heap.size (R0.toList.take (i * 3) ++ vs ++ R0.toList.drop (i * 3 + 3)).toArray) := fun ty dc => by
      have h := run_copy_rows (P := Go.Proofs.Try.prog) (m.w.drew.alloc (.cells R0 27)) 40 40 ty 27 3 m.w.heap.size (i * 3) (n + 1 - i) dc ⟨(m.μ idv).block, (m.μ idv).base, none⟩ 1 capv R0 27 vs Go.Proofs.Try.underlying40 hsz
        (by rw [hvl]; simp only [Nat.min_def]; split <;> omega) (Row.of hN1) (by rw [hvl]; omega) (fun j v hj => by
          rw [addr_add]
          exact Row.cell (Row.of hv1) (hvg j v hj)) hvs.one
      rw [h, hvl]
    generalize hR1 : (R0.toList.take (i * 3) ++ vs ++ R0.toList.drop (i * 3 + 3)).toArray = R1 at hcpA
    have hR1s : R1.size = G * 3 := by rw [← hR1]; simp [hvl]; omega
    have hW2 : ((m.w.drew.alloc (.cells R0 27)).setRow m.w.heap.size R1).heap = m.w.heap.push (.cells R1 27 (0, 0)) := push_setRow hW1
    generalize hW2d : (m.w.drew.alloc (.cells R0 27)).setRow m.w.heap.size R1 = W2 at hcpA hW2
    have hN2 : W2.drew.heap[m.w.heap.size]? = some (.cells R1 27 (0, 0)) := by show W2.heap[m.w.heap.size]? = _; rw [hW2]; simp
    have ho2 : W2.drew.heap[(m.μ id).block]? = some (.cells arr 27 (0, 0)) := by show W2.heap[(m.μ id).block]? = _; rw [hW2, Array.getElem?_push, if_neg (by omega)]; exact o1'
    have hdl : (cs.drop (i * 3)).length = (n - i) * 3 := by simp; omega
    have hcpB : ∀ ty dc sc, (Builtin.copy_ #[40, 40] ty #[.slice (some ⟨m.w.heap.size, (i + 1) * 3, none⟩) (n - i) dc, .slice (some ⟨(m.μ id).block, (m.μ id).base + i * 3, none⟩) (n - i) sc]).run Go.Proofs.Try.prog W2.drew =
        .ok (goInt (Nat.min (n - i) (n - i))) (W2.drew.setRow m.w.heap.size (R1.toList.take ((i + 1) * 3) ++ cs.drop (i * 3) ++ R1.toList.drop ((i + 1) * 3 + (n - i) * 3)).toArray) := fun ty dc sc => by
      have h := run_copy_rows (P := Go.Proofs.Try.prog) W2.drew 40 40 ty 27 3 m.w.heap.size ((i + 1) * 3) (n - i) dc ⟨(m.μ id).block, (m.μ id).base + i * 3, none⟩ (n - i) sc R1 27 (cs.drop (i * 3)) Go.Proofs.Try.underlying40 hsz
        (by rw [hdl]; simp) (Row.of hN2) (by rw [hdl]; omega) (fun j v hj => by
          rw [addr_add]
          rw [List.getElem?_drop] at hj
          have := Row.cell (Row.of ho2) (hcg _ v hj)
          rw [show (m.μ id).base + i * 3 + j = (m.μ id).base + (i * 3 + j) by omega]
          exact this) (fun v hv => hcs.one v (List.mem_of_mem_drop hv))
      rw [h, hdl]
    generalize hR2 : (R1.toList.take ((i + 1) * 3) ++ cs.drop (i * 3) ++ R1.toList.drop ((i + 1) * 3 + (n - i) * 3)).toArray = R2 at hcpB
    have hR2s : R2.size = G * 3 := by rw [← hR2]; simp [hcl]; omega
    have hw := ins_grow_walk m.w (m.w.drew.alloc (.cells R0 27)) W2 (W2.drew.setRow m.w.heap.size R2) (m.μ id).block (m.μ id).base n cap i (m.μ idv).block (m.μ idv).base capv m.w.heap.size G hlt hcap hroom hGn (by unfold maxLen at hGm; omega) (by unfold maxLen at hcm; omega) (by omega) (fun ty => hgrow) hcpA hcpB
    have hW3 : (W2.drew.setRow m.w.heap.size R2).heap = m.w.heap.push (.cells R2 27 (0, 0)) := push_setRow (w := W2.drew) (h := m.w.heap) (a := R1) hW2
    have hseg : R2.toList.take ((n + 1) * 3) = cs.take (i * 3) ++ vs ++ cs.drop (i * 3) := by
      rw [← hR2]
      refine seg_grow (Z0 := (Builtin.zeroCells z.cells (n + 1 - i)).toList) (Z1 := (Builtin.zeroCells z.cells (G - (n + 1))).toList) hlt hcl hvl (by simp [size_zeroCells, g6]) (R0 := R0.toList) (by rw [← hR0]; simp) (by rw [← hR1])
    obtain ⟨s1, s2⟩ := (hS.kill ho).new (w' := W2.drew.setRow m.w.heap.size R2) (arr := R2) (t := 27) (cs := flat te (ys.take i ++ t :: ys.drop i)) hW3 (by rw [← hW2d]; rfl) (by rw [← hW2d]; rfl) (by rw [← hW2d]; rfl) (by rw [hnl]; omega) (fun j c hj => by
      have hjl := (List.getElem?_eq_some_iff.1 hj).1
      obtain ⟨u, h1, h2⟩ := hrel.2 j c hj
      refine ⟨u, ?_, h2⟩
      rw [← hseg, List.getElem?_take_of_lt (by omega)] at h1
      simpa using h1)
    refine Calls.good hen hQ s1 s2 (.c ?_) hw
    have := R.mu (m := { m with w := W2.drew.setRow m.w.heap.size R2, N := m.N + 1, μ := μadd m.μ m.N ⟨m.w.heap.size, 0, R2.size, false⟩ }) (id := m.N) (off := 0) (n := n + 1) (k := 3) (cap := G) (Nat.lt_succ_self _) (by simp [μadd_new]) hGn (by simp [μadd_new]; omega) hGm
    rw [← hS.N]
    simpa [μadd_new] using this
end Go.VL
