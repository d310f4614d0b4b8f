/- The law FnExactWaveOf answers true whatever its arguments, and turns nothing that was there. No condition. -/
import Derived.Test.YthamafbbdaembaaM5
import Derived.Test.YthamafbbdaembaaM3
set_option maxRecDepth 20000
namespace Go.VL
theorem cty_slo {cs : List C} (h : Cty X.lay 92 cs) : ∃ s : Slo, cs = stc s := by
  obtain ⟨h1, h2⟩ := cty_struct lay92 h
  obtain ⟨g, e0⟩ := cty_ph lay79 lay4 rfl (h2 (79, 0) (by simp))
  obtain ⟨x, e1, -⟩ := cty_int lay2 (h2 (2, 8) (by simp))
  match cs, h1 with
  | [c0, c1, c2, c3, c4, c5, c6, c7, c8], _ =>
    have q0 : [c0, c1, c2, c3, c4, c5, c6, c7] = phc g := e0
    have q1 : [c8] = [.v (.int .i64 x)] := e1
    simp only [List.cons.injEq, and_true] at q0 q1
    obtain ⟨rfl, rfl, rfl, rfl, rfl, rfl, rfl, rfl⟩ := q0
    subst q1
    exact ⟨(g, x), rfl⟩
theorem cty_pln {cs : List C} (h : Cty X.lay 24 cs) : ∃ p : Pln, cs = plc p ∧ p.1.length ≤ maxLen := by
  obtain ⟨h1, h2⟩ := cty_struct lay24 h
  match cs, h1 with
  | [c0, c1, c2], _ =>
    obtain ⟨xs, e0, hx, hn⟩ := cty_slice lay22 (h2 (22, 0) (by simp))
    obtain ⟨b, e1, -⟩ := cty_int lay2 (h2 (2, 1) (by simp))
    obtain ⟨f, e2, -⟩ := cty_int lay2 (h2 (2, 2) (by simp))
    obtain ⟨ys, k1, k2, -⟩ := flat_of2 (enc := stc) (p := fun _ => True) (xs := xs) fun x hxm => by
      obtain ⟨s, hs⟩ := cty_slo (hx x hxm)
      exact ⟨s, hs, trivial⟩
    have q0 : [c0] = [.sl true xs.length 9 xs.flatten] := e0
    have q1 : [c1] = [.v (.int .i64 b)] := e1
    have q2 : [c2] = [.v (.int .i64 f)] := e2
    simp only [List.cons.injEq, and_true] at q0 q1 q2
    subst q0 q1 q2
    exact ⟨(ys, b, f), by rw [k2, ← k1]; rfl, by rw [k1]; exact hn⟩
theorem vty_plns {v : V} (h : VTy X.lay 35 v) : ∃ xs : List Pln, v = .c (pls false xs) ∧ xs.length ≤ maxLen ∧ ∀ p ∈ xs, p.1.length ≤ maxLen := by
  unfold VTy at h
  rw [lay35] at h
  simp only [LK.agg, Bool.false_eq_true, if_false] at h
  obtain ⟨c, rfl, hc⟩ := h
  obtain ⟨xs, e, hx, hn⟩ := cty_slice lay35 hc
  simp only [List.cons.injEq, and_true] at e
  subst e
  obtain ⟨zs, k1, k2, k3⟩ := flat_of2 (enc := plc) (p := fun p => p.1.length ≤ maxLen) (xs := xs) fun x hm => cty_pln (hx x hm)
  exact ⟨zs, by rw [k2, ← k1]; rfl, by omega, k3⟩
theorem vty_ints {v : V} (h : VTy X.lay 36 v) : ∃ xs : List Int, v = .c (ints false xs) := by
  unfold VTy at h
  rw [lay36] at h
  simp only [LK.agg, Bool.false_eq_true, if_false] at h
  obtain ⟨c, rfl, hc⟩ := h
  obtain ⟨xs, e, hx, hn⟩ := cty_slice lay36 hc
  simp only [List.cons.injEq, and_true] at e
  subst e
  obtain ⟨zs, k1, k2, -⟩ := flat_of2 (enc := int) (p := fun _ => True) (xs := xs) fun x hm => by
    obtain ⟨n, hn, -⟩ := cty_int lay2 (hx x hm)
    exact ⟨n, hn, trivial⟩
  exact ⟨zs, by rw [k2, ← k1]; rfl⟩
theorem law4 (xs : List V) (hl : xs.length = [35, 36, 2].length) (h : ∀ (j : Nat) (t : TypeId) (x : V), [35, 36, 2][j]? = some t → xs[j]? = some x → VTy X.lay t x) : PureC X 4 xs (cB true) := by
  match xs, hl with
  | [a, b, c], _ =>
    obtain ⟨ps, rfl, hx, hM⟩ := vty_plns (h 0 35 a rfl rfl)
    obtain ⟨ts, rfl⟩ := vty_ints (h 1 36 b rfl rfl)
    obtain ⟨q, rfl⟩ := vty_i64 lay2 (h 2 2 c rfl rfl)
    exact c4 ps ts q hx hM
end Go.VL
namespace Go.Proofs.Ythamafbbdaembaa
open Go.RowKit Go.WideShapes Go.ChangeShapes Go.ChangeAt
theorem lifted4 (os : Os) (started : os.Started) (H : Type) (enc : TypeId × Value → H) :
    ReturnsInHanded {} Try.checked os 4 .any (Rows.fnExactWaveOfSpec.pre6 enc Try.prog Try.f4 Rows.fnExactWaveOfRow.domain false) (Rows.fnExactWaveOfSpec.post enc Try.prog Try.f4 false true false false) := by
  refine B0.lift (C := Try.checked) (tb := 4) (by kernel_rfl) started (by kernel_rfl) Try.func4
    (ChangeSpec.witness6 (enc := enc) (C := Try.checked) false ⟨#[], #[.slice none 0 0, .slice none 0 0, .int .i64 0], []⟩ 8 (by kernel_rfl) (by kernel_rfl) (by kernel_rfl) (by kernel_rfl))
    (by kernel_rfl) (by kernel_rfl) rfl (by kernel_rfl) Try.underlying4 (fun ds hds => ?_) ?_
  · rw [show Try.f4.params = #[35, 36, 2] from Try.params4] at hds
    match ds, hds with
    | [d0, d1, d2], _ => rfl
  · intro W base args ds p hval hA
    have hA' : DataW.TrodAll enc Try.prog W 0 (fun _ => true) true [35, 36, 2] args.toList ds p := by
      have := hA
      rw [show Try.f4.params = #[35, 36, 2] from Try.params4] at this
      exact this
    refine VL.law_calls (X := VL.X) (fun _ _ => Try.call4 _ _) (ts := [35, 36, 2]) rfl (f := 12) (by kernel_rfl) VL.law4 (fun j t v h1 h2 => hval j t v ?_ h2) hA'
    rw [show Try.f4.params = #[35, 36, 2] from Try.params4]
    simpa using h1
theorem waveOf_holds : Rows.FnExactWaveOfSaid :=
  OpenClaim.holds_of_wide 4 Try.f4 rfl rfl rfl rfl rfl rfl rfl ⟨rfl, rfl, rfl, rfl, rfl⟩ rfl rfl rfl rfl rfl (by kernel_rfl) Try.func4 (by kernel_rfl)
    (of_decide_eq_true (by kernel_rfl)) (by unfold Func.isWrapper; rw [if_neg (of_decide_eq_false (by kernel_rfl))]; exact ⟨rfl, rfl⟩)
    (fun os started H enc _ => lifted4 os started H enc)
#print axioms waveOf_holds
end Go.Proofs.Ythamafbbdaembaa
