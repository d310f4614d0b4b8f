/- The law FnExactWatchRoad answers true whatever its arguments, and turns nothing that was there. No condition. -/
import Derived.Test.YtinnefdhocdmmaaM4
set_option maxRecDepth 20000
namespace Go.VL
theorem vty_dt {v : V} (h : VTy X.lay 25 v) : ∃ d : Dt, v = .agg (dtc d) ∧ dW d := by
  unfold VTy at h
  rw [lay25] at h
  simp only [LK.agg, if_true] at h
  obtain ⟨cs, rfl, hc⟩ := h
  obtain ⟨h1, h2⟩ := cty_struct lay25 hc
  match cs, h1 with
  | [c0, c1, c2, c3, c4], _ =>
    obtain ⟨a, e0, -⟩ := cty_int lay2 (h2 (2, 0) (by simp))
    obtain ⟨x, e1, w1⟩ := cty_sg (h2 (22, 1) (by simp))
    obtain ⟨c, e2, l2⟩ := cty_int lay23 (h2 (23, 2) (by simp))
    obtain ⟨y, e3, w3⟩ := cty_sg (h2 (22, 3) (by simp))
    obtain ⟨e, e4, -⟩ := cty_int lay2 (h2 (2, 4) (by simp))
    have q0 : [c0] = [.v (.int .i64 a)] := e0
    have q1 : [c1] = [.f .f32 x] := e1
    have q2 : [c2] = [.v (.int .i16 c)] := e2
    have q3 : [c3] = [.f .f32 y] := e3
    have q4 : [c4] = [.v (.int .i64 e)] := e4
    simp only [List.cons.injEq, and_true] at q0 q1 q2 q3 q4
    subst q0 q1 q2 q3 q4
    exact ⟨(a, x, c, y, e), rfl, w1, w3, l2⟩
theorem vty_rd {v : V} (h : VTy X.lay 28 v) : ∃ r : Rd, v = .agg (rdc r) ∧ rW r := by
  unfold VTy at h
  rw [lay28] at h
  simp only [LK.agg, if_true] at h
  obtain ⟨cs, rfl, hc⟩ := h
  obtain ⟨r, rfl, hr⟩ := cty_rd hc
  exact ⟨r, rfl, hr⟩
theorem law3 (xs : List V) (hl : xs.length = [25, 28].length) (h : ∀ (j : Nat) (t : TypeId) (x : V), [25, 28][j]? = some t → xs[j]? = some x → VTy X.lay t x) : PureC X 3 xs (cB true) := by
  match xs, hl with
  | [a, b], _ =>
    obtain ⟨d, rfl, hd⟩ := vty_dt (h 0 25 a rfl rfl)
    obtain ⟨r, rfl, hr⟩ := vty_rd (h 1 28 b rfl rfl)
    exact cLawWatch d r hd hr
end Go.VL
namespace Go.Proofs.Ytinnefdhocdmmaa
open Go.RowKit Go.WideShapes Go.ChangeShapes Go.ChangeAt
theorem lifted3 (os : Os) (started : os.Started) (H : Type) (enc : TypeId × Value → H) :
    ReturnsInHanded {} Try.checked os 3 .any (Rows.fnExactWatchRoadSpec.pre6 enc Try.prog Try.f3 Rows.fnExactWatchRoadRow.domain false) (Rows.fnExactWatchRoadSpec.post enc Try.prog Try.f3 false true false false) := by
  refine B0.lift (C := Try.checked) (tb := 4) (by kernel_rfl) started (by kernel_rfl) Try.func3
    (ChangeSpec.witness6 (enc := enc) (C := Try.checked) false ⟨#[], #[.agg #[.int .i64 0, .float .f32 0, .int .i16 0, .float .f32 0, .int .i64 0], .agg #[.float .f32 0, .float .f32 0, .float .f32 0, .float .f32 0, .float .f32 0, .float .f32 0, .float .f32 0, .float .f32 0, .float .f32 0, .float .f32 0, .float .f32 0, .float .f32 0, .float .f32 0, .float .f32 0, .float .f32 0, .float .f32 0, .float .f32 0, .float .f32 0, .float .f32 0]], []⟩ 8 (by kernel_rfl) (by kernel_rfl) (by kernel_rfl) (by kernel_rfl))
    (by kernel_rfl) (by kernel_rfl) rfl (by kernel_rfl) Try.underlying4 (fun ds hds => ?_) ?_
  · rw [show Try.f3.params = #[25, 28] from Try.params3] at hds
    match ds, hds with
    | [d0, d1], _ => rfl
  · intro W base args ds p hval hA
    have hA' : DataW.TrodAll enc Try.prog W 0 (fun _ => true) true [25, 28] args.toList ds p := by
      have := hA
      rw [show Try.f3.params = #[25, 28] from Try.params3] at this
      exact this
    refine VL.law_calls (X := VL.X) (fun _ _ => Try.call3 _ _) (ts := [25, 28]) rfl (f := 12) (by kernel_rfl) VL.law3 (fun j t v h1 h2 => hval j t v ?_ h2) hA'
    rw [show Try.f3.params = #[25, 28] from Try.params3]
    simpa using h1
theorem watchRoad_holds : Rows.FnExactWatchRoadSaid :=
  OpenClaim.holds_of_wide 3 Try.f3 rfl rfl rfl rfl rfl rfl rfl ⟨rfl, rfl, rfl, rfl, rfl⟩ rfl rfl rfl rfl rfl (by kernel_rfl) Try.func3 (by kernel_rfl)
    (of_decide_eq_true (by kernel_rfl)) (by unfold Func.isWrapper; rw [if_neg (of_decide_eq_false (by kernel_rfl))]; exact ⟨rfl, rfl⟩)
    (fun os started H enc _ => lifted3 os started H enc)
#print axioms watchRoad_holds
end Go.Proofs.Ytinnefdhocdmmaa
