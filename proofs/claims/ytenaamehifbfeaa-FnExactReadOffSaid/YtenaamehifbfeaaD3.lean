/- The law FnExactReadOff answers true whatever its arguments, and turns nothing that was there. No condition. -/
import Derived.Test.YtenaamehifbfeaaC1
import Derived.Test.YtenaamehifbfeaaB0
set_option maxRecDepth 20000
namespace Go.VL
theorem sg_of {x : Nat} (hw : (Lit.float .f32 x).wf = true) : Sg (fOf .f32 x) := by
  refine ⟨okF_fOf x, fun b h => ?_⟩
  have hlt : x < 2 ^ 32 := by simpa [Lit.wf] using hw
  unfold fOf at h
  split at h
  · cases h
  · simp only [Option.some.injEq] at h
    subst h
    exact hlt
theorem cty_det {cs : List C} (h : Cty X.lay 25 cs) : ∃ (cell count ticks : Int) (carry full : Option Nat), cs = det cell carry count full ticks ∧ Sg carry ∧ Sg full := by
  obtain ⟨h1, h2⟩ := cty_struct lay25 h
  match cs, h1 with
  | [c0, c1, c2, c3, c4], _ =>
    obtain ⟨a, e0, -⟩ := cty_int lay2 (h2 (2, 0) (by simp))
    obtain ⟨b, e1, w1⟩ := cty_float lay22 (h2 (22, 1) (by simp))
    obtain ⟨c, e2, -⟩ := cty_int lay23 (h2 (23, 2) (by simp))
    obtain ⟨d, e3, w3⟩ := cty_float lay22 (h2 (22, 3) (by simp))
    obtain ⟨e, e4, -⟩ := cty_int lay2 (h2 (2, 4) (by simp))
    have q0 : [c0] = [.v (.int .i64 a)] := e0
    have q1 : [c1] = [.f .f32 (fOf .f32 b)] := e1
    have q2 : [c2] = [.v (.int .i16 c)] := e2
    have q3 : [c3] = [.f .f32 (fOf .f32 d)] := e3
    have q4 : [c4] = [.v (.int .i64 e)] := e4
    simp only [List.cons.injEq, and_true] at q0 q1 q2 q3 q4
    subst q0 q1 q2 q3 q4
    exact ⟨a, c, e, _, _, rfl, sg_of w1, sg_of w3⟩
theorem law3 (xs : List V) (hl : xs.length = [25, 2].length) (h : ∀ (j : Nat) (t : TypeId) (x : V), [25, 2][j]? = some t → xs[j]? = some x → VTy X.lay t x) : PureC X 3 xs (cB true) := by
  match xs, hl with
  | [v, w], _ =>
    have h0 := h 0 25 v rfl rfl
    have h1 := h 1 2 w rfl rfl
    unfold VTy at h0 h1
    rw [lay25] at h0
    rw [lay2] at h1
    simp only [LK.agg, if_true, Bool.false_eq_true, if_false] at h0 h1
    obtain ⟨cs, rfl, hc⟩ := h0
    obtain ⟨c, rfl, hd⟩ := h1
    obtain ⟨cell, count, ticks, carry, full, rfl, g1, g2⟩ := cty_det hc
    obtain ⟨n, hn, -⟩ := cty_int lay2 hd
    simp only [List.cons.injEq, and_true] at hn
    subst hn
    exact c3 cell count ticks n carry full g1 g2 g1.1
end Go.VL
namespace Go.Proofs.Ytenaamehifbfeaa
open Go.RowKit Go.WideShapes Go.ChangeShapes Go.ChangeAt
theorem lifted3 (os : Os) (started : os.Started) (H : Type) (enc : TypeId × Value → H) :
    ReturnsInHanded {} Try.checked os 3 .any (Rows.fnExactReadOffSpec.pre6 enc Try.prog Try.f3 Rows.fnExactReadOffRow.domain false) (Rows.fnExactReadOffSpec.post enc Try.prog Try.f3 false true false false) := by
  refine B0.lift (C := Try.checked) (tb := 4) (by kernel_rfl) started (by kernel_rfl) Try.func3
    (ChangeSpec.witness6 (enc := enc) (C := Try.checked) false ⟨#[], #[.agg #[.int .i64 0, .float .f32 0, .int .i16 0, .float .f32 0, .int .i64 0], .int .i64 0], []⟩ 8 (by kernel_rfl) (by kernel_rfl) (by kernel_rfl) (by kernel_rfl))
    (by kernel_rfl) (by kernel_rfl) rfl (by kernel_rfl) Try.underlying4 (fun ds hds => ?_) ?_
  · rw [show Try.f3.params = #[25, 2] from Try.params3] at hds
    match ds, hds with
    | [d0, d1], _ => rfl
  · intro W base args ds p hval hA
    have hA' : DataW.TrodAll enc Try.prog W 0 (fun _ => true) true [25, 2] args.toList ds p := by
      have := hA
      rw [show Try.f3.params = #[25, 2] from Try.params3] at this
      exact this
    refine VL.law_calls (X := VL.X) (fun _ _ => Try.call3 _ _) (ts := [25, 2]) rfl (f := 5) (by kernel_rfl) VL.law3 (fun j t v h1 h2 => hval j t v ?_ h2) hA'
    rw [show Try.f3.params = #[25, 2] from Try.params3]
    simpa using h1
theorem readOff_holds : Rows.FnExactReadOffSaid :=
  OpenClaim.holds_of_wide 3 Try.f3 rfl rfl rfl rfl rfl rfl rfl ⟨rfl, rfl, rfl, rfl, rfl⟩ rfl rfl rfl rfl rfl (by kernel_rfl) Try.func3 (by kernel_rfl)
    (of_decide_eq_true (by kernel_rfl)) (by unfold Func.isWrapper; rw [if_neg (of_decide_eq_false (by kernel_rfl))]; exact ⟨rfl, rfl⟩)
    (fun os started H enc _ => lifted3 os started H enc)
#print axioms readOff_holds
end Go.Proofs.Ytenaamehifbfeaa
