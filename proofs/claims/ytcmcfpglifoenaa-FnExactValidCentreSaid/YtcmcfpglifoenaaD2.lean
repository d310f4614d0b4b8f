/- The law FnExactValidCentre answers true whatever its argument, and turns nothing that was there. No condition. -/
import Derived.Test.YtcmcfpglifoenaaC1
import Derived.Test.YtcmcfpglifoenaaB0
set_option maxRecDepth 20000
namespace Go.VL
theorem cty_cen {cs : List C} (h : Cty X.lay 30 cs) : ∃ (p : Int) (xs : List Int), cs = cen true p xs ∧ xs.length ≤ maxLen := by
  obtain ⟨h1, h2⟩ := cty_struct lay30 h
  match cs, h1 with
  | [c0, c1], _ =>
    obtain ⟨p, e0, -⟩ := cty_int lay2 (h2 (2, 0) (by simp))
    obtain ⟨xs, e1, hx, hn⟩ := cty_slice lay28 (h2 (28, 1) (by simp))
    obtain ⟨ys, k1, k2, -⟩ := flat_of (enc := int) (xs := xs) fun x hxm => by
      obtain ⟨n, hn, -⟩ := cty_int lay2 (hx x hxm)
      exact ⟨n, hn⟩
    have q0 : [c0] = [.v (.int .i64 p)] := e0
    have q1 : [c1] = [.sl true xs.length 1 xs.flatten] := e1
    simp only [List.cons.injEq, and_true] at q0 q1
    subst q0 q1
    exact ⟨p, ys, by rw [k2, ← k1], by rw [k1]; exact hn⟩
theorem law4 (xs : List V) (hl : xs.length = [30].length) (h : ∀ (j : Nat) (t : TypeId) (x : V), [30][j]? = some t → xs[j]? = some x → VTy X.lay t x) : PureC X 4 xs (cB true) := by
  match xs, hl with
  | [v], _ =>
    have h0 := h 0 30 v rfl rfl
    unfold VTy at h0
    rw [lay30] at h0
    simp only [LK.agg, if_true] at h0
    obtain ⟨cs, rfl, hc⟩ := h0
    obtain ⟨p, ys, rfl, hy⟩ := cty_cen hc
    exact c4 p ys hy
end Go.VL
namespace Go.Proofs.Ytcmcfpglifoenaa
open Go.RowKit Go.WideShapes Go.ChangeShapes Go.ChangeAt
theorem lifted4 (os : Os) (started : os.Started) (H : Type) (enc : TypeId × Value → H) :
    ReturnsInHanded {} Try.checked os 4 .any (Rows.fnExactValidCentreSpec.pre6 enc Try.prog Try.f4 Rows.fnExactValidCentreRow.domain false) (Rows.fnExactValidCentreSpec.post enc Try.prog Try.f4 false true false false) := by
  refine B0.lift (C := Try.checked) (tb := 4) (by kernel_rfl) started (by kernel_rfl) Try.func4
    (ChangeSpec.witness6 (enc := enc) (C := Try.checked) false ⟨#[], #[.agg #[.int .i64 0, .slice none 0 0]], []⟩ 8 (by kernel_rfl) (by kernel_rfl) (by kernel_rfl) (by kernel_rfl))
    (by kernel_rfl) (by kernel_rfl) rfl (by kernel_rfl) Try.underlying4 (fun ds hds => ?_) ?_
  · rw [show Try.f4.params = #[30] from Try.params4] at hds
    match ds, hds with
    | [d], _ => rfl
  · intro W base args ds p hval hA
    have hA' : DataW.TrodAll enc Try.prog W 0 (fun _ => true) true [30] args.toList ds p := by
      have := hA
      rw [show Try.f4.params = #[30] from Try.params4] at this
      exact this
    refine VL.law_calls (X := VL.X) (ts := [30]) rfl (f := 5) (by kernel_rfl) VL.law4 (fun j t v h1 h2 => hval j t v ?_ h2) hA'
    rw [show Try.f4.params = #[30] from Try.params4]
    simpa using h1
theorem validCentre_holds : Rows.FnExactValidCentreSaid :=
  OpenClaim.holds_of_wide 4 Try.f4 rfl rfl rfl rfl rfl rfl rfl ⟨rfl, rfl, rfl, rfl, rfl⟩ rfl rfl rfl rfl rfl (by kernel_rfl) Try.func4 (by kernel_rfl)
    (of_decide_eq_true (by kernel_rfl)) (by unfold Func.isWrapper; rw [if_neg (of_decide_eq_false (by kernel_rfl))]; exact ⟨rfl, rfl⟩)
    (fun os started H enc _ => lifted4 os started H enc)
#print axioms validCentre_holds
end Go.Proofs.Ytcmcfpglifoenaa
