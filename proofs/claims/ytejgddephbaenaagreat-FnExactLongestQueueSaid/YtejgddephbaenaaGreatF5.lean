/- The law FnExactLongestQueue answers true whatever its arguments, and turns nothing that was there. No condition. -/
import Derived.Test.YtejgddephbaenaaGreatM6
set_option maxRecDepth 20000
namespace Go.VL
theorem law5 (xs : List V) (hl : xs.length = [28].length) (h : ∀ (j : Nat) (t : TypeId) (x : V), [28][j]? = some t → xs[j]? = some x → VTy X.lay t x) : PureC X 5 xs (cB true) := by
  match xs, hl with
  | [a], _ =>
    obtain ⟨t, rfl, hM, hF⟩ := vty_town (h 0 28 a rfl rfl)
    exact cLawQueue t hM hF
end Go.VL
namespace Go.Proofs.YtejgddephbaenaaGreat
open Go.RowKit Go.WideShapes Go.ChangeShapes Go.ChangeAt
theorem lifted5 (os : Os) (started : os.Started) (H : Type) (enc : TypeId × Value → H) :
    ReturnsInHanded {} Tryz.checked os 5 .any (Rows.fnExactLongestQueueSpec.pre6 enc Tryz.prog Tryz.f5 Rows.fnExactLongestQueueRow.domain false) (Rows.fnExactLongestQueueSpec.post enc Tryz.prog Tryz.f5 false true false false) := by
  refine B0.lift (C := Tryz.checked) (tb := 4) (by kernel_rfl) started (by kernel_rfl) Tryz.func5
    (ChangeSpec.witness6 (enc := enc) (C := Tryz.checked) false ⟨#[], #[.agg #[.slice none 0 0, .slice none 0 0, .slice none 0 0, .slice none 0 0, .int .i64 0, .float .f32 0, .float .f32 0]], []⟩ 8 (by kernel_rfl) (by kernel_rfl) (by kernel_rfl) (by kernel_rfl))
    (by kernel_rfl) (by kernel_rfl) rfl (by kernel_rfl) Tryz.underlying4 (fun ds hds => ?_) ?_
  · rw [show Tryz.f5.params = #[28] from Tryz.params5] at hds
    match ds, hds with
    | [d0], _ => rfl
  · intro W base args ds p hval hA
    have hA' : DataW.TrodAll enc Tryz.prog W 0 (fun _ => true) true [28] args.toList ds p := by
      have := hA
      rw [show Tryz.f5.params = #[28] from Tryz.params5] at this
      exact this
    refine VL.law_calls (X := VL.X) (fun _ _ => Tryz.call5 _ _) (ts := [28]) rfl (f := 12) (by kernel_rfl) VL.law5 (fun j t v h1 h2 => hval j t v ?_ h2) hA'
    rw [show Tryz.f5.params = #[28] from Tryz.params5]
    simpa using h1
theorem longestQueue_holds : Rows.FnExactLongestQueueSaid :=
  OpenClaim.holds_of_wide 5 Tryz.f5 rfl rfl rfl rfl rfl rfl rfl ⟨rfl, rfl, rfl, rfl, rfl⟩ rfl rfl rfl rfl rfl (by kernel_rfl) Tryz.func5 (by kernel_rfl)
    (of_decide_eq_true (by kernel_rfl)) (by unfold Func.isWrapper; rw [if_neg (of_decide_eq_false (by kernel_rfl))]; exact ⟨rfl, rfl⟩)
    (fun os started H enc _ => lifted5 os started H enc)
#print axioms longestQueue_holds
end Go.Proofs.YtejgddephbaenaaGreat
