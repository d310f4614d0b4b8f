/- The law FnExactGreenIns answers true whatever its arguments, and turns nothing that was there. No condition. -/
import Derived.Test.YtejgddephbaenaaGreatM6
set_option maxRecDepth 20000
namespace Go.VL
theorem law7 (xs : List V) (hl : xs.length = [28, 2].length) (h : ∀ (j : Nat) (t : TypeId) (x : V), [28, 2][j]? = some t → xs[j]? = some x → VTy X.lay t x) : PureC X 7 xs (cB true) := by
  match xs, hl with
  | [a, b], _ =>
    obtain ⟨t, rfl, hM, hF⟩ := vty_town (h 0 28 a rfl rfl)
    obtain ⟨j, rfl, -⟩ := vty_i64 lay2 (h 1 2 b rfl rfl)
    exact cLawGreen t j hM hF
end Go.VL
namespace Go.Proofs.YtejgddephbaenaaGreat
open Go.RowKit Go.WideShapes Go.ChangeShapes Go.ChangeAt
theorem lifted7 (os : Os) (started : os.Started) (H : Type) (enc : TypeId × Value → H) :
    ReturnsInHanded {} Tryz.checked os 7 .any (Rows.fnExactGreenInsSpec.pre6 enc Tryz.prog Tryz.f7 Rows.fnExactGreenInsRow.domain false) (Rows.fnExactGreenInsSpec.post enc Tryz.prog Tryz.f7 false true false false) := by
  refine B0.lift (C := Tryz.checked) (tb := 4) (by kernel_rfl) started (by kernel_rfl) Tryz.func7
    (ChangeSpec.witness6 (enc := enc) (C := Tryz.checked) false ⟨#[], #[.agg #[.slice none 0 0, .slice none 0 0, .slice none 0 0, .slice none 0 0, .int .i64 0, .float .f32 0, .float .f32 0], .int .i64 0], []⟩ 8 (by kernel_rfl) (by kernel_rfl) (by kernel_rfl) (by kernel_rfl))
    (by kernel_rfl) (by kernel_rfl) rfl (by kernel_rfl) Tryz.underlying4 (fun ds hds => ?_) ?_
  · rw [show Tryz.f7.params = #[28, 2] from Tryz.params7] at hds
    match ds, hds with
    | [d0, d1], _ => rfl
  · intro W base args ds p hval hA
    have hA' : DataW.TrodAll enc Tryz.prog W 0 (fun _ => true) true [28, 2] args.toList ds p := by
      have := hA
      rw [show Tryz.f7.params = #[28, 2] from Tryz.params7] at this
      exact this
    refine VL.law_calls (X := VL.X) (fun _ _ => Tryz.call7 _ _) (ts := [28, 2]) rfl (f := 12) (by kernel_rfl) VL.law7 (fun j t v h1 h2 => hval j t v ?_ h2) hA'
    rw [show Tryz.f7.params = #[28, 2] from Tryz.params7]
    simpa using h1
theorem greenIns_holds : Rows.FnExactGreenInsSaid :=
  OpenClaim.holds_of_wide 7 Tryz.f7 rfl rfl rfl rfl rfl rfl rfl ⟨rfl, rfl, rfl, rfl, rfl⟩ rfl rfl rfl rfl rfl (by kernel_rfl) Tryz.func7 (by kernel_rfl)
    (of_decide_eq_true (by kernel_rfl)) (by unfold Func.isWrapper; rw [if_neg (of_decide_eq_false (by kernel_rfl))]; exact ⟨rfl, rfl⟩)
    (fun os started H enc _ => lifted7 os started H enc)
#print axioms greenIns_holds
end Go.Proofs.YtejgddephbaenaaGreat
