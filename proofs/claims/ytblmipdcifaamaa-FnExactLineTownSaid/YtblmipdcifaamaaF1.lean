/- The law FnExactLineTown answers true whatever its arguments, and turns nothing that was there. No condition. -/
import Derived.Test.YtblmipdcifaamaaM5
set_option maxRecDepth 20000
namespace Go.VL
theorem sg_of {x : Nat} (hw : (Lit.float .f32 x).wf = true) : Sg (fOf .f32 x) := by
  refine ⟨okF_fOf x, fun b h => ?_⟩
  have hlt : x < 2 ^ 32 := by simpa [Lit.wf] using hw
  unfold fOf at h
  split at h
  · cases h
  · simp only [Option.some.injEq] at h
    subst h
    exact hlt
theorem vty_sg {v : V} (h : VTy X.lay 22 v) : ∃ x : Option Nat, v = .c (.f .f32 x) ∧ Sg x := by
  unfold VTy at h
  rw [lay22] at h
  simp only [LK.agg, Bool.false_eq_true, if_false] at h
  obtain ⟨c, rfl, hc⟩ := h
  obtain ⟨x, e, hw⟩ := cty_float lay22 hc
  simp only [List.cons.injEq, and_true] at e
  subst e
  exact ⟨_, rfl, sg_of hw⟩
theorem law3 (xs : List V) (hl : xs.length = [2, 22].length) (h : ∀ (j : Nat) (t : TypeId) (x : V), [2, 22][j]? = some t → xs[j]? = some x → VTy X.lay t x) : PureC X 3 xs (cB true) := by
  match xs, hl with
  | [a, b], _ =>
    obtain ⟨n, rfl⟩ := vty_i64 lay2 (h 0 2 a rfl rfl)
    obtain ⟨x, rfl, hx⟩ := vty_sg (h 1 22 b rfl rfl)
    exact cLaw n x hx
end Go.VL
namespace Go.Proofs.Ytblmipdcifaamaa
open Go.RowKit Go.WideShapes Go.ChangeShapes Go.ChangeAt
theorem lifted3 (os : Os) (started : os.Started) (H : Type) (enc : TypeId × Value → H) :
    ReturnsInHanded {} Try.checked os 3 .any (Rows.fnExactLineTownSpec.pre6 enc Try.prog Try.f3 Rows.fnExactLineTownRow.domain false) (Rows.fnExactLineTownSpec.post enc Try.prog Try.f3 false true false false) := by
  refine B0.lift (C := Try.checked) (tb := 4) (by kernel_rfl) started (by kernel_rfl) Try.func3
    (ChangeSpec.witness6 (enc := enc) (C := Try.checked) false ⟨#[], #[.int .i64 0, .float .f32 0], []⟩ 8 (by kernel_rfl) (by kernel_rfl) (by kernel_rfl) (by kernel_rfl))
    (by kernel_rfl) (by kernel_rfl) rfl (by kernel_rfl) Try.underlying4 (fun ds hds => ?_) ?_
  · rw [show Try.f3.params = #[2, 22] from Try.params3] at hds
    match ds, hds with
    | [d0, d1], _ => rfl
  · intro W base args ds p hval hA
    have hA' : DataW.TrodAll enc Try.prog W 0 (fun _ => true) true [2, 22] args.toList ds p := by
      have := hA
      rw [show Try.f3.params = #[2, 22] from Try.params3] at this
      exact this
    refine VL.law_calls (X := VL.X) (fun _ _ => Try.call3 _ _) (ts := [2, 22]) rfl (f := 5) (by kernel_rfl) VL.law3 (fun j t v h1 h2 => hval j t v ?_ h2) hA'
    rw [show Try.f3.params = #[2, 22] from Try.params3]
    simpa using h1
theorem lineTown_holds : Rows.FnExactLineTownSaid :=
  OpenClaim.holds_of_wide 3 Try.f3 rfl rfl rfl rfl rfl rfl rfl ⟨rfl, rfl, rfl, rfl, rfl⟩ rfl rfl rfl rfl rfl (by kernel_rfl) Try.func3 (by kernel_rfl)
    (of_decide_eq_true (by kernel_rfl)) (by unfold Func.isWrapper; rw [if_neg (of_decide_eq_false (by kernel_rfl))]; exact ⟨rfl, rfl⟩)
    (fun os started H enc _ => lifted3 os started H enc)
#print axioms lineTown_holds
end Go.Proofs.Ytblmipdcifaamaa
