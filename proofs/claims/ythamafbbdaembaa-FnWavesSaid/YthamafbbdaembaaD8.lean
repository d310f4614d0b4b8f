/- The law FnWaves answers true whatever its arguments, and turns nothing that was there. No condition. -/
import Derived.Test.YthamafbbdaembaaM4
set_option maxRecDepth 20000
namespace Go.VL
theorem vty_bytes {v : V} (h : VTy X.lay 48 v) : ∃ xs : List Int, v = .c (.sl false xs.length 1 (flat byt xs)) ∧ xs.length ≤ maxLen ∧ ∀ b ∈ xs, 0 ≤ b ∧ b ≤ 255 := by
  unfold VTy at h
  rw [lay48] at h
  simp only [LK.agg, Bool.false_eq_true, if_false] at h
  obtain ⟨c, rfl, hc⟩ := h
  obtain ⟨xs, e, hx, hn⟩ := cty_slice lay48 hc
  simp only [List.cons.injEq, and_true] at e
  subst e
  obtain ⟨zs, k1, k2, k3⟩ := flat_of2 (enc := byt) (p := fun b => 0 ≤ b ∧ b ≤ 255) (xs := xs) fun x hm => by
    obtain ⟨b, hb, h1, h2⟩ := cty_int lay5 (hx x hm)
    exact ⟨b, hb, h1, h2⟩
  exact ⟨zs, by rw [k2, ← k1]; rfl, by omega, k3⟩
theorem law5 (xs : List V) (hl : xs.length = [48, 48].length) (h : ∀ (j : Nat) (t : TypeId) (x : V), [48, 48][j]? = some t → xs[j]? = some x → VTy X.lay t x) : PureC X 5 xs (cB true) := by
  match xs, hl with
  | [a, b], _ =>
    obtain ⟨cs, rfl, h1, h2⟩ := vty_bytes (h 0 48 a rfl rfl)
    obtain ⟨ms, rfl, h3, h4⟩ := vty_bytes (h 1 48 b rfl rfl)
    exact c5 cs ms h2 h1 h3

end Go.VL
namespace Go.Proofs.Ythamafbbdaembaa
open Go.RowKit Go.WideShapes Go.ChangeShapes Go.ChangeAt
theorem lifted5 (os : Os) (started : os.Started) (H : Type) (enc : TypeId × Value → H) :
    ReturnsInHanded {} Try.checked os 5 .any (Rows.fnWavesSpec.pre6 enc Try.prog Try.f5 Rows.fnWavesRow.domain false) (Rows.fnWavesSpec.post enc Try.prog Try.f5 false true false false) := by
  refine B0.lift (C := Try.checked) (tb := 4) (by kernel_rfl) started (by kernel_rfl) Try.func5
    (ChangeSpec.witness6 (enc := enc) (C := Try.checked) false ⟨#[], #[.slice none 0 0, .slice none 0 0], []⟩ 8 (by kernel_rfl) (by kernel_rfl) (by kernel_rfl) (by kernel_rfl))
    (by kernel_rfl) (by kernel_rfl) rfl (by kernel_rfl) Try.underlying4 (fun ds hds => ?_) ?_
  · rw [show Try.f5.params = #[48, 48] from Try.params5] at hds
    match ds, hds with
    | [d0, d1], _ => rfl
  · intro W base args ds p hval hA
    have hA' : DataW.TrodAll enc Try.prog W 0 (fun _ => true) true [48, 48] args.toList ds p := by
      have := hA
      rw [show Try.f5.params = #[48, 48] from Try.params5] at this
      exact this
    refine VL.law_calls (X := VL.X) (fun _ _ => Try.call5 _ _) (ts := [48, 48]) rfl (f := 5) (by kernel_rfl) VL.law5 (fun j t v h1 h2 => hval j t v ?_ h2) hA'
    rw [show Try.f5.params = #[48, 48] from Try.params5]
    simpa using h1
theorem fnWaves_holds : Rows.FnWavesSaid :=
  OpenClaim.holds_of_wide 5 Try.f5 rfl rfl rfl rfl rfl rfl rfl ⟨rfl, rfl, rfl, rfl, rfl⟩ rfl rfl rfl rfl rfl (by kernel_rfl) Try.func5 (by kernel_rfl)
    (of_decide_eq_true (by kernel_rfl)) (by unfold Func.isWrapper; rw [if_neg (of_decide_eq_false (by kernel_rfl))]; exact ⟨rfl, rfl⟩)
    (fun os started H enc _ => lifted5 os started H enc)
#print axioms fnWaves_holds
end Go.Proofs.Ythamafbbdaembaa
