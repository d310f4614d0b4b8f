/- The law FnIncidents answers true whatever its arguments, and turns nothing that was there. No condition. -/
import Derived.Test.YtenaamehifbfeaaM6
set_option maxRecDepth 20000
namespace Go.VL
theorem flat_of2 {α : Type} {enc : α → List C} {p : α → Prop} {xs : List (List C)} (h : ∀ x ∈ xs, ∃ a, x = enc a ∧ p a) : ∃ zs : List α, zs.length = xs.length ∧ xs.flatten = flat enc zs ∧ ∀ a ∈ zs, p a := by
  induction xs with
  | nil => exact ⟨[], rfl, rfl, fun a h => by cases h⟩
  | cons x xs ih =>
    obtain ⟨a, rfl, ha⟩ := h x (by simp)
    obtain ⟨zs, h1, h2, h3⟩ := ih (fun y hy => h y (by simp [hy]))
    exact ⟨a :: zs, by simp [h1], by rw [List.flatten_cons, h2, flat_cons], fun b hb => by
      rcases List.mem_cons.1 hb with rfl | hb
      · exact ha
      · exact h3 b hb⟩
/-- A slot that holds bytes. -/
theorem vty_bytes {v : V} (h : VTy X.lay 47 v) : ∃ xs : List Int, v = .c (bys false xs) ∧ xs.length ≤ maxLen ∧ B8 xs := by
  unfold VTy at h
  rw [lay47] at h
  simp only [LK.agg, Bool.false_eq_true, if_false] at h
  obtain ⟨c, rfl, hc⟩ := h
  obtain ⟨xs, e, hx, hn⟩ := cty_slice lay47 hc
  simp only [List.cons.injEq, and_true] at e
  subst e
  obtain ⟨zs, k1, k2, k3⟩ := flat_of2 (enc := be) (p := fun n => 0 ≤ n ∧ n ≤ 255) (xs := xs) fun x hm => by
    obtain ⟨n, hn, hr⟩ := cty_int lay5 (hx x hm)
    exact ⟨n, hn, hr⟩
  exact ⟨zs, by rw [k2, ← k1]; rfl, by omega, k3⟩
theorem law13 (xs : List V) (hl : xs.length = [47, 47].length) (h : ∀ (j : Nat) (t : TypeId) (x : V), [47, 47][j]? = some t → xs[j]? = some x → VTy X.lay t x) : PureC X 13 xs (cB true) := by
  match xs, hl with
  | [a, b], _ =>
    obtain ⟨cs, rfl, a1, a2⟩ := vty_bytes (h 0 47 a rfl rfl)
    obtain ⟨ms, rfl, b1, b2⟩ := vty_bytes (h 1 47 b rfl rfl)
    exact c13 cs ms a2 b2 a1 b1
end Go.VL
namespace Go.Proofs.Ytenaamehifbfeaa
open Go.RowKit Go.WideShapes Go.ChangeShapes Go.ChangeAt
theorem lifted13 (os : Os) (started : os.Started) (H : Type) (enc : TypeId × Value → H) :
    ReturnsInHanded {} Try.checked os 13 .any (Rows.fnIncidentsSpec.pre6 enc Try.prog Try.f13 Rows.fnIncidentsRow.domain false) (Rows.fnIncidentsSpec.post enc Try.prog Try.f13 false true false false) := by
  refine B0.lift (C := Try.checked) (tb := 4) (by kernel_rfl) started (by kernel_rfl) Try.func13
    (ChangeSpec.witness6 (enc := enc) (C := Try.checked) false ⟨#[], #[.slice none 0 0, .slice none 0 0], []⟩ 8 (by kernel_rfl) (by kernel_rfl) (by kernel_rfl) (by kernel_rfl))
    (by kernel_rfl) (by kernel_rfl) rfl (by kernel_rfl) Try.underlying4 (fun ds hds => ?_) ?_
  · rw [show Try.f13.params = #[47, 47] from Try.params13] at hds
    match ds, hds with
    | [d0, d1], _ => rfl
  · intro W base args ds p hval hA
    have hA' : DataW.TrodAll enc Try.prog W 0 (fun _ => true) true [47, 47] args.toList ds p := by
      have := hA
      rw [show Try.f13.params = #[47, 47] from Try.params13] at this
      exact this
    refine VL.law_calls (X := VL.X) (fun _ _ => Try.call13 _ _) (ts := [47, 47]) rfl (f := 5) (by kernel_rfl) VL.law13 (fun j t v h1 h2 => hval j t v ?_ h2) hA'
    rw [show Try.f13.params = #[47, 47] from Try.params13]
    simpa using h1
theorem fnIncidents_holds : Rows.FnIncidentsSaid :=
  OpenClaim.holds_of_wide 13 Try.f13 rfl rfl rfl rfl rfl rfl rfl ⟨rfl, rfl, rfl, rfl, rfl⟩ rfl rfl rfl rfl rfl (by kernel_rfl) Try.func13 (by kernel_rfl)
    (of_decide_eq_true (by kernel_rfl)) (by unfold Func.isWrapper; rw [if_neg (of_decide_eq_false (by kernel_rfl))]; exact ⟨rfl, rfl⟩)
    (fun os started H enc _ => lifted13 os started H enc)
#print axioms fnIncidents_holds
end Go.Proofs.Ytenaamehifbfeaa
