/- The law FnExactFinishDeeds answers true whatever its arguments, and turns nothing that was there. No condition. -/
import Derived.Test.YtbejolinihbokaaG8
import Derived.Test.YtbejolinihbokaaB0
set_option maxRecDepth 20000
namespace Go.VL
theorem flat_of2 {α : Type} {enc : α → List C} {p : α → Prop} {xs : List (List C)} (h : ∀ x ∈ xs, ∃ a, x = enc a ∧ p a) : ∃ zs : List α, zs.length = xs.length ∧ xs.flatten = flat enc zs ∧ ∀ a ∈ zs, p a := by
  induction xs with
  | nil => exact ⟨[], rfl, rfl, fun a h => by cases h⟩
  | cons x xs ih =>
    obtain ⟨a, rfl, ha⟩ := h x (by simp)
    obtain ⟨zs, h1, h2, h3⟩ := ih (fun y hy => h y (by simp [hy]))
    exact ⟨a :: zs, by simp [h1], by rw [List.flatten_cons, h2, flat_cons], fun b hb => by
      rcases List.mem_cons.1 hb with rfl | hb
      · exact ha
      · exact h3 b hb⟩
theorem cty_cen {cs : List C} (h : Cty X.lay 30 cs) : ∃ (p : Int) (xs : List Int), cs = cen true p xs ∧ xs.length ≤ maxLen := by
  obtain ⟨h1, h2⟩ := cty_struct lay30 h
  match cs, h1 with
  | [c0, c1], _ =>
    obtain ⟨p, e0, -⟩ := cty_int lay2 (h2 (2, 0) (by simp))
    obtain ⟨xs, e1, hx, hn⟩ := cty_slice lay28 (h2 (28, 1) (by simp))
    obtain ⟨ys, k1, k2, -⟩ := flat_of2 (enc := int) (p := fun _ => True) (xs := xs) fun x hxm => by
      obtain ⟨n, hn, -⟩ := cty_int lay2 (hx x hxm)
      exact ⟨n, hn, trivial⟩
    have q0 : [c0] = [.v (.int .i64 p)] := e0
    have q1 : [c1] = [.sl true xs.length 1 xs.flatten] := e1
    simp only [List.cons.injEq, and_true] at q0 q1
    subst q0 q1
    exact ⟨p, ys, by rw [k2, ← k1], by rw [k1]; exact hn⟩
theorem vty_cen {v : V} (h : VTy X.lay 30 v) : ∃ (p : Int) (xs : List Int), v = .agg (cen false p xs) ∧ xs.length ≤ maxLen := by
  unfold VTy at h
  rw [lay30] at h
  simp only [LK.agg, if_true] at h
  obtain ⟨cs, rfl, hc⟩ := h
  obtain ⟨p, ys, rfl, hy⟩ := cty_cen hc
  exact ⟨p, ys, rfl, hy⟩
theorem cty_de {cs : List C} (h : Cty X.lay 23 cs) : ∃ d : De, cs = dce d := by
  obtain ⟨h1, h2⟩ := cty_struct lay23 h
  match cs, h1 with
  | [c0, c1, c2], _ =>
    obtain ⟨a, e0, -⟩ := cty_int lay2 (h2 (2, 0) (by simp))
    obtain ⟨b, e1, -⟩ := cty_int lay2 (h2 (2, 1) (by simp))
    obtain ⟨c, e2, -⟩ := cty_int lay2 (h2 (2, 2) (by simp))
    have q0 : [c0] = [.v (.int .i64 a)] := e0
    have q1 : [c1] = [.v (.int .i64 b)] := e1
    have q2 : [c2] = [.v (.int .i64 c)] := e2
    simp only [List.cons.injEq, and_true] at q0 q1 q2
    subst q0 q1 q2
    exact ⟨(a, b, c), rfl⟩
theorem vty_des {v : V} (h : VTy X.lay 37 v) : ∃ xs : List De, v = .c (dcs false xs) ∧ xs.length ≤ maxLen := by
  unfold VTy at h
  rw [lay37] at h
  simp only [LK.agg, Bool.false_eq_true, if_false] at h
  obtain ⟨c, rfl, hc⟩ := h
  obtain ⟨xs, e, hx, hn⟩ := cty_slice lay37 hc
  simp only [List.cons.injEq, and_true] at e
  subst e
  obtain ⟨zs, k1, k2, -⟩ := flat_of2 (enc := dce) (p := fun _ => True) (xs := xs) fun x hm => by
    obtain ⟨d, hd⟩ := cty_de (hx x hm)
    exact ⟨d, hd, trivial⟩
  exact ⟨zs, by rw [k2, ← k1]; rfl, by omega⟩
theorem vty_i64 {v : V} (h : VTy X.lay 2 v) : ∃ n, v = cI n := by
  unfold VTy at h
  rw [lay2] at h
  simp only [LK.agg, Bool.false_eq_true, if_false] at h
  obtain ⟨c, rfl, hc⟩ := h
  obtain ⟨n, e, -⟩ := cty_int lay2 hc
  simp only [List.cons.injEq, and_true] at e
  subst e
  exact ⟨n, rfl⟩
theorem law9 (xs : List V) (hl : xs.length = [30, 37].length) (h : ∀ (j : Nat) (t : TypeId) (x : V), [30, 37][j]? = some t → xs[j]? = some x → VTy X.lay t x) : PureC X 9 xs (cB true) := by
  match xs, hl with
  | [a, b], _ =>
    obtain ⟨p, fs, rfl, hx⟩ := vty_cen (h 0 30 a rfl rfl)
    obtain ⟨ds, rfl, hd⟩ := vty_des (h 1 37 b rfl rfl)
    exact c9 p fs ds hx hd
end Go.VL
namespace Go.Proofs.Ytbejolinihbokaa
open Go.RowKit Go.WideShapes Go.ChangeShapes Go.ChangeAt
theorem lifted9 (os : Os) (started : os.Started) (H : Type) (enc : TypeId × Value → H) :
    ReturnsInHanded {} Try.checked os 9 .any (Rows.fnExactFinishDeedsSpec.pre6 enc Try.prog Try.f9 Rows.fnExactFinishDeedsRow.domain false) (Rows.fnExactFinishDeedsSpec.post enc Try.prog Try.f9 false true false false) := by
  refine B0.lift (C := Try.checked) (tb := 4) (by kernel_rfl) started (by kernel_rfl) Try.func9
    (ChangeSpec.witness6 (enc := enc) (C := Try.checked) false ⟨#[], #[.agg #[.int .i64 0, .slice none 0 0], .slice none 0 0], []⟩ 8 (by kernel_rfl) (by kernel_rfl) (by kernel_rfl) (by kernel_rfl))
    (by kernel_rfl) (by kernel_rfl) rfl (by kernel_rfl) Try.underlying4 (fun ds hds => ?_) ?_
  · rw [show Try.f9.params = #[30, 37] from Try.params9] at hds
    match ds, hds with
    | [d0, d1], _ => rfl
  · intro W base args ds p hval hA
    have hA' : DataW.TrodAll enc Try.prog W 0 (fun _ => true) true [30, 37] args.toList ds p := by
      have := hA
      rw [show Try.f9.params = #[30, 37] from Try.params9] at this
      exact this
    refine VL.law_calls (X := VL.X) (fun _ _ => Try.call9 _ _) (ts := [30, 37]) rfl (f := 5) (by kernel_rfl) VL.law9 (fun j t v h1 h2 => hval j t v ?_ h2) hA'
    rw [show Try.f9.params = #[30, 37] from Try.params9]
    simpa using h1
theorem finishDeeds_holds : Rows.FnExactFinishDeedsSaid :=
  OpenClaim.holds_of_wide 9 Try.f9 rfl rfl rfl rfl rfl rfl rfl ⟨rfl, rfl, rfl, rfl, rfl⟩ rfl rfl rfl rfl rfl (by kernel_rfl) Try.func9 (by kernel_rfl)
    (of_decide_eq_true (by kernel_rfl)) (by unfold Func.isWrapper; rw [if_neg (of_decide_eq_false (by kernel_rfl))]; exact ⟨rfl, rfl⟩)
    (fun os started H enc _ => lifted9 os started H enc)
#print axioms finishDeeds_holds
end Go.Proofs.Ytbejolinihbokaa
