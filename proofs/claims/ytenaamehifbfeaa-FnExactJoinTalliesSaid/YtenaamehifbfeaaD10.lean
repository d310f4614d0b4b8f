/- The law FnExactJoinTallies answers true whatever its arguments, and turns nothing that was there. No condition. -/
import Derived.Test.YtenaamehifbfeaaC14
import Derived.Test.YtenaamehifbfeaaB0
set_option maxRecDepth 20000
namespace Go.VL
theorem flat_of2 {α : Type} {enc : α → List C} {p : α → Prop} {xs : List (List C)} (h : ∀ x ∈ xs, ∃ a, x = enc a ∧ p a) : ∃ zs : List α, zs.length = xs.length ∧ xs.flatten = flat enc zs ∧ ∀ a ∈ zs, p a := by
  induction xs with
  | nil => exact ⟨[], rfl, rfl, fun a h => by cases h⟩
  | cons x xs ih =>
    obtain ⟨a, rfl, ha⟩ := h x (by simp)
    obtain ⟨zs, h1, h2, h3⟩ := ih (fun y hy => h y (by simp [hy]))
    exact ⟨a :: zs, by simp [h1], by rw [List.flatten_cons, h2, flat_cons], fun b hb => by
      rcases List.mem_cons.1 hb with rfl | hb
      · exact ha
      · exact h3 b hb⟩
theorem sg_of {x : Nat} (hw : (Lit.float .f32 x).wf = true) : Sg (fOf .f32 x) := by
  refine ⟨okF_fOf x, fun b h => ?_⟩
  have hlt : x < 2 ^ 32 := by simpa [Lit.wf] using hw
  unfold fOf at h
  split at h
  · cases h
  · simp only [Option.some.injEq] at h
    subst h
    exact hlt
theorem cty_tal {cs : List C} (h : Cty X.lay 88 cs) : ∃ t : Tal, cs = te t ∧ (-32768 ≤ t.2.1 ∧ t.2.1 ≤ 32767) ∧ -32768 ≤ t.2.2 ∧ t.2.2 ≤ 32767 := by
  obtain ⟨h1, h2⟩ := cty_struct lay88 h
  match cs, h1 with
  | [c0, c1, c2], _ =>
    obtain ⟨a, e0, -⟩ := cty_int lay2 (h2 (2, 0) (by simp))
    obtain ⟨b, e1, b1⟩ := cty_int lay23 (h2 (23, 1) (by simp))
    obtain ⟨c, e2, b2⟩ := cty_int lay23 (h2 (23, 2) (by simp))
    have q0 : [c0] = [.v (.int .i64 a)] := e0
    have q1 : [c1] = [.v (.int .i16 b)] := e1
    have q2 : [c2] = [.v (.int .i16 c)] := e2
    simp only [List.cons.injEq, and_true] at q0 q1 q2
    subst q0 q1 q2
    exact ⟨(a, b, c), rfl, b1, b2⟩
/-- A slot that holds a list of tallies. -/
theorem vty_tals {v : V} (h : VTy X.lay 35 v) : ∃ xs : List Tal, v = .c (tals false xs) ∧ xs.length ≤ maxLen ∧ T16 xs := by
  unfold VTy at h
  rw [lay35] at h
  simp only [LK.agg, Bool.false_eq_true, if_false] at h
  obtain ⟨c, rfl, hc⟩ := h
  obtain ⟨xs, e, hx, hn⟩ := cty_slice lay35 hc
  simp only [List.cons.injEq, and_true] at e
  subst e
  obtain ⟨zs, k1, k2, k3⟩ := flat_of2 (enc := te) (xs := xs) fun x hm => cty_tal (hx x hm)
  exact ⟨zs, by rw [k2, ← k1]; rfl, by omega, k3⟩
theorem vty_f32 {v : V} (h : VTy X.lay 22 v) : ∃ x, v = .c (.f .f32 x) ∧ Sg x := by
  unfold VTy at h
  rw [lay22] at h
  simp only [LK.agg, Bool.false_eq_true, if_false] at h
  obtain ⟨c, rfl, hc⟩ := h
  obtain ⟨x, e, hw⟩ := cty_float lay22 hc
  simp only [List.cons.injEq, and_true] at e
  subst e
  exact ⟨_, rfl, sg_of hw⟩
theorem vty_i64 {v : V} (h : VTy X.lay 2 v) : ∃ n, v = cI n := by
  unfold VTy at h
  rw [lay2] at h
  simp only [LK.agg, Bool.false_eq_true, if_false] at h
  obtain ⟨c, rfl, hc⟩ := h
  obtain ⟨n, e, -⟩ := cty_int lay2 hc
  simp only [List.cons.injEq, and_true] at e
  subst e
  exact ⟨n, rfl⟩
theorem law10 (xs : List V) (hl : xs.length = [35, 35].length) (h : ∀ (j : Nat) (t : TypeId) (x : V), [35, 35][j]? = some t → xs[j]? = some x → VTy X.lay t x) : PureC X 10 xs (cB true) := by
  match xs, hl with
  | [a, b], _ =>
    obtain ⟨zs, rfl, a1, a2⟩ := vty_tals (h 0 35 a rfl rfl)
    obtain ⟨ws, rfl, b1, b2⟩ := vty_tals (h 1 35 b rfl rfl)
    exact c10 zs ws a1 b1 a2 b2
end Go.VL
namespace Go.Proofs.Ytenaamehifbfeaa
open Go.RowKit Go.WideShapes Go.ChangeShapes Go.ChangeAt
theorem lifted10 (os : Os) (started : os.Started) (H : Type) (enc : TypeId × Value → H) :
    ReturnsInHanded {} Try.checked os 10 .any (Rows.fnExactJoinTalliesSpec.pre6 enc Try.prog Try.f10 Rows.fnExactJoinTalliesRow.domain false) (Rows.fnExactJoinTalliesSpec.post enc Try.prog Try.f10 false true false false) := by
  refine B0.lift (C := Try.checked) (tb := 4) (by kernel_rfl) started (by kernel_rfl) Try.func10
    (ChangeSpec.witness6 (enc := enc) (C := Try.checked) false ⟨#[], #[.slice none 0 0, .slice none 0 0], []⟩ 8 (by kernel_rfl) (by kernel_rfl) (by kernel_rfl) (by kernel_rfl))
    (by kernel_rfl) (by kernel_rfl) rfl (by kernel_rfl) Try.underlying4 (fun ds hds => ?_) ?_
  · rw [show Try.f10.params = #[35, 35] from Try.params10] at hds
    match ds, hds with
    | [d0, d1], _ => rfl
  · intro W base args ds p hval hA
    have hA' : DataW.TrodAll enc Try.prog W 0 (fun _ => true) true [35, 35] args.toList ds p := by
      have := hA
      rw [show Try.f10.params = #[35, 35] from Try.params10] at this
      exact this
    refine VL.law_calls (X := VL.X) (fun _ _ => Try.call10 _ _) (ts := [35, 35]) rfl (f := 5) (by kernel_rfl) VL.law10 (fun j t v h1 h2 => hval j t v ?_ h2) hA'
    rw [show Try.f10.params = #[35, 35] from Try.params10]
    simpa using h1
theorem joinTallies_holds : Rows.FnExactJoinTalliesSaid :=
  OpenClaim.holds_of_wide 10 Try.f10 rfl rfl rfl rfl rfl rfl rfl ⟨rfl, rfl, rfl, rfl, rfl⟩ rfl rfl rfl rfl rfl (by kernel_rfl) Try.func10 (by kernel_rfl)
    (of_decide_eq_true (by kernel_rfl)) (by unfold Func.isWrapper; rw [if_neg (of_decide_eq_false (by kernel_rfl))]; exact ⟨rfl, rfl⟩)
    (fun os started H enc _ => lifted10 os started H enc)
#print axioms joinTallies_holds
end Go.Proofs.Ytenaamehifbfeaa
