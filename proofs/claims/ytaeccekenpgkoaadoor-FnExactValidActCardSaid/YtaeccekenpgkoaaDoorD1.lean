/- The law FnExactValidAct answers true whatever its argument, and turns nothing that was there, where the table of forms holds what the program lays there: tied to the program by its text. No other condition. -/
import Derived.Test.YtaeccekenpgkoaaDoorC1
import Derived.Test.YtaeccekenpgkoaaDoorB1
import Derived.Test.YtaeccekenpgkoaaDoorTie
import Derived.Test.YtaeccekenpgkoaaDoorCards
set_option maxRecDepth 20000
namespace Go.VL
theorem sg_of {x : Nat} (hw : (Lit.float .f32 x).wf = true) : Sg (fOf .f32 x) := by
  refine ⟨okF_fOf x, fun b h => ?_⟩
  have hlt : x < 2 ^ 32 := by simpa [Lit.wf] using hw
  unfold fOf at h
  split at h
  · cases h
  · simp only [Option.some.injEq] at h
    subst h
    exact hlt
theorem cty_act {cs : List C} (h : Cty X.lay 24 cs) : ∃ (k a b c : Int) (x : Option Nat), cs = act k a b c x ∧ Sg x := by
  obtain ⟨h1, h2⟩ := cty_struct lay24 h
  match cs, h1 with
  | [c0, c1, c2, c3, c4], _ =>
    obtain ⟨a, e0, -⟩ := cty_int lay2 (h2 (2, 0) (by simp))
    obtain ⟨b, e1, -⟩ := cty_int lay2 (h2 (2, 1) (by simp))
    obtain ⟨c, e2, -⟩ := cty_int lay2 (h2 (2, 2) (by simp))
    obtain ⟨d, e3, -⟩ := cty_int lay2 (h2 (2, 3) (by simp))
    obtain ⟨e, e4, w4⟩ := cty_float lay22 (h2 (22, 4) (by simp))
    have q0 : [c0] = [.v (.int .i64 a)] := e0
    have q1 : [c1] = [.v (.int .i64 b)] := e1
    have q2 : [c2] = [.v (.int .i64 c)] := e2
    have q3 : [c3] = [.v (.int .i64 d)] := e3
    have q4 : [c4] = [.f .f32 (fOf .f32 e)] := e4
    simp only [List.cons.injEq, and_true] at q0 q1 q2 q3 q4
    subst q0 q1 q2 q3 q4
    exact ⟨a, b, c, d, _, rfl, sg_of w4⟩
theorem law3 (xs : List V) (hl : xs.length = [24].length) (h : ∀ (j : Nat) (t : TypeId) (x : V), [24][j]? = some t → xs[j]? = some x → VTy X.lay t x) : PureC X 3 xs (cB true) := by
  match xs, hl with
  | [v], _ =>
    have h0 := h 0 24 v rfl rfl
    unfold VTy at h0
    rw [lay24] at h0
    simp only [LK.agg, if_true] at h0
    obtain ⟨cs, rfl, hc⟩ := h0
    obtain ⟨k, a, b, c, x, rfl, g⟩ := cty_act hc
    exact c3 k a b c x g
end Go.VL
namespace Go.Proofs.YtaeccekenpgkoaaDoor
open Go.RowKit Go.WideShapes Go.ChangeShapes Go.ChangeAt
theorem door_met3 (os : Os) (args : Array Value) : laidMetH Tryd.prog Rows.fnExactValidActRow.laid ((World.doorLaid Tryd.prog 40 os).forCall (fun _ _ => 0) ⟨#[], args, []⟩).memory :=
  laidMetH_of_parts3 (fuel := 8) (laidMet_of_run' 8 (by kernel_rfl) (by kernel_rfl)) (by kernel_rfl) (by kernel_rfl)
set_option maxRecDepth 100000 in
theorem lifted3 (os : Os) (started : os.Started) (H : Type) (enc : TypeId × Value → H) :
    ReturnsInHanded {} Tryd.checked os 3 .any (fun w args => (Rows.fnExactValidActSpec.pre enc Tryd.prog Tryd.f3 Rows.fnExactValidActRow.domain false w args ∧ laidMetH Tryd.prog Rows.fnExactValidActRow.laid w) ∧ sizedMet enc Tryd.prog Tryd.f3 (OpenSpec.ofChange Rows.fnExactValidActSpec) false w args)
      (Rows.fnExactValidActSpec.post enc Tryd.prog Tryd.f3 false true false false) := by
  refine B0.liftL (C := Tryd.checked) (tb := 4) (by kernel_rfl) started (by kernel_rfl) Tryd.func3
    (ChangeSpec.witness_shaped (enc := enc) (C := Tryd.checked) (os := os) (X := fun w _ => laidMetH Tryd.prog Rows.fnExactValidActRow.laid w) false (World.doorLaid Tryd.prog 40 os) #[.agg #[.int .i64 0, .int .i64 0, .int .i64 0, .int .i64 0, .float .f32 0]] 8 rfl (World.shaped_of_RefB (by kernel_rfl) (by kernel_rfl)) (by kernel_rfl) (by kernel_rfl) (by kernel_rfl) (door_met3 os _))
    (by kernel_rfl) (by kernel_rfl) (by kernel_rfl) (by kernel_rfl) Tryd.underlying4 (by kernel_rfl) (fun ds gs hds hgs => ?_) ?_
  · rw [show Tryd.f3.params = #[24] from Tryd.params3] at hds
    match ds, hds, gs, hgs with
    | [d0], _, [g0], _ => rfl
  · intro W base args ds p hL hval hA
    have hA' : DataW.TrodAll enc Tryd.prog W 0 (fun _ => true) true [24] args.toList ds p := by
      have := hA
      rw [show Tryd.f3.params = #[24] from Tryd.params3] at this
      exact this
    obtain ⟨ps, hLV, -, -⟩ := hL
    refine VL.law_calls_g (X := VL.X) (fun _ _ => Tryd.call3 _ _) (ts := [24]) (f := 5) (by kernel_rfl) VL.law3 ?_ (fun j t v h1 h2 => hval j t v ?_ h2) hA'
    · intro q hq
      have hq0 : q = (0, VL.formL.flatMap fun f => [.string f.1, .int .i64 f.2.1, .bool f.2.2]) := by
        have : q ∈ VL.GL := hq
        simpa [VL.GL] using this
      subst hq0
      exact ⟨by decide, VL.laid_cells (X := VL.X) (f := 4) hLV (List.mem_singleton.2 rfl) (by kernel_rfl) (t := 43) (by kernel_rfl) (by kernel_rfl)⟩
    · rw [show Tryd.f3.params = #[24] from Tryd.params3]
      simpa using h1
theorem validAct_holds_row : Rows.FnExactValidActSaid :=
  OpenClaim.holds_of_wide 3 Tryd.f3 rfl rfl rfl rfl rfl rfl rfl ⟨rfl, rfl, rfl, rfl, rfl⟩ rfl rfl rfl rfl rfl (by kernel_rfl) Tryd.func3 (by kernel_rfl)
    (of_decide_eq_true (by kernel_rfl)) (by unfold Func.isWrapper; first | (rw [if_pos (by decide +kernel)]; kernel_rfl) | (rw [if_neg (by decide +kernel)]; exact ⟨rfl, rfl⟩))
    (fun os started H enc _ => lifted3 os started H enc)
theorem validAct_holds : Rows.FnExactValidActCardSaid :=
  Claim7.holds_tied_plain_at .later [] [.widerDeep] true (true, "3f6158c9b6bde9ae3ea8e1877d289cb7ff85e1ab5ead7ce32cb7288fb89016db") false
    validAct_holds_row (fun _ h => by cases h) (by kernel_rfl) (fun _ h => by cases h) fnExactValidAct_row_tie rfl ⟨rfl, rfl⟩ (by kernel_rfl) rfl
    (fun f fn hf hfn => by
      obtain rfl : f = 3 := Option.some.inj ((show Tryd.prog.funcNamed "loop.example/g01227/laws.FnExactValidAct" = some 3 by kernel_rfl).symm.trans hf) |>.symm
      obtain rfl : fn = Tryd.f3 := (Option.some.inj (Tryd.func3.symm.trans hfn)).symm
      exact ⟨by kernel_rfl, fun j t ht => by
        rw [Tryd.params3] at ht
        have hm : t ∈ [24] := by simpa using Array.mem_of_getElem? ht
        have hall : ([24].all fun u => !Tryd.prog.wantsStandIn u) = true := by kernel_rfl
        exact (show Tryd.prog.wantsStandIn t = false by simpa using List.all_eq_true.1 hall t hm)⟩)
    (by kernel_rfl)
#print axioms validAct_holds
end Go.Proofs.YtaeccekenpgkoaaDoor
