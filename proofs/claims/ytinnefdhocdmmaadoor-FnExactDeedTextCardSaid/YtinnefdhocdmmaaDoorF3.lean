/- The law FnExactDeedText answers true whatever its argument, and turns nothing that was there, where the tables hold what the program lays there: tied to the program by its text. No other condition. -/
import Derived.Test.YtinnefdhocdmmaaDoorM3
import Derived.Test.YtinnefdhocdmmaaDoorTie
import Derived.Test.YtinnefdhocdmmaaDoorCards
import Derived.Lay
set_option maxRecDepth 20000
namespace Go.VL
theorem cty_deed {cs : List C} (h : Cty X.lay 23 cs) : ∃ (k a b : Int), cs = dc k a b := by
  obtain ⟨h1, h2⟩ := cty_struct lay23 h
  match cs, h1 with
  | [c0, c1, c2], _ =>
    obtain ⟨a, e0, -⟩ := cty_int lay2 (h2 (2, 0) (by simp))
    obtain ⟨b, e1, -⟩ := cty_int lay2 (h2 (2, 1) (by simp))
    obtain ⟨c, e2, -⟩ := cty_int lay2 (h2 (2, 2) (by simp))
    have q0 : [c0] = [.v (.int .i64 a)] := e0
    have q1 : [c1] = [.v (.int .i64 b)] := e1
    have q2 : [c2] = [.v (.int .i64 c)] := e2
    simp only [List.cons.injEq, and_true] at q0 q1 q2
    subst q0 q1 q2
    exact ⟨a, b, c, rfl⟩
theorem law3 (xs : List V) (hl : xs.length = [23].length) (h : ∀ (j : Nat) (t : TypeId) (x : V), [23][j]? = some t → xs[j]? = some x → VTy X.lay t x) : PureC X 3 xs (cB true) := by
  match xs, hl with
  | [v], _ =>
    have h0 := h 0 23 v rfl rfl
    unfold VTy at h0
    rw [lay23] at h0
    simp only [LK.agg, if_true] at h0
    obtain ⟨cs, rfl, hc⟩ := h0
    obtain ⟨k, a, b, rfl⟩ := cty_deed hc
    exact cLaw k a b
end Go.VL
namespace Go.Proofs.YtinnefdhocdmmaaDoor
open Go.RowKit Go.WideShapes Go.ChangeShapes Go.ChangeAt
set_option maxRecDepth 100000 in
theorem lifted3 (os : Os) (started : os.Started) (H : Type) (enc : TypeId × Value → H) :
    ReturnsInHanded {} Tryd.checked os 3 .any (fun w args => (Rows.fnExactDeedTextSpec.pre enc Tryd.prog Tryd.f3 Rows.fnExactDeedTextRow.domain false w args ∧ laidMetH Tryd.prog Rows.fnExactDeedTextRow.laid w) ∧ sizedMet enc Tryd.prog Tryd.f3 (OpenSpec.ofChange Rows.fnExactDeedTextSpec) false w args)
      (Rows.fnExactDeedTextSpec.post enc Tryd.prog Tryd.f3 false true false false) := by
  refine B0.liftL (C := Tryd.checked) (tb := 4) (by kernel_rfl) started (by kernel_rfl) Tryd.func3
    (ChangeSpec.witness_shaped (enc := enc) (C := Tryd.checked) (os := os) (X := fun w _ => laidMetH Tryd.prog Rows.fnExactDeedTextRow.laid w) false (World.laidAll Tryd.prog os Rows.fnExactDeedTextRow.laid) #[.agg #[.int .i64 0, .int .i64 0, .int .i64 0]] 8 (World.laidAll_os _ _ _) (World.shaped_of_ZipB (by kernel_rfl) (by kernel_rfl)) (by kernel_rfl) (by kernel_rfl) (by kernel_rfl)
      (by rw [MakeChecks.laidMetH_plain _ _ _ (by kernel_rfl)]; exact laidMet_laidAll _ (by kernel_rfl) (by kernel_rfl)))
    (by kernel_rfl) (by kernel_rfl) (by kernel_rfl) (by kernel_rfl) Tryd.underlying4 (by kernel_rfl) (fun ds gs hds hgs => ?_) ?_
  · rw [show Tryd.f3.params = #[23] from Tryd.params3] at hds
    match ds, hds, gs, hgs with
    | [d0], _, [g0], _ => rfl
  · intro W base args ds p hL hval hA
    have hA' : DataW.TrodAll enc Tryd.prog W 0 (fun _ => true) true [23] args.toList ds p := by
      have := hA
      rw [show Tryd.f3.params = #[23] from Tryd.params3] at this
      exact this
    obtain ⟨ps, hLV, -, -⟩ := hL
    refine VL.law_calls_g (X := VL.X) (fun _ _ => Tryd.call3 _ _) (ts := [23]) (f := 5) (by kernel_rfl) VL.law3 ?_ (fun j t v h1 h2 => hval j t v ?_ h2) hA'
    · intro q hq
      have hq' : q = (0, VL.wordL.map fun w => .string (VL.tx w)) ∨ q = (3, Lib.pow10Tab.map (Value.int .u64)) := by
        have : q ∈ VL.GL := hq
        simpa [VL.GL] using this
      rcases hq' with rfl | rfl
      · exact VL.laid_glob (X := VL.X) (f := 4) hLV (List.Mem.tail _ (List.Mem.tail _ (List.Mem.tail _ (List.Mem.head _)))) (by kernel_rfl) (t := 50) (by kernel_rfl) (by kernel_rfl) (by kernel_rfl) rfl
      · exact VL.laid_glob (X := VL.X) (f := 4) hLV (List.Mem.tail _ (List.Mem.tail _ (List.Mem.head _))) (by kernel_rfl) (t := 157) (by kernel_rfl) (by kernel_rfl) (by kernel_rfl) rfl
    · rw [show Tryd.f3.params = #[23] from Tryd.params3]
      simpa using h1
theorem deedText_holds_row : Rows.FnExactDeedTextSaid :=
  OpenClaim.holds_of_wide 3 Tryd.f3 rfl rfl rfl rfl rfl rfl rfl ⟨rfl, rfl, rfl, rfl, rfl⟩ rfl rfl rfl rfl rfl (by kernel_rfl) Tryd.func3 (by kernel_rfl)
    (of_decide_eq_true (by kernel_rfl)) (by unfold Func.isWrapper; first | (rw [if_pos (by decide +kernel)]; kernel_rfl) | (rw [if_neg (by decide +kernel)]; exact ⟨rfl, rfl⟩))
    (fun os started H enc _ => lifted3 os started H enc)
theorem deedText_holds : Rows.FnExactDeedTextCardSaid :=
  Claim7.holds_tied_plain_at .later [] [.data, .data, .data, .widerDeep] true (true, "53617018e1551abeb48feb28f9595cdcb51d5694ad41ef72b8f78bb52819fe03") true
    deedText_holds_row (fun _ h => by cases h) (by kernel_rfl) (fun _ h => by cases h) fnExactDeedText_row_tie rfl ⟨rfl, rfl⟩ (by kernel_rfl) rfl
    (fun f fn hf hfn => by
      obtain rfl : f = 3 := Option.some.inj ((show Tryd.prog.funcNamed "loop.example/g01227/laws.FnExactDeedText" = some 3 by kernel_rfl).symm.trans hf) |>.symm
      obtain rfl : fn = Tryd.f3 := (Option.some.inj (Tryd.func3.symm.trans hfn)).symm
      exact ⟨by kernel_rfl, fun j t ht => by
        rw [Tryd.params3] at ht
        have hm : t ∈ [23] := by simpa using Array.mem_of_getElem? ht
        have hall : ([23].all fun u => !Tryd.prog.wantsStandIn u) = true := by kernel_rfl
        exact (show Tryd.prog.wantsStandIn t = false by simpa using List.all_eq_true.1 hall t hm)⟩)
    (by kernel_rfl)
#print axioms deedText_holds
end Go.Proofs.YtinnefdhocdmmaaDoor
