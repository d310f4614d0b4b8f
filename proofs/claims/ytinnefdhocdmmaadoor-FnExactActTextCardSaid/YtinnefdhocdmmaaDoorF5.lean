/- The law FnExactActText answers true whatever its argument, and turns nothing that was there, where the tables hold what the program lays there: tied to the program by its text. No other condition. -/
import Derived.Test.YtinnefdhocdmmaaDoorM4
import Derived.Test.YtinnefdhocdmmaaDoorM5
import Derived.Test.YtinnefdhocdmmaaDoorTie
import Derived.Test.YtinnefdhocdmmaaDoorCards
import Derived.Lay
set_option maxRecDepth 20000
namespace Go.VL
theorem sg_of {x : Nat} (hw : (Lit.float .f32 x).wf = true) : Sg (fOf .f32 x) := by
  refine ⟨okF_fOf x, fun b h => ?_⟩
  have hlt : x < 2 ^ 32 := by simpa [Lit.wf] using hw
  unfold fOf at h
  split at h
  · cases h
  · simp only [Option.some.injEq] at h
    subst h
    exact hlt
theorem cty_act {cs : List C} (h : Cty X.lay 34 cs) : ∃ (k a b c : Int) (x : Option Nat), cs = act k a b c x ∧ Sg x := by
  obtain ⟨h1, h2⟩ := cty_struct lay34 h
  match cs, h1 with
  | [c0, c1, c2, c3, c4], _ =>
    obtain ⟨a, e0, -⟩ := cty_int lay2 (h2 (2, 0) (by simp))
    obtain ⟨b, e1, -⟩ := cty_int lay2 (h2 (2, 1) (by simp))
    obtain ⟨c, e2, -⟩ := cty_int lay2 (h2 (2, 2) (by simp))
    obtain ⟨d, e3, -⟩ := cty_int lay2 (h2 (2, 3) (by simp))
    obtain ⟨e, e4, w4⟩ := cty_float lay32 (h2 (32, 4) (by simp))
    have q0 : [c0] = [.v (.int .i64 a)] := e0
    have q1 : [c1] = [.v (.int .i64 b)] := e1
    have q2 : [c2] = [.v (.int .i64 c)] := e2
    have q3 : [c3] = [.v (.int .i64 d)] := e3
    have q4 : [c4] = [.f .f32 (fOf .f32 e)] := e4
    simp only [List.cons.injEq, and_true] at q0 q1 q2 q3 q4
    subst q0 q1 q2 q3 q4
    exact ⟨a, b, c, d, _, rfl, sg_of w4⟩
theorem law5 (xs : List V) (hl : xs.length = [34].length) (h : ∀ (j : Nat) (t : TypeId) (x : V), [34][j]? = some t → xs[j]? = some x → VTy X.lay t x) : PureC X 5 xs (cB true) := by
  match xs, hl with
  | [v], _ =>
    have h0 := h 0 34 v rfl rfl
    unfold VTy at h0
    rw [lay34] at h0
    simp only [LK.agg, if_true] at h0
    obtain ⟨cs, rfl, hc⟩ := h0
    obtain ⟨k, a, b, c, x, rfl, g⟩ := cty_act hc
    exact cLaw5 k a b c x g
end Go.VL
namespace Go.Proofs.YtinnefdhocdmmaaDoor
open Go.RowKit Go.WideShapes Go.ChangeShapes Go.ChangeAt
set_option maxRecDepth 100000 in
theorem lifted5 (os : Os) (started : os.Started) (H : Type) (enc : TypeId × Value → H) :
    ReturnsInHanded {} Tryd.checked os 5 .any (fun w args => (Rows.fnExactActTextSpec.pre enc Tryd.prog Tryd.f5 Rows.fnExactActTextRow.domain false w args ∧ laidMetH Tryd.prog Rows.fnExactActTextRow.laid w) ∧ sizedMet enc Tryd.prog Tryd.f5 (OpenSpec.ofChange Rows.fnExactActTextSpec) false w args)
      (Rows.fnExactActTextSpec.post enc Tryd.prog Tryd.f5 false true false false) := by
  refine B0.liftL (C := Tryd.checked) (tb := 4) (by kernel_rfl) started (by kernel_rfl) Tryd.func5
    (ChangeSpec.witness_shaped (enc := enc) (C := Tryd.checked) (os := os) (X := fun w _ => laidMetH Tryd.prog Rows.fnExactActTextRow.laid w) false (World.laidAll Tryd.prog os Rows.fnExactActTextRow.laid) #[.agg #[.int .i64 0, .int .i64 0, .int .i64 0, .int .i64 0, .float .f32 0]] 8 (World.laidAll_os _ _ _) (World.shaped_of_ZipB (by kernel_rfl) (by kernel_rfl)) (by kernel_rfl) (by kernel_rfl) (by kernel_rfl)
      (by rw [MakeChecks.laidMetH_plain _ _ _ (by kernel_rfl)]; exact laidMet_laidAll _ (by kernel_rfl) (by kernel_rfl)))
    (by kernel_rfl) (by kernel_rfl) (by kernel_rfl) (by kernel_rfl) Tryd.underlying4 (by kernel_rfl) (fun ds gs hds hgs => ?_) ?_
  · rw [show Tryd.f5.params = #[34] from Tryd.params5] at hds
    match ds, hds, gs, hgs with
    | [d0], _, [g0], _ => rfl
  · intro W base args ds p hL hval hA
    have hA' : DataW.TrodAll enc Tryd.prog W 0 (fun _ => true) true [34] args.toList ds p := by
      have := hA
      rw [show Tryd.f5.params = #[34] from Tryd.params5] at this
      exact this
    obtain ⟨ps, hLV, -, -⟩ := hL
    refine VL.law_calls_g (X := VL.X) (fun _ _ => Tryd.call5 _ _) (ts := [34]) (f := 5) (by kernel_rfl) VL.law5 ?_ (fun j t v h1 h2 => hval j t v ?_ h2) hA'
    · intro q hq
      have hq' : q = (1, VL.formL.flatMap fun f => [.string (VL.tx f.1), .int .i64 f.2.1, .bool f.2.2]) ∨ q = (3, Lib.pow10Tab.map (Value.int .u64)) := by
        have : q ∈ VL.GL := hq
        simpa [VL.GL] using this
      rcases hq' with rfl | rfl
      · exact VL.laid_glob (X := VL.X) (f := 4) hLV (List.Mem.tail _ (List.Mem.tail _ (List.Mem.tail _ (List.Mem.head _)))) (by kernel_rfl) (t := 65) (by kernel_rfl) (by kernel_rfl) (by kernel_rfl) rfl
      · exact VL.laid_glob (X := VL.X) (f := 4) hLV (List.Mem.tail _ (List.Mem.tail _ (List.Mem.head _))) (by kernel_rfl) (t := 157) (by kernel_rfl) (by kernel_rfl) (by kernel_rfl) rfl
    · rw [show Tryd.f5.params = #[34] from Tryd.params5]
      simpa using h1
theorem actText_holds_row : Rows.FnExactActTextSaid :=
  OpenClaim.holds_of_wide 5 Tryd.f5 rfl rfl rfl rfl rfl rfl rfl ⟨rfl, rfl, rfl, rfl, rfl⟩ rfl rfl rfl rfl rfl (by kernel_rfl) Tryd.func5 (by kernel_rfl)
    (of_decide_eq_true (by kernel_rfl)) (by unfold Func.isWrapper; first | (rw [if_pos (by decide +kernel)]; kernel_rfl) | (rw [if_neg (by decide +kernel)]; exact ⟨rfl, rfl⟩))
    (fun os started H enc _ => lifted5 os started H enc)
theorem actText_holds : Rows.FnExactActTextCardSaid :=
  Claim7.holds_tied_plain_at .later [] [.data, .data, .data, .widerDeep] true (true, "53617018e1551abeb48feb28f9595cdcb51d5694ad41ef72b8f78bb52819fe03") true
    actText_holds_row (fun _ h => by cases h) (by kernel_rfl) (fun _ h => by cases h) fnExactActText_row_tie rfl ⟨rfl, rfl⟩ (by kernel_rfl) rfl
    (fun f fn hf hfn => by
      obtain rfl : f = 5 := Option.some.inj ((show Tryd.prog.funcNamed "loop.example/g01227/laws.FnExactActText" = some 5 by kernel_rfl).symm.trans hf) |>.symm
      obtain rfl : fn = Tryd.f5 := (Option.some.inj (Tryd.func5.symm.trans hfn)).symm
      exact ⟨by kernel_rfl, fun j t ht => by
        rw [Tryd.params5] at ht
        have hm : t ∈ [34] := by simpa using Array.mem_of_getElem? ht
        have hall : ([34].all fun u => !Tryd.prog.wantsStandIn u) = true := by kernel_rfl
        exact (show Tryd.prog.wantsStandIn t = false by simpa using List.all_eq_true.1 hall t hm)⟩)
    (by kernel_rfl)
#print axioms actText_holds
end Go.Proofs.YtinnefdhocdmmaaDoor
