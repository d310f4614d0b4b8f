/- The law FnExactCompileActs answers true whatever its argument, and turns nothing that was there, where the tables hold what the program lays there: tied to the program by its text. No other condition. -/
import Derived.Test.YtciahnkkncahjaaDoorM4
import Derived.Test.YtciahnkkncahjaaDoorM2
import Derived.Test.YtciahnkkncahjaaDoorTie
import Derived.Test.YtciahnkkncahjaaDoorCards
import Derived.Lay
set_option maxRecDepth 20000
namespace Go.VL
theorem law3 [Inhabited Env] (xs : List V) (hl : xs.length = [9].length) (h : ∀ (j : Nat) (t : TypeId) (x : V), [9][j]? = some t → xs[j]? = some x → VTy X.lay t x) : PureC X 3 xs (cB true) := by
  match xs, hl with
  | [v], _ =>
    have h0 := h 0 9 v rfl rfl
    unfold VTy at h0
    rw [lay9] at h0
    simp only [LK.agg] at h0
    obtain ⟨c, rfl, hc⟩ := h0
    obtain ⟨s, e, -⟩ := cty_string lay9 hc
    obtain rfl : c = .v (.string s) := by simpa using e
    rw [← tx_self s]
    exact cLaw3 _
end Go.VL
namespace Go.Proofs.YtciahnkkncahjaaDoor
open Go.RowKit Go.WideShapes Go.ChangeShapes Go.ChangeAt
set_option maxRecDepth 100000 in
theorem lifted3 (os : Os) (started : os.Started) (H : Type) (enc : TypeId × Value → H) :
    ReturnsInHanded {} Tryd.checked os 3 .any (fun w args => (Rows.fnExactCompileActsSpec.pre enc Tryd.prog Tryd.f3 Rows.fnExactCompileActsRow.domain false w args ∧ laidMetH Tryd.prog Rows.fnExactCompileActsRow.laid w) ∧ sizedMet enc Tryd.prog Tryd.f3 (OpenSpec.ofChange Rows.fnExactCompileActsSpec) false w args)
      (Rows.fnExactCompileActsSpec.post enc Tryd.prog Tryd.f3 false true false false) := by
  refine B0.liftL (C := Tryd.checked) (tb := 4) (by kernel_rfl) started (by kernel_rfl) Tryd.func3
    (ChangeSpec.witness_shaped (enc := enc) (C := Tryd.checked) (os := os) (X := fun w _ => laidMetH Tryd.prog Rows.fnExactCompileActsRow.laid w) false (World.laidAll Tryd.prog os Rows.fnExactCompileActsRow.laid) #[.string ⟨#[]⟩] 8 (World.laidAll_os _ _ _) (World.shaped_of_ZipB (by kernel_rfl) (by kernel_rfl)) (by kernel_rfl) (by kernel_rfl) (by kernel_rfl)
      (by rw [MakeChecks.laidMetH_plain _ _ _ (by kernel_rfl)]; exact laidMet_laidAll _ (by kernel_rfl) (by kernel_rfl)))
    (by kernel_rfl) (by kernel_rfl) (by kernel_rfl) (by kernel_rfl) Tryd.underlying4 (by kernel_rfl) (fun ds gs hds hgs => ?_) ?_
  · rw [show Tryd.f3.params = #[9] from Tryd.params3] at hds
    match ds, hds, gs, hgs with
    | [d0], _, [g0], _ => rfl
  · intro W base args ds p hL hval hA
    have hA' : DataW.TrodAll enc Tryd.prog W 0 (fun _ => true) true [9] args.toList ds p := by
      have := hA
      rw [show Tryd.f3.params = #[9] from Tryd.params3] at this
      exact this
    obtain ⟨ps, hLV, -, -⟩ := hL
    obtain ⟨v5, i5, g5⟩ := VL.laid_iface hLV (List.Mem.tail _ (List.Mem.tail _ (List.Mem.tail _ (List.Mem.tail _ (List.Mem.tail _ (List.Mem.head _)))))) (g := 4) (t := 88) (by kernel_rfl) (by kernel_rfl) Tryd.underlying88
    obtain ⟨v6, i6, g6⟩ := VL.laid_iface hLV (List.Mem.tail _ (List.Mem.tail _ (List.Mem.tail _ (List.Mem.tail _ (List.Mem.head _))))) (g := 5) (t := 88) (by kernel_rfl) (by kernel_rfl) Tryd.underlying88
    letI : Inhabited VL.Env := ⟨⟨(v5, v6), i5, i6⟩⟩
    refine VL.law_calls_g (X := VL.X) (fun _ _ => Tryd.call3 _ _) (ts := [9]) (f := 5) (by kernel_rfl) VL.law3 ?_ (fun j t v h1 h2 => hval j t v ?_ h2) hA'
    · intro q hq
      have hq' : q = (0, VL.formL.flatMap fun f => [.string (VL.tx f.1), .int .i64 f.2.1, .bool f.2.2]) ∨ q = (6, Lib.pow10Tab.map (Value.int .u64)) ∨ q = (4, [v5]) ∨ q = (5, [v6]) := by
        have : q ∈ VL.GL := hq
        have h2 : q = (0, VL.formL.flatMap fun f => [.string (VL.tx f.1), .int .i64 f.2.1, .bool f.2.2]) ∨ q = (6, Lib.pow10Tab.map (Value.int .u64)) ∨ q = (4, [VL.ev1]) ∨ q = (5, [VL.ev2]) := by simpa [VL.GL] using this
        exact h2
      rcases hq' with rfl | rfl | rfl | rfl
      · exact VL.laid_glob (X := VL.X) (f := 4) hLV (List.Mem.tail _ (List.Mem.tail _ (List.Mem.tail _ (List.Mem.tail _ (List.Mem.tail _ (List.Mem.tail _ (List.Mem.head _))))))) (by kernel_rfl) (t := 73) (by kernel_rfl) (by kernel_rfl) (by kernel_rfl) rfl
      · exact VL.laid_glob (X := VL.X) (f := 4) hLV (List.Mem.tail _ (List.Mem.tail _ (List.Mem.head _))) (by kernel_rfl) (t := 128) (by kernel_rfl) (by kernel_rfl) (by kernel_rfl) rfl
      · exact g5
      · exact g6
    · rw [show Tryd.f3.params = #[9] from Tryd.params3]
      simpa using h1
theorem compileActs_holds_row : Rows.FnExactCompileActsSaid :=
  OpenClaim.holds_of_wide 3 Tryd.f3 rfl rfl rfl rfl rfl rfl rfl ⟨rfl, rfl, rfl, rfl, rfl⟩ rfl rfl rfl rfl rfl (by kernel_rfl) Tryd.func3 (by kernel_rfl)
    (of_decide_eq_true (by kernel_rfl)) (by unfold Func.isWrapper; first | (rw [if_pos (by decide +kernel)]; kernel_rfl) | (rw [if_neg (by decide +kernel)]; exact ⟨rfl, rfl⟩))
    (fun os started H enc _ => lifted3 os started H enc)
theorem compileActs_holds : Rows.FnExactCompileActsCardSaid :=
  Claim7.holds_tied_plain_at .later [] [.data, .data, .data, .data, .sentinel, .sentinel, .widerDeep, .pinned] true (true, "ad54d79967fd137ac8f65a6877a4841fe18422965b6059602c88b913ee4c957f") true
    compileActs_holds_row (fun _ h => by cases h) (by kernel_rfl) (fun _ h => by cases h) fnExactCompileActs_row_tie rfl ⟨rfl, rfl⟩ (by kernel_rfl) rfl
    (fun f fn hf hfn => by
      obtain rfl : f = 3 := Option.some.inj ((show Tryd.prog.funcNamed "loop.example/g01227/laws.FnExactCompileActs" = some 3 by kernel_rfl).symm.trans hf) |>.symm
      obtain rfl : fn = Tryd.f3 := (Option.some.inj (Tryd.func3.symm.trans hfn)).symm
      exact ⟨by kernel_rfl, fun j t ht => by
        rw [Tryd.params3] at ht
        have hm : t ∈ [9] := by simpa using Array.mem_of_getElem? ht
        have hall : ([9].all fun u => !Tryd.prog.wantsStandIn u) = true := by kernel_rfl
        exact (show Tryd.prog.wantsStandIn t = false by simpa using List.all_eq_true.1 hall t hm)⟩)
    (by kernel_rfl)
#print axioms compileActs_holds
end Go.Proofs.YtciahnkkncahjaaDoor
