/- The law FnExactTownText answers true whatever its argument, and turns nothing that was there, where the tables hold what the program lays there: tied to the program by its text. No other condition. -/
import Derived.Test.YtcdcofpcfhojiaaGreatDoorM5
import Derived.Test.YtcdcofpcfhojiaaGreatDoorTie
import Derived.Test.YtcdcofpcfhojiaaGreatDoorCards
import Derived.Lay
set_option maxRecDepth 20000
namespace Go.VL
theorem law3 (xs : List V) (hl : xs.length = [28].length) (h : ∀ (j : Nat) (t : TypeId) (x : V), [28][j]? = some t → xs[j]? = some x → VTy X.lay t x) : PureC X 3 xs (cB true) := by
  match xs, hl with
  | [a], _ =>
    obtain ⟨t, rfl, hM, hF⟩ := vty_town (h 0 28 a rfl rfl)
    exact cLawText t hM hF
end Go.VL
namespace Go.Proofs.YtcdcofpcfhojiaaGreatDoor
open Go.RowKit Go.WideShapes Go.ChangeShapes Go.ChangeAt
set_option maxRecDepth 100000 in
theorem lifted3 (os : Os) (started : os.Started) (H : Type) (enc : TypeId × Value → H) :
    ReturnsInHanded {} Tryz.checked os 3 .any (fun w args => (Rows.fnExactTownTextSpec.pre enc Tryz.prog Tryz.f3 Rows.fnExactTownTextRow.domain false w args ∧ laidMetH Tryz.prog Rows.fnExactTownTextRow.laid w) ∧ sizedMet enc Tryz.prog Tryz.f3 (OpenSpec.ofChange Rows.fnExactTownTextSpec) false w args)
      (Rows.fnExactTownTextSpec.post enc Tryz.prog Tryz.f3 false true false false) := by
  refine B0.liftL (C := Tryz.checked) (tb := 4) (by kernel_rfl) started (by kernel_rfl) Tryz.func3
    (ChangeSpec.witness_shaped (enc := enc) (C := Tryz.checked) (os := os) (X := fun w _ => laidMetH Tryz.prog Rows.fnExactTownTextRow.laid w) false (World.laidAll Tryz.prog os Rows.fnExactTownTextRow.laid) #[.agg #[.slice none 0 0, .slice none 0 0, .slice none 0 0, .slice none 0 0, .int .i64 0, .float .f32 0, .float .f32 0]] 8 (World.laidAll_os _ _ _) (World.shaped_of_ZipB (by kernel_rfl) (by kernel_rfl)) (by kernel_rfl) (by kernel_rfl) (by kernel_rfl)
      (by rw [MakeChecks.laidMetH_plain _ _ _ (by kernel_rfl)]; exact laidMet_laidAll _ (by kernel_rfl) (by kernel_rfl)))
    (by kernel_rfl) (by kernel_rfl) (by kernel_rfl) (by kernel_rfl) Tryz.underlying4 (by kernel_rfl) (fun ds gs hds hgs => ?_) ?_
  · rw [show Tryz.f3.params = #[28] from Tryz.params3] at hds
    match ds, hds, gs, hgs with
    | [d0], _, [], _ => rfl
  · intro W base args ds p hL hval hA
    have hA' : DataW.TrodAll enc Tryz.prog W 0 (fun _ => true) true [28] args.toList ds p := by
      have := hA
      rw [show Tryz.f3.params = #[28] from Tryz.params3] at this
      exact this
    obtain ⟨ps, hLV, -, -⟩ := hL
    refine VL.law_calls_g (X := VL.X) (fun _ _ => Tryz.call3 _ _) (ts := [28]) (f := 12) (by kernel_rfl) VL.law3 ?_ (fun j t v h1 h2 => hval j t v ?_ h2) hA'
    · intro q hq
      have hq' : q = (1, Lib.pow10Tab.map (Value.int .u64)) ∨ q = (8, VL.deB.map (Value.int .u8)) := by
        have : q ∈ VL.GL := hq
        simpa [VL.GL] using this
      rcases hq' with rfl | rfl
      · exact VL.laid_glob (X := VL.X) (f := 4) hLV (List.Mem.tail _ (List.Mem.tail _ (List.Mem.head _))) (by kernel_rfl) (t := 266) (by kernel_rfl) (by kernel_rfl) (by kernel_rfl) rfl
      · exact VL.laid_glob (X := VL.X) (f := 4) hLV (List.Mem.tail _ (List.Mem.head _)) (by kernel_rfl) (t := 286) (by kernel_rfl) (by kernel_rfl) (by kernel_rfl) rfl
    · rw [show Tryz.f3.params = #[28] from Tryz.params3]
      simpa using h1
theorem townText_holds_row : Rows.FnExactTownTextSaid :=
  OpenClaim.holds_of_wide 3 Tryz.f3 rfl rfl rfl rfl rfl rfl rfl ⟨rfl, rfl, rfl, rfl, rfl⟩ rfl rfl rfl rfl rfl (by kernel_rfl) Tryz.func3 (by kernel_rfl)
    (of_decide_eq_true (by kernel_rfl)) (by unfold Func.isWrapper; first | (rw [if_pos (by decide +kernel)]; kernel_rfl) | (rw [if_neg (by decide +kernel)]; exact ⟨rfl, rfl⟩))
    (fun os started H enc _ => lifted3 os started H enc)
theorem townText_holds : Rows.FnExactTownTextCardSaid :=
  Claim7.holds_tied_plain_at .later [] [.data, .data, .data] true (true, "798f8b674c0b289487f12b93d404cac1b416a2ef9e68f26ea5a7d3ca725cc548") true
    townText_holds_row (fun _ h => by cases h) (by kernel_rfl) (fun _ h => by cases h) fnExactTownText_row_tie rfl ⟨rfl, rfl⟩ (by kernel_rfl) rfl
    (fun f fn hf hfn => by
      obtain rfl : f = 3 := Option.some.inj ((show Tryz.prog.funcNamed "loop.example/g01227/laws.FnExactTownText" = some 3 by kernel_rfl).symm.trans hf) |>.symm
      obtain rfl : fn = Tryz.f3 := (Option.some.inj (Tryz.func3.symm.trans hfn)).symm
      exact ⟨by kernel_rfl, fun j t ht => by
        rw [Tryz.params3] at ht
        have hm : t ∈ [28] := by simpa using Array.mem_of_getElem? ht
        have hall : ([28].all fun u => !Tryz.prog.wantsStandIn u) = true := by kernel_rfl
        exact (show Tryz.prog.wantsStandIn t = false by simpa using List.all_eq_true.1 hall t hm)⟩)
    (by kernel_rfl)
#print axioms townText_holds
end Go.Proofs.YtcdcofpcfhojiaaGreatDoor
