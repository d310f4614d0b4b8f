/-
  No cell of these rows narrows 'for every input' (looked for: loops, veiled, ifaces, maps, wideKeys, modest, calm, conditions, laid).
  DERIVED. THE GIVEN ROWS OF THIS SEAT. 8 by the template 'for every input the law returns true; each argument reads behind the call as it read before'; 0 by the template 'total and deterministic' (their statements: YtejgddephbaenaaGreatTotals.lean).
  GIVEN WITH THE SEED: the statements are not yours to turn. If you find one false, say at which input.
  Laid BY PROGRAM, IN A SANDBOX (cutbox-rows.mjs): the forced cells as the released guide's own fill.sh prints them over the translation 063bc3fcab25eccc… (all of the seat's roots in one cut). By AI agents, Wed Nov 11 2026. No macro, syntax, notation, axiom, sorry.
-/
import Derived.Test.YtejgddephbaenaaGreatChecked
import GoSem.Claim
import GoSem.ClaimJoined
import GoSem.ClaimMapViews
import Derived.JoinedTies
import Derived.KernelRfl
namespace Go.Proofs.YtejgddephbaenaaGreat
/- THE CELL 'sum', in the pinned program and in every row, IS THE sha256 OF THE DUMP (.gsa) THAT YtejgddephbaenaaGreatProg.lean LOADS. Nothing in Lean hashes anything: it is a label: what it is worth is what the hold of that sum in a sandbox is worth. -/
noncomputable def Tryz.pinned : Pinned := { name := "ytejgddephbaenaagreat", sum := "063bc3fcab25eccca32c9ce6ceb68718b2491d32da03378511aa1bd0284d67a6", checked := Tryz.checked }
namespace Rows
def none {H : Type} : Left H := { results := [], args := [] }

/-- 'laws.FnExactValidTown': WHATEVER THE INPUT: true; the input reads as it did. -/
def fnExactValidTownSpec : ChangeSpec := { name := "fnExactValidTown", fn := fun _ => fun
  | [d] => { results := [.lit (.bool true)], args := [d] }
  | _ => none }
def fnExactValidTownRow : OpenClaim := { program := "ytejgddephbaenaagreat", sum := "063bc3fcab25eccca32c9ce6ceb68718b2491d32da03378511aa1bd0284d67a6", func := "loop.example/g01227/laws.FnExactValidTown", spec := "fnExactValidTown", inPlace := ["math.Float32bits", "math.Float64bits"], unfollowed := true, recurses := true, apart := false }
def FnExactValidTownSaid : Prop := fnExactValidTownRow.holds Tryz.pinned (OpenSpec.ofChange fnExactValidTownSpec)

/-- ITS FALSE NEIGHBOUR: 'it returns false'. Refute it at one input. -/
def fnExactValidTownWrong : ChangeSpec := { name := "fnExactValidTown", fn := fun _ => fun
  | [d] => { results := [.lit (.bool false)], args := [d] }
  | _ => none }
def FnExactValidTownWrongFalsely : Prop := fnExactValidTownRow.holds Tryz.pinned (OpenSpec.ofChange fnExactValidTownWrong)

/-- 'laws.FnExactCarsIn': WHATEVER THE INPUT: true; the input reads as it did. -/
def fnExactCarsInSpec : ChangeSpec := { name := "fnExactCarsIn", fn := fun _ => fun
  | [d] => { results := [.lit (.bool true)], args := [d] }
  | _ => none }
def fnExactCarsInRow : OpenClaim := { program := "ytejgddephbaenaagreat", sum := "063bc3fcab25eccca32c9ce6ceb68718b2491d32da03378511aa1bd0284d67a6", func := "loop.example/g01227/laws.FnExactCarsIn", spec := "fnExactCarsIn", inPlace := ["math.Float32bits", "math.Float64bits"], unfollowed := true, recurses := true, apart := false }
def FnExactCarsInSaid : Prop := fnExactCarsInRow.holds Tryz.pinned (OpenSpec.ofChange fnExactCarsInSpec)

/-- ITS FALSE NEIGHBOUR: 'it returns false'. Refute it at one input. -/
def fnExactCarsInWrong : ChangeSpec := { name := "fnExactCarsIn", fn := fun _ => fun
  | [d] => { results := [.lit (.bool false)], args := [d] }
  | _ => none }
def FnExactCarsInWrongFalsely : Prop := fnExactCarsInRow.holds Tryz.pinned (OpenSpec.ofChange fnExactCarsInWrong)

/-- 'laws.FnExactLongestQueue': WHATEVER THE INPUT: true; the input reads as it did. -/
def fnExactLongestQueueSpec : ChangeSpec := { name := "fnExactLongestQueue", fn := fun _ => fun
  | [d] => { results := [.lit (.bool true)], args := [d] }
  | _ => none }
def fnExactLongestQueueRow : OpenClaim := { program := "ytejgddephbaenaagreat", sum := "063bc3fcab25eccca32c9ce6ceb68718b2491d32da03378511aa1bd0284d67a6", func := "loop.example/g01227/laws.FnExactLongestQueue", spec := "fnExactLongestQueue", inPlace := ["math.Float32bits", "math.Float64bits"], unfollowed := true, recurses := true, apart := false }
def FnExactLongestQueueSaid : Prop := fnExactLongestQueueRow.holds Tryz.pinned (OpenSpec.ofChange fnExactLongestQueueSpec)

/-- ITS FALSE NEIGHBOUR: 'it returns false'. Refute it at one input. -/
def fnExactLongestQueueWrong : ChangeSpec := { name := "fnExactLongestQueue", fn := fun _ => fun
  | [d] => { results := [.lit (.bool false)], args := [d] }
  | _ => none }
def FnExactLongestQueueWrongFalsely : Prop := fnExactLongestQueueRow.holds Tryz.pinned (OpenSpec.ofChange fnExactLongestQueueWrong)

/-- 'laws.FnJoints': WHATEVER THE INPUT: true; the input reads as it did. -/
def fnJointsSpec : ChangeSpec := { name := "fnJoints", fn := fun _ => fun
  | [d1, d2] => { results := [.lit (.bool true)], args := [d1, d2] }
  | _ => none }
def fnJointsRow : OpenClaim := { program := "ytejgddephbaenaagreat", sum := "063bc3fcab25eccca32c9ce6ceb68718b2491d32da03378511aa1bd0284d67a6", func := "loop.example/g01227/laws.FnJoints", spec := "fnJoints", inPlace := ["math.Float64bits", "math.Float64frombits", "math.Float32bits"], unfollowed := true, recurses := true, apart := false }
def FnJointsSaid : Prop := fnJointsRow.holds Tryz.pinned (OpenSpec.ofChange fnJointsSpec)

/-- ITS FALSE NEIGHBOUR: 'it returns false'. Refute it at one input. -/
def fnJointsWrong : ChangeSpec := { name := "fnJoints", fn := fun _ => fun
  | [d1, d2] => { results := [.lit (.bool false)], args := [d1, d2] }
  | _ => none }
def FnJointsWrongFalsely : Prop := fnJointsRow.holds Tryz.pinned (OpenSpec.ofChange fnJointsWrong)

/-- 'laws.FnExactGreenIns': WHATEVER THE INPUT: true; the input reads as it did. -/
def fnExactGreenInsSpec : ChangeSpec := { name := "fnExactGreenIns", fn := fun _ => fun
  | [d1, d2] => { results := [.lit (.bool true)], args := [d1, d2] }
  | _ => none }
def fnExactGreenInsRow : OpenClaim := { program := "ytejgddephbaenaagreat", sum := "063bc3fcab25eccca32c9ce6ceb68718b2491d32da03378511aa1bd0284d67a6", func := "loop.example/g01227/laws.FnExactGreenIns", spec := "fnExactGreenIns", inPlace := ["math.Float32bits", "math.Float64bits"], unfollowed := true, recurses := true, apart := false }
def FnExactGreenInsSaid : Prop := fnExactGreenInsRow.holds Tryz.pinned (OpenSpec.ofChange fnExactGreenInsSpec)

/-- ITS FALSE NEIGHBOUR: 'it returns false'. Refute it at one input. -/
def fnExactGreenInsWrong : ChangeSpec := { name := "fnExactGreenIns", fn := fun _ => fun
  | [d1, d2] => { results := [.lit (.bool false)], args := [d1, d2] }
  | _ => none }
def FnExactGreenInsWrongFalsely : Prop := fnExactGreenInsRow.holds Tryz.pinned (OpenSpec.ofChange fnExactGreenInsWrong)

/-- 'laws.FnExactJointFlows': WHATEVER THE INPUT: true; the input reads as it did. -/
def fnExactJointFlowsSpec : ChangeSpec := { name := "fnExactJointFlows", fn := fun _ => fun
  | [d1, d2] => { results := [.lit (.bool true)], args := [d1, d2] }
  | _ => none }
def fnExactJointFlowsRow : OpenClaim := { program := "ytejgddephbaenaagreat", sum := "063bc3fcab25eccca32c9ce6ceb68718b2491d32da03378511aa1bd0284d67a6", func := "loop.example/g01227/laws.FnExactJointFlows", spec := "fnExactJointFlows", inPlace := ["math.Float32bits", "math.Float64bits", "math.Float64frombits"], unfollowed := true, recurses := true, apart := false }
def FnExactJointFlowsSaid : Prop := fnExactJointFlowsRow.holds Tryz.pinned (OpenSpec.ofChange fnExactJointFlowsSpec)

/-- ITS FALSE NEIGHBOUR: 'it returns false'. Refute it at one input. -/
def fnExactJointFlowsWrong : ChangeSpec := { name := "fnExactJointFlows", fn := fun _ => fun
  | [d1, d2] => { results := [.lit (.bool false)], args := [d1, d2] }
  | _ => none }
def FnExactJointFlowsWrongFalsely : Prop := fnExactJointFlowsRow.holds Tryz.pinned (OpenSpec.ofChange fnExactJointFlowsWrong)

/-- 'laws.FnExactTickTown': WHATEVER THE INPUT: true; the input reads as it did. -/
def fnExactTickTownSpec : ChangeSpec := { name := "fnExactTickTown", fn := fun _ => fun
  | [d] => { results := [.lit (.bool true)], args := [d] }
  | _ => none }
def fnExactTickTownRow : OpenClaim := { program := "ytejgddephbaenaagreat", sum := "063bc3fcab25eccca32c9ce6ceb68718b2491d32da03378511aa1bd0284d67a6", func := "loop.example/g01227/laws.FnExactTickTown", spec := "fnExactTickTown", inPlace := ["math.Float32bits", "math.Float64bits", "math.Float64frombits"], unfollowed := true, recurses := true, apart := false }
def FnExactTickTownSaid : Prop := fnExactTickTownRow.holds Tryz.pinned (OpenSpec.ofChange fnExactTickTownSpec)

/-- ITS FALSE NEIGHBOUR: 'it returns false'. Refute it at one input. -/
def fnExactTickTownWrong : ChangeSpec := { name := "fnExactTickTown", fn := fun _ => fun
  | [d] => { results := [.lit (.bool false)], args := [d] }
  | _ => none }
def FnExactTickTownWrongFalsely : Prop := fnExactTickTownRow.holds Tryz.pinned (OpenSpec.ofChange fnExactTickTownWrong)

/-- 'laws.FnExactTickTowns': WHATEVER THE INPUT: true; the input reads as it did. -/
def fnExactTickTownsSpec : ChangeSpec := { name := "fnExactTickTowns", fn := fun _ => fun
  | [d1, d2] => { results := [.lit (.bool true)], args := [d1, d2] }
  | _ => none }
def fnExactTickTownsRow : OpenClaim := { program := "ytejgddephbaenaagreat", sum := "063bc3fcab25eccca32c9ce6ceb68718b2491d32da03378511aa1bd0284d67a6", func := "loop.example/g01227/laws.FnExactTickTowns", spec := "fnExactTickTowns", inPlace := ["math.Float32bits", "math.Float64bits", "math.Float64frombits"], unfollowed := true, recurses := true, apart := false }
def FnExactTickTownsSaid : Prop := fnExactTickTownsRow.holds Tryz.pinned (OpenSpec.ofChange fnExactTickTownsSpec)

/-- ITS FALSE NEIGHBOUR: 'it returns false'. Refute it at one input. -/
def fnExactTickTownsWrong : ChangeSpec := { name := "fnExactTickTowns", fn := fun _ => fun
  | [d1, d2] => { results := [.lit (.bool false)], args := [d1, d2] }
  | _ => none }
def FnExactTickTownsWrongFalsely : Prop := fnExactTickTownsRow.holds Tryz.pinned (OpenSpec.ofChange fnExactTickTownsWrong)

/- THE SECOND FORM. 'bulk': how many values and letters a reading holds, each counted each time it is reached (what is shared counts as often as it is met; a slice's spare places count too). A statement '..UptoSaid' is the law's where the arguments, and the package variables that the reading takes, are together of bulk at most 1048576: NARROWER than '..Said'. Prove '..Said' where nothing that the law and all that it calls make is longer than what came in: it says more and counts as full. Else prove '..UptoSaid'. A law counts once. -/
mutual
def uptoBulk {H : Type} : DataW H → Nat
  | .lit (.string bytes) => bytes.length + 1
  | .lit _ => 1
  | .nil => 1
  | .ptr d => uptoBulk d + 1
  | .slice elems spare => uptoBulkAll elems + uptoBulkAll spare + 1
  | .agg parts => uptoBulkAll parts + 1
  | .iface _ d => uptoBulk d + 1
  | .map entries => uptoBulkEntries entries + 1
  | .held _ => 1
def uptoBulkAll {H : Type} : List (DataW H) → Nat
  | [] => 0
  | d :: r => uptoBulk d + uptoBulkAll r
def uptoBulkEntries {H : Type} : List (Lit × DataW H) → Nat
  | [] => 0
  | x :: r => uptoBulkEntry x + uptoBulkEntries r
def uptoBulkEntry {H : Type} : Lit × DataW H → Nat
  | (.string bytes, d) => bytes.length + uptoBulk d + 1
  | (_, d) => uptoBulk d + 1
 end
def uptoSmall : (H : Type) → List (DataW H) → Bool := fun _ ds => decide (uptoBulkAll ds ≤ 1048576)
def OpenSpec.upto (s : _root_.Go.ChangeSpec) : _root_.Go.OpenSpec := { _root_.Go.OpenSpec.ofChange s with cond := some uptoSmall }

/-- 'laws.FnExactValidTown', WHERE WHAT IT READS IS OF BULK AT MOST 1048576: true; the input reads as it did. -/
def fnExactValidTownUptoRow : OpenClaim := { program := "ytejgddephbaenaagreat", sum := "063bc3fcab25eccca32c9ce6ceb68718b2491d32da03378511aa1bd0284d67a6", func := "loop.example/g01227/laws.FnExactValidTown", spec := "fnExactValidTown", inPlace := ["math.Float32bits", "math.Float64bits"], unfollowed := true, recurses := true, apart := false, narrowed := true }
def FnExactValidTownUptoSaid : Prop := fnExactValidTownUptoRow.holds Tryz.pinned (OpenSpec.upto fnExactValidTownSpec)

/-- 'laws.FnExactCarsIn', WHERE WHAT IT READS IS OF BULK AT MOST 1048576: true; the input reads as it did. -/
def fnExactCarsInUptoRow : OpenClaim := { program := "ytejgddephbaenaagreat", sum := "063bc3fcab25eccca32c9ce6ceb68718b2491d32da03378511aa1bd0284d67a6", func := "loop.example/g01227/laws.FnExactCarsIn", spec := "fnExactCarsIn", inPlace := ["math.Float32bits", "math.Float64bits"], unfollowed := true, recurses := true, apart := false, narrowed := true }
def FnExactCarsInUptoSaid : Prop := fnExactCarsInUptoRow.holds Tryz.pinned (OpenSpec.upto fnExactCarsInSpec)

/-- 'laws.FnExactLongestQueue', WHERE WHAT IT READS IS OF BULK AT MOST 1048576: true; the input reads as it did. -/
def fnExactLongestQueueUptoRow : OpenClaim := { program := "ytejgddephbaenaagreat", sum := "063bc3fcab25eccca32c9ce6ceb68718b2491d32da03378511aa1bd0284d67a6", func := "loop.example/g01227/laws.FnExactLongestQueue", spec := "fnExactLongestQueue", inPlace := ["math.Float32bits", "math.Float64bits"], unfollowed := true, recurses := true, apart := false, narrowed := true }
def FnExactLongestQueueUptoSaid : Prop := fnExactLongestQueueUptoRow.holds Tryz.pinned (OpenSpec.upto fnExactLongestQueueSpec)

/-- 'laws.FnJoints', WHERE WHAT IT READS IS OF BULK AT MOST 1048576: true; the input reads as it did. -/
def fnJointsUptoRow : OpenClaim := { program := "ytejgddephbaenaagreat", sum := "063bc3fcab25eccca32c9ce6ceb68718b2491d32da03378511aa1bd0284d67a6", func := "loop.example/g01227/laws.FnJoints", spec := "fnJoints", inPlace := ["math.Float64bits", "math.Float64frombits", "math.Float32bits"], unfollowed := true, recurses := true, apart := false, narrowed := true }
def FnJointsUptoSaid : Prop := fnJointsUptoRow.holds Tryz.pinned (OpenSpec.upto fnJointsSpec)

/-- 'laws.FnExactGreenIns', WHERE WHAT IT READS IS OF BULK AT MOST 1048576: true; the input reads as it did. -/
def fnExactGreenInsUptoRow : OpenClaim := { program := "ytejgddephbaenaagreat", sum := "063bc3fcab25eccca32c9ce6ceb68718b2491d32da03378511aa1bd0284d67a6", func := "loop.example/g01227/laws.FnExactGreenIns", spec := "fnExactGreenIns", inPlace := ["math.Float32bits", "math.Float64bits"], unfollowed := true, recurses := true, apart := false, narrowed := true }
def FnExactGreenInsUptoSaid : Prop := fnExactGreenInsUptoRow.holds Tryz.pinned (OpenSpec.upto fnExactGreenInsSpec)

/-- 'laws.FnExactJointFlows', WHERE WHAT IT READS IS OF BULK AT MOST 1048576: true; the input reads as it did. -/
def fnExactJointFlowsUptoRow : OpenClaim := { program := "ytejgddephbaenaagreat", sum := "063bc3fcab25eccca32c9ce6ceb68718b2491d32da03378511aa1bd0284d67a6", func := "loop.example/g01227/laws.FnExactJointFlows", spec := "fnExactJointFlows", inPlace := ["math.Float32bits", "math.Float64bits", "math.Float64frombits"], unfollowed := true, recurses := true, apart := false, narrowed := true }
def FnExactJointFlowsUptoSaid : Prop := fnExactJointFlowsUptoRow.holds Tryz.pinned (OpenSpec.upto fnExactJointFlowsSpec)

/-- 'laws.FnExactTickTown', WHERE WHAT IT READS IS OF BULK AT MOST 1048576: true; the input reads as it did. -/
def fnExactTickTownUptoRow : OpenClaim := { program := "ytejgddephbaenaagreat", sum := "063bc3fcab25eccca32c9ce6ceb68718b2491d32da03378511aa1bd0284d67a6", func := "loop.example/g01227/laws.FnExactTickTown", spec := "fnExactTickTown", inPlace := ["math.Float32bits", "math.Float64bits", "math.Float64frombits"], unfollowed := true, recurses := true, apart := false, narrowed := true }
def FnExactTickTownUptoSaid : Prop := fnExactTickTownUptoRow.holds Tryz.pinned (OpenSpec.upto fnExactTickTownSpec)

/-- 'laws.FnExactTickTowns', WHERE WHAT IT READS IS OF BULK AT MOST 1048576: true; the input reads as it did. -/
def fnExactTickTownsUptoRow : OpenClaim := { program := "ytejgddephbaenaagreat", sum := "063bc3fcab25eccca32c9ce6ceb68718b2491d32da03378511aa1bd0284d67a6", func := "loop.example/g01227/laws.FnExactTickTowns", spec := "fnExactTickTowns", inPlace := ["math.Float32bits", "math.Float64bits", "math.Float64frombits"], unfollowed := true, recurses := true, apart := false, narrowed := true }
def FnExactTickTownsUptoSaid : Prop := fnExactTickTownsUptoRow.holds Tryz.pinned (OpenSpec.upto fnExactTickTownsSpec)

end Rows
end Go.Proofs.YtejgddephbaenaaGreat
