/-
  No cell of these rows narrows 'for every input' (looked for: loops, veiled, ifaces, maps, wideKeys, modest, calm, conditions, laid).
  DERIVED. THE GIVEN ROWS OF THIS SEAT. 12 by the template 'for every input the law returns true; each argument reads behind the call as it read before'; 0 by the template 'total and deterministic' (their statements: YtenaamehifbfeaaTotals.lean).
  GIVEN WITH THE SEED: the statements are not yours to turn. If you find one false, say at which input.
  Laid BY PROGRAM, IN A SANDBOX (cutbox-rows.mjs): the forced cells as the released guide's own fill.sh prints them over the translation 9b3db21ba2b284b5… (all of the seat's roots in one cut). By AI agents, Wed Nov 11 2026. No macro, syntax, notation, axiom, sorry.
-/
import Derived.Test.YtenaamehifbfeaaChecked
import GoSem.Claim
import GoSem.ClaimJoined
import GoSem.ClaimMapViews
import Derived.JoinedTies
import Derived.KernelRfl
namespace Go.Proofs.Ytenaamehifbfeaa
/- THE CELL 'sum', in the pinned program and in every row, IS THE sha256 OF THE DUMP (.gsa) THAT YtenaamehifbfeaaProg.lean LOADS. Nothing in Lean hashes anything: it is a label: what it is worth is what the hold of that sum in a sandbox is worth. -/
noncomputable def Try.pinned : Pinned := { name := "ytenaamehifbfeaa", sum := "9b3db21ba2b284b57704dca1ffe7c6d62c47696ec9320caecf12932fb315a9b5", checked := Try.checked }
namespace Rows
def none {H : Type} : Left H := { results := [], args := [] }

/-- 'laws.FnExactReadOff': WHATEVER THE INPUT: true; the input reads as it did. -/
def fnExactReadOffSpec : ChangeSpec := { name := "fnExactReadOff", fn := fun _ => fun
  | [d1, d2] => { results := [.lit (.bool true)], args := [d1, d2] }
  | _ => none }
def fnExactReadOffRow : OpenClaim := { program := "ytenaamehifbfeaa", sum := "9b3db21ba2b284b57704dca1ffe7c6d62c47696ec9320caecf12932fb315a9b5", func := "loop.example/g01227/laws.FnExactReadOff", spec := "fnExactReadOff", inPlace := ["math.Float32bits", "math.RoundToEven", "math.Float64bits"], apart := false }
def FnExactReadOffSaid : Prop := fnExactReadOffRow.holds Try.pinned (OpenSpec.ofChange fnExactReadOffSpec)

/-- ITS FALSE NEIGHBOUR: 'it returns false'. Refute it at one input. -/
def fnExactReadOffWrong : ChangeSpec := { name := "fnExactReadOff", fn := fun _ => fun
  | [d1, d2] => { results := [.lit (.bool false)], args := [d1, d2] }
  | _ => none }
def FnExactReadOffWrongFalsely : Prop := fnExactReadOffRow.holds Try.pinned (OpenSpec.ofChange fnExactReadOffWrong)

/-- 'laws.FnExactSmoothCounts': WHATEVER THE INPUT: true; the input reads as it did. -/
def fnExactSmoothCountsSpec : ChangeSpec := { name := "fnExactSmoothCounts", fn := fun _ => fun
  | [d1, d2] => { results := [.lit (.bool true)], args := [d1, d2] }
  | _ => none }
def fnExactSmoothCountsRow : OpenClaim := { program := "ytenaamehifbfeaa", sum := "9b3db21ba2b284b57704dca1ffe7c6d62c47696ec9320caecf12932fb315a9b5", func := "loop.example/g01227/laws.FnExactSmoothCounts", spec := "fnExactSmoothCounts", inPlace := ["math.Float32bits", "math.Float64bits"], apart := false }
def FnExactSmoothCountsSaid : Prop := fnExactSmoothCountsRow.holds Try.pinned (OpenSpec.ofChange fnExactSmoothCountsSpec)

/-- ITS FALSE NEIGHBOUR: 'it returns false'. Refute it at one input. -/
def fnExactSmoothCountsWrong : ChangeSpec := { name := "fnExactSmoothCounts", fn := fun _ => fun
  | [d1, d2] => { results := [.lit (.bool false)], args := [d1, d2] }
  | _ => none }
def FnExactSmoothCountsWrongFalsely : Prop := fnExactSmoothCountsRow.holds Try.pinned (OpenSpec.ofChange fnExactSmoothCountsWrong)

/-- 'laws.FnExactPacketOf': WHATEVER THE INPUT: true; the input reads as it did. -/
def fnExactPacketOfSpec : ChangeSpec := { name := "fnExactPacketOf", fn := fun _ => fun
  | [d] => { results := [.lit (.bool true)], args := [d] }
  | _ => none }
def fnExactPacketOfRow : OpenClaim := { program := "ytenaamehifbfeaa", sum := "9b3db21ba2b284b57704dca1ffe7c6d62c47696ec9320caecf12932fb315a9b5", func := "loop.example/g01227/laws.FnExactPacketOf", spec := "fnExactPacketOf", apart := false }
def FnExactPacketOfSaid : Prop := fnExactPacketOfRow.holds Try.pinned (OpenSpec.ofChange fnExactPacketOfSpec)

/-- ITS FALSE NEIGHBOUR: 'it returns false'. Refute it at one input. -/
def fnExactPacketOfWrong : ChangeSpec := { name := "fnExactPacketOf", fn := fun _ => fun
  | [d] => { results := [.lit (.bool false)], args := [d] }
  | _ => none }
def FnExactPacketOfWrongFalsely : Prop := fnExactPacketOfRow.holds Try.pinned (OpenSpec.ofChange fnExactPacketOfWrong)

/-- 'laws.FnExactFirstIncident': WHATEVER THE INPUT: true; the input reads as it did. -/
def fnExactFirstIncidentSpec : ChangeSpec := { name := "fnExactFirstIncident", fn := fun _ => fun
  | [d1, d2, d3, d4, d5] => { results := [.lit (.bool true)], args := [d1, d2, d3, d4, d5] }
  | _ => none }
def fnExactFirstIncidentRow : OpenClaim := { program := "ytenaamehifbfeaa", sum := "9b3db21ba2b284b57704dca1ffe7c6d62c47696ec9320caecf12932fb315a9b5", func := "loop.example/g01227/laws.FnExactFirstIncident", spec := "fnExactFirstIncident", inPlace := ["math.Float32bits", "math.Float64bits"], unfollowed := true, recurses := true, apart := false }
def FnExactFirstIncidentSaid : Prop := fnExactFirstIncidentRow.holds Try.pinned (OpenSpec.ofChange fnExactFirstIncidentSpec)

/-- ITS FALSE NEIGHBOUR: 'it returns false'. Refute it at one input. -/
def fnExactFirstIncidentWrong : ChangeSpec := { name := "fnExactFirstIncident", fn := fun _ => fun
  | [d1, d2, d3, d4, d5] => { results := [.lit (.bool false)], args := [d1, d2, d3, d4, d5] }
  | _ => none }
def FnExactFirstIncidentWrongFalsely : Prop := fnExactFirstIncidentRow.holds Try.pinned (OpenSpec.ofChange fnExactFirstIncidentWrong)

/-- 'laws.FnExactFillGaps': WHATEVER THE INPUT: true; the input reads as it did. -/
def fnExactFillGapsSpec : ChangeSpec := { name := "fnExactFillGaps", fn := fun _ => fun
  | [d] => { results := [.lit (.bool true)], args := [d] }
  | _ => none }
def fnExactFillGapsRow : OpenClaim := { program := "ytenaamehifbfeaa", sum := "9b3db21ba2b284b57704dca1ffe7c6d62c47696ec9320caecf12932fb315a9b5", func := "loop.example/g01227/laws.FnExactFillGaps", spec := "fnExactFillGaps", inPlace := ["math.RoundToEven"], apart := false }
def FnExactFillGapsSaid : Prop := fnExactFillGapsRow.holds Try.pinned (OpenSpec.ofChange fnExactFillGapsSpec)

/-- ITS FALSE NEIGHBOUR: 'it returns false'. Refute it at one input. -/
def fnExactFillGapsWrong : ChangeSpec := { name := "fnExactFillGaps", fn := fun _ => fun
  | [d] => { results := [.lit (.bool false)], args := [d] }
  | _ => none }
def FnExactFillGapsWrongFalsely : Prop := fnExactFillGapsRow.holds Try.pinned (OpenSpec.ofChange fnExactFillGapsWrong)

/-- 'laws.FnExactTornTallies': WHATEVER THE INPUT: true; the input reads as it did. -/
def fnExactTornTalliesSpec : ChangeSpec := { name := "fnExactTornTallies", fn := fun _ => fun
  | [d] => { results := [.lit (.bool true)], args := [d] }
  | _ => none }
def fnExactTornTalliesRow : OpenClaim := { program := "ytenaamehifbfeaa", sum := "9b3db21ba2b284b57704dca1ffe7c6d62c47696ec9320caecf12932fb315a9b5", func := "loop.example/g01227/laws.FnExactTornTallies", spec := "fnExactTornTallies", unfollowed := true, recurses := true, apart := false }
def FnExactTornTalliesSaid : Prop := fnExactTornTalliesRow.holds Try.pinned (OpenSpec.ofChange fnExactTornTalliesSpec)

/-- ITS FALSE NEIGHBOUR: 'it returns false'. Refute it at one input. -/
def fnExactTornTalliesWrong : ChangeSpec := { name := "fnExactTornTallies", fn := fun _ => fun
  | [d] => { results := [.lit (.bool false)], args := [d] }
  | _ => none }
def FnExactTornTalliesWrongFalsely : Prop := fnExactTornTalliesRow.holds Try.pinned (OpenSpec.ofChange fnExactTornTalliesWrong)

/-- 'laws.FnExactReadPacket': WHATEVER THE INPUT: true; the input reads as it did. -/
def fnExactReadPacketSpec : ChangeSpec := { name := "fnExactReadPacket", fn := fun _ => fun
  | [d] => { results := [.lit (.bool true)], args := [d] }
  | _ => none }
def fnExactReadPacketRow : OpenClaim := { program := "ytenaamehifbfeaa", sum := "9b3db21ba2b284b57704dca1ffe7c6d62c47696ec9320caecf12932fb315a9b5", func := "loop.example/g01227/laws.FnExactReadPacket", spec := "fnExactReadPacket", unfollowed := true, recurses := true, apart := false }
def FnExactReadPacketSaid : Prop := fnExactReadPacketRow.holds Try.pinned (OpenSpec.ofChange fnExactReadPacketSpec)

/-- ITS FALSE NEIGHBOUR: 'it returns false'. Refute it at one input. -/
def fnExactReadPacketWrong : ChangeSpec := { name := "fnExactReadPacket", fn := fun _ => fun
  | [d] => { results := [.lit (.bool false)], args := [d] }
  | _ => none }
def FnExactReadPacketWrongFalsely : Prop := fnExactReadPacketRow.holds Try.pinned (OpenSpec.ofChange fnExactReadPacketWrong)

/-- 'laws.FnExactJoinTallies': WHATEVER THE INPUT: true; the input reads as it did. -/
def fnExactJoinTalliesSpec : ChangeSpec := { name := "fnExactJoinTallies", fn := fun _ => fun
  | [d1, d2] => { results := [.lit (.bool true)], args := [d1, d2] }
  | _ => none }
def fnExactJoinTalliesRow : OpenClaim := { program := "ytenaamehifbfeaa", sum := "9b3db21ba2b284b57704dca1ffe7c6d62c47696ec9320caecf12932fb315a9b5", func := "loop.example/g01227/laws.FnExactJoinTallies", spec := "fnExactJoinTallies", inPlace := ["slices.overlaps[loop.example/g01227/impl.Tally]"], unfollowed := true, recurses := true, apart := false }
def FnExactJoinTalliesSaid : Prop := fnExactJoinTalliesRow.holds Try.pinned (OpenSpec.ofChange fnExactJoinTalliesSpec)

/-- ITS FALSE NEIGHBOUR: 'it returns false'. Refute it at one input. -/
def fnExactJoinTalliesWrong : ChangeSpec := { name := "fnExactJoinTallies", fn := fun _ => fun
  | [d1, d2] => { results := [.lit (.bool false)], args := [d1, d2] }
  | _ => none }
def FnExactJoinTalliesWrongFalsely : Prop := fnExactJoinTalliesRow.holds Try.pinned (OpenSpec.ofChange fnExactJoinTalliesWrong)

/-- 'laws.FnExactMiddleCount': WHATEVER THE INPUT: true; the input reads as it did. -/
def fnExactMiddleCountSpec : ChangeSpec := { name := "fnExactMiddleCount", fn := fun _ => fun
  | [d] => { results := [.lit (.bool true)], args := [d] }
  | _ => none }
def fnExactMiddleCountRow : OpenClaim := { program := "ytenaamehifbfeaa", sum := "9b3db21ba2b284b57704dca1ffe7c6d62c47696ec9320caecf12932fb315a9b5", func := "loop.example/g01227/laws.FnExactMiddleCount", spec := "fnExactMiddleCount", recurses := true, apart := false }
def FnExactMiddleCountSaid : Prop := fnExactMiddleCountRow.holds Try.pinned (OpenSpec.ofChange fnExactMiddleCountSpec)

/-- ITS FALSE NEIGHBOUR: 'it returns false'. Refute it at one input. -/
def fnExactMiddleCountWrong : ChangeSpec := { name := "fnExactMiddleCount", fn := fun _ => fun
  | [d] => { results := [.lit (.bool false)], args := [d] }
  | _ => none }
def FnExactMiddleCountWrongFalsely : Prop := fnExactMiddleCountRow.holds Try.pinned (OpenSpec.ofChange fnExactMiddleCountWrong)

/-- 'laws.FnDetectorPackets': WHATEVER THE INPUT: true; the input reads as it did. -/
def fnDetectorPacketsSpec : ChangeSpec := { name := "fnDetectorPackets", fn := fun _ => fun
  | [d1, d2] => { results := [.lit (.bool true)], args := [d1, d2] }
  | _ => none }
def fnDetectorPacketsRow : OpenClaim := { program := "ytenaamehifbfeaa", sum := "9b3db21ba2b284b57704dca1ffe7c6d62c47696ec9320caecf12932fb315a9b5", func := "loop.example/g01227/laws.FnDetectorPackets", spec := "fnDetectorPackets", unfollowed := true, recurses := true, apart := false }
def FnDetectorPacketsSaid : Prop := fnDetectorPacketsRow.holds Try.pinned (OpenSpec.ofChange fnDetectorPacketsSpec)

/-- ITS FALSE NEIGHBOUR: 'it returns false'. Refute it at one input. -/
def fnDetectorPacketsWrong : ChangeSpec := { name := "fnDetectorPackets", fn := fun _ => fun
  | [d1, d2] => { results := [.lit (.bool false)], args := [d1, d2] }
  | _ => none }
def FnDetectorPacketsWrongFalsely : Prop := fnDetectorPacketsRow.holds Try.pinned (OpenSpec.ofChange fnDetectorPacketsWrong)

/-- 'laws.FnIncidents': WHATEVER THE INPUT: true; the input reads as it did. -/
def fnIncidentsSpec : ChangeSpec := { name := "fnIncidents", fn := fun _ => fun
  | [d1, d2] => { results := [.lit (.bool true)], args := [d1, d2] }
  | _ => none }
def fnIncidentsRow : OpenClaim := { program := "ytenaamehifbfeaa", sum := "9b3db21ba2b284b57704dca1ffe7c6d62c47696ec9320caecf12932fb315a9b5", func := "loop.example/g01227/laws.FnIncidents", spec := "fnIncidents", inPlace := ["math.Float64bits", "math.Float32bits"], unfollowed := true, recurses := true, apart := false }
def FnIncidentsSaid : Prop := fnIncidentsRow.holds Try.pinned (OpenSpec.ofChange fnIncidentsSpec)

/-- ITS FALSE NEIGHBOUR: 'it returns false'. Refute it at one input. -/
def fnIncidentsWrong : ChangeSpec := { name := "fnIncidents", fn := fun _ => fun
  | [d1, d2] => { results := [.lit (.bool false)], args := [d1, d2] }
  | _ => none }
def FnIncidentsWrongFalsely : Prop := fnIncidentsRow.holds Try.pinned (OpenSpec.ofChange fnIncidentsWrong)

/-- 'laws.FnTallies': WHATEVER THE INPUT: true; the input reads as it did. -/
def fnTalliesSpec : ChangeSpec := { name := "fnTallies", fn := fun _ => fun
  | [d1, d2] => { results := [.lit (.bool true)], args := [d1, d2] }
  | _ => none }
def fnTalliesRow : OpenClaim := { program := "ytenaamehifbfeaa", sum := "9b3db21ba2b284b57704dca1ffe7c6d62c47696ec9320caecf12932fb315a9b5", func := "loop.example/g01227/laws.FnTallies", spec := "fnTallies", inPlace := ["math.Float64bits", "math.Float32bits", "math.RoundToEven", "slices.overlaps[loop.example/g01227/impl.Tally]"], unfollowed := true, recurses := true, apart := false }
def FnTalliesSaid : Prop := fnTalliesRow.holds Try.pinned (OpenSpec.ofChange fnTalliesSpec)

/-- ITS FALSE NEIGHBOUR: 'it returns false'. Refute it at one input. -/
def fnTalliesWrong : ChangeSpec := { name := "fnTallies", fn := fun _ => fun
  | [d1, d2] => { results := [.lit (.bool false)], args := [d1, d2] }
  | _ => none }
def FnTalliesWrongFalsely : Prop := fnTalliesRow.holds Try.pinned (OpenSpec.ofChange fnTalliesWrong)

/- THE SECOND FORM. 'bulk': how many values and letters a reading holds, each counted each time it is reached (what is shared counts as often as it is met; a slice's spare places count too). A statement '..UptoSaid' is the law's where the arguments, and the package variables that the reading takes, are together of bulk at most 1048576: NARROWER than '..Said'. Prove '..Said' where nothing that the law and all that it calls make is longer than what came in: it says more and counts as full. Else prove '..UptoSaid'. A law counts once. -/
mutual
def uptoBulk {H : Type} : DataW H → Nat
  | .lit (.string bytes) => bytes.length + 1
  | .lit _ => 1
  | .nil => 1
  | .ptr d => uptoBulk d + 1
  | .slice elems spare => uptoBulkAll elems + uptoBulkAll spare + 1
  | .agg parts => uptoBulkAll parts + 1
  | .iface _ d => uptoBulk d + 1
  | .map entries => uptoBulkEntries entries + 1
  | .held _ => 1
def uptoBulkAll {H : Type} : List (DataW H) → Nat
  | [] => 0
  | d :: r => uptoBulk d + uptoBulkAll r
def uptoBulkEntries {H : Type} : List (Lit × DataW H) → Nat
  | [] => 0
  | x :: r => uptoBulkEntry x + uptoBulkEntries r
def uptoBulkEntry {H : Type} : Lit × DataW H → Nat
  | (.string bytes, d) => bytes.length + uptoBulk d + 1
  | (_, d) => uptoBulk d + 1
 end
def uptoSmall : (H : Type) → List (DataW H) → Bool := fun _ ds => decide (uptoBulkAll ds ≤ 1048576)
def OpenSpec.upto (s : _root_.Go.ChangeSpec) : _root_.Go.OpenSpec := { _root_.Go.OpenSpec.ofChange s with cond := some uptoSmall }

/-- 'laws.FnExactReadOff', WHERE WHAT IT READS IS OF BULK AT MOST 1048576: true; the input reads as it did. -/
def fnExactReadOffUptoRow : OpenClaim := { program := "ytenaamehifbfeaa", sum := "9b3db21ba2b284b57704dca1ffe7c6d62c47696ec9320caecf12932fb315a9b5", func := "loop.example/g01227/laws.FnExactReadOff", spec := "fnExactReadOff", inPlace := ["math.Float32bits", "math.RoundToEven", "math.Float64bits"], apart := false, narrowed := true }
def FnExactReadOffUptoSaid : Prop := fnExactReadOffUptoRow.holds Try.pinned (OpenSpec.upto fnExactReadOffSpec)

/-- 'laws.FnExactSmoothCounts', WHERE WHAT IT READS IS OF BULK AT MOST 1048576: true; the input reads as it did. -/
def fnExactSmoothCountsUptoRow : OpenClaim := { program := "ytenaamehifbfeaa", sum := "9b3db21ba2b284b57704dca1ffe7c6d62c47696ec9320caecf12932fb315a9b5", func := "loop.example/g01227/laws.FnExactSmoothCounts", spec := "fnExactSmoothCounts", inPlace := ["math.Float32bits", "math.Float64bits"], apart := false, narrowed := true }
def FnExactSmoothCountsUptoSaid : Prop := fnExactSmoothCountsUptoRow.holds Try.pinned (OpenSpec.upto fnExactSmoothCountsSpec)

/-- 'laws.FnExactPacketOf', WHERE WHAT IT READS IS OF BULK AT MOST 1048576: true; the input reads as it did. -/
def fnExactPacketOfUptoRow : OpenClaim := { program := "ytenaamehifbfeaa", sum := "9b3db21ba2b284b57704dca1ffe7c6d62c47696ec9320caecf12932fb315a9b5", func := "loop.example/g01227/laws.FnExactPacketOf", spec := "fnExactPacketOf", apart := false, narrowed := true }
def FnExactPacketOfUptoSaid : Prop := fnExactPacketOfUptoRow.holds Try.pinned (OpenSpec.upto fnExactPacketOfSpec)

/-- 'laws.FnExactFirstIncident', WHERE WHAT IT READS IS OF BULK AT MOST 1048576: true; the input reads as it did. -/
def fnExactFirstIncidentUptoRow : OpenClaim := { program := "ytenaamehifbfeaa", sum := "9b3db21ba2b284b57704dca1ffe7c6d62c47696ec9320caecf12932fb315a9b5", func := "loop.example/g01227/laws.FnExactFirstIncident", spec := "fnExactFirstIncident", inPlace := ["math.Float32bits", "math.Float64bits"], unfollowed := true, recurses := true, apart := false, narrowed := true }
def FnExactFirstIncidentUptoSaid : Prop := fnExactFirstIncidentUptoRow.holds Try.pinned (OpenSpec.upto fnExactFirstIncidentSpec)

/-- 'laws.FnExactFillGaps', WHERE WHAT IT READS IS OF BULK AT MOST 1048576: true; the input reads as it did. -/
def fnExactFillGapsUptoRow : OpenClaim := { program := "ytenaamehifbfeaa", sum := "9b3db21ba2b284b57704dca1ffe7c6d62c47696ec9320caecf12932fb315a9b5", func := "loop.example/g01227/laws.FnExactFillGaps", spec := "fnExactFillGaps", inPlace := ["math.RoundToEven"], apart := false, narrowed := true }
def FnExactFillGapsUptoSaid : Prop := fnExactFillGapsUptoRow.holds Try.pinned (OpenSpec.upto fnExactFillGapsSpec)

/-- 'laws.FnExactTornTallies', WHERE WHAT IT READS IS OF BULK AT MOST 1048576: true; the input reads as it did. -/
def fnExactTornTalliesUptoRow : OpenClaim := { program := "ytenaamehifbfeaa", sum := "9b3db21ba2b284b57704dca1ffe7c6d62c47696ec9320caecf12932fb315a9b5", func := "loop.example/g01227/laws.FnExactTornTallies", spec := "fnExactTornTallies", unfollowed := true, recurses := true, apart := false, narrowed := true }
def FnExactTornTalliesUptoSaid : Prop := fnExactTornTalliesUptoRow.holds Try.pinned (OpenSpec.upto fnExactTornTalliesSpec)

/-- 'laws.FnExactReadPacket', WHERE WHAT IT READS IS OF BULK AT MOST 1048576: true; the input reads as it did. -/
def fnExactReadPacketUptoRow : OpenClaim := { program := "ytenaamehifbfeaa", sum := "9b3db21ba2b284b57704dca1ffe7c6d62c47696ec9320caecf12932fb315a9b5", func := "loop.example/g01227/laws.FnExactReadPacket", spec := "fnExactReadPacket", unfollowed := true, recurses := true, apart := false, narrowed := true }
def FnExactReadPacketUptoSaid : Prop := fnExactReadPacketUptoRow.holds Try.pinned (OpenSpec.upto fnExactReadPacketSpec)

/-- 'laws.FnExactJoinTallies', WHERE WHAT IT READS IS OF BULK AT MOST 1048576: true; the input reads as it did. -/
def fnExactJoinTalliesUptoRow : OpenClaim := { program := "ytenaamehifbfeaa", sum := "9b3db21ba2b284b57704dca1ffe7c6d62c47696ec9320caecf12932fb315a9b5", func := "loop.example/g01227/laws.FnExactJoinTallies", spec := "fnExactJoinTallies", inPlace := ["slices.overlaps[loop.example/g01227/impl.Tally]"], unfollowed := true, recurses := true, apart := false, narrowed := true }
def FnExactJoinTalliesUptoSaid : Prop := fnExactJoinTalliesUptoRow.holds Try.pinned (OpenSpec.upto fnExactJoinTalliesSpec)

/-- 'laws.FnExactMiddleCount', WHERE WHAT IT READS IS OF BULK AT MOST 1048576: true; the input reads as it did. -/
def fnExactMiddleCountUptoRow : OpenClaim := { program := "ytenaamehifbfeaa", sum := "9b3db21ba2b284b57704dca1ffe7c6d62c47696ec9320caecf12932fb315a9b5", func := "loop.example/g01227/laws.FnExactMiddleCount", spec := "fnExactMiddleCount", recurses := true, apart := false, narrowed := true }
def FnExactMiddleCountUptoSaid : Prop := fnExactMiddleCountUptoRow.holds Try.pinned (OpenSpec.upto fnExactMiddleCountSpec)

/-- 'laws.FnDetectorPackets', WHERE WHAT IT READS IS OF BULK AT MOST 1048576: true; the input reads as it did. -/
def fnDetectorPacketsUptoRow : OpenClaim := { program := "ytenaamehifbfeaa", sum := "9b3db21ba2b284b57704dca1ffe7c6d62c47696ec9320caecf12932fb315a9b5", func := "loop.example/g01227/laws.FnDetectorPackets", spec := "fnDetectorPackets", unfollowed := true, recurses := true, apart := false, narrowed := true }
def FnDetectorPacketsUptoSaid : Prop := fnDetectorPacketsUptoRow.holds Try.pinned (OpenSpec.upto fnDetectorPacketsSpec)

/-- 'laws.FnIncidents', WHERE WHAT IT READS IS OF BULK AT MOST 1048576: true; the input reads as it did. -/
def fnIncidentsUptoRow : OpenClaim := { program := "ytenaamehifbfeaa", sum := "9b3db21ba2b284b57704dca1ffe7c6d62c47696ec9320caecf12932fb315a9b5", func := "loop.example/g01227/laws.FnIncidents", spec := "fnIncidents", inPlace := ["math.Float64bits", "math.Float32bits"], unfollowed := true, recurses := true, apart := false, narrowed := true }
def FnIncidentsUptoSaid : Prop := fnIncidentsUptoRow.holds Try.pinned (OpenSpec.upto fnIncidentsSpec)

/-- 'laws.FnTallies', WHERE WHAT IT READS IS OF BULK AT MOST 1048576: true; the input reads as it did. -/
def fnTalliesUptoRow : OpenClaim := { program := "ytenaamehifbfeaa", sum := "9b3db21ba2b284b57704dca1ffe7c6d62c47696ec9320caecf12932fb315a9b5", func := "loop.example/g01227/laws.FnTallies", spec := "fnTallies", inPlace := ["math.Float64bits", "math.Float32bits", "math.RoundToEven", "slices.overlaps[loop.example/g01227/impl.Tally]"], unfollowed := true, recurses := true, apart := false, narrowed := true }
def FnTalliesUptoSaid : Prop := fnTalliesUptoRow.holds Try.pinned (OpenSpec.upto fnTalliesSpec)

end Rows
end Go.Proofs.Ytenaamehifbfeaa
