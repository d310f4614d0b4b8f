/-
  No cell of these rows narrows 'for every input' (looked for: loops, veiled, ifaces, maps, wideKeys, modest, calm, conditions, laid).
  DERIVED. THE GIVEN ROWS OF THIS SEAT. 9 by the template 'for every input the law returns true; each argument reads behind the call as it read before'; 0 by the template 'total and deterministic' (their statements: YtbejolinihbokaaTotals.lean).
  GIVEN WITH THE SEED: the statements are not yours to turn. If you find one false, say at which input.
  Laid BY PROGRAM, IN A SANDBOX (cutbox-rows.mjs): the forced cells as the released guide's own fill.sh prints them over the translation 1324e36ca8f6b819… (all of the seat's roots in one cut). By AI agents, Wed Nov 11 2026. No macro, syntax, notation, axiom, sorry.
-/
import Derived.Test.YtbejolinihbokaaChecked
import GoSem.Claim
import GoSem.ClaimJoined
import GoSem.ClaimMapViews
import Derived.JoinedTies
import Derived.KernelRfl
namespace Go.Proofs.Ytbejolinihbokaa
/- THE CELL 'sum', in the pinned program and in every row, IS THE sha256 OF THE DUMP (.gsa) THAT YtbejolinihbokaaProg.lean LOADS. Nothing in Lean hashes anything: it is a label: what it is worth is what the hold of that sum in a sandbox is worth. -/
noncomputable def Try.pinned : Pinned := { name := "ytbejolinihbokaa", sum := "1324e36ca8f6b81902ea16048797c8533e81062ee15fef2cd62944c3105d6230", checked := Try.checked }
namespace Rows
def none {H : Type} : Left H := { results := [], args := [] }

/-- 'laws.FnExactValidDeed': WHATEVER THE INPUT: true; the input reads as it did. -/
def fnExactValidDeedSpec : ChangeSpec := { name := "fnExactValidDeed", fn := fun _ => fun
  | [d] => { results := [.lit (.bool true)], args := [d] }
  | _ => none }
def fnExactValidDeedRow : OpenClaim := { program := "ytbejolinihbokaa", sum := "1324e36ca8f6b81902ea16048797c8533e81062ee15fef2cd62944c3105d6230", func := "loop.example/g01227/laws.FnExactValidDeed", spec := "fnExactValidDeed", apart := false }
def FnExactValidDeedSaid : Prop := fnExactValidDeedRow.holds Try.pinned (OpenSpec.ofChange fnExactValidDeedSpec)

/-- ITS FALSE NEIGHBOUR: 'it returns false'. Refute it at one input. -/
def fnExactValidDeedWrong : ChangeSpec := { name := "fnExactValidDeed", fn := fun _ => fun
  | [d] => { results := [.lit (.bool false)], args := [d] }
  | _ => none }
def FnExactValidDeedWrongFalsely : Prop := fnExactValidDeedRow.holds Try.pinned (OpenSpec.ofChange fnExactValidDeedWrong)

/-- 'laws.FnExactValidCentre': WHATEVER THE INPUT: true; the input reads as it did. -/
def fnExactValidCentreSpec : ChangeSpec := { name := "fnExactValidCentre", fn := fun _ => fun
  | [d] => { results := [.lit (.bool true)], args := [d] }
  | _ => none }
def fnExactValidCentreRow : OpenClaim := { program := "ytbejolinihbokaa", sum := "1324e36ca8f6b81902ea16048797c8533e81062ee15fef2cd62944c3105d6230", func := "loop.example/g01227/laws.FnExactValidCentre", spec := "fnExactValidCentre", unfollowed := true, recurses := true, apart := false }
def FnExactValidCentreSaid : Prop := fnExactValidCentreRow.holds Try.pinned (OpenSpec.ofChange fnExactValidCentreSpec)

/-- ITS FALSE NEIGHBOUR: 'it returns false'. Refute it at one input. -/
def fnExactValidCentreWrong : ChangeSpec := { name := "fnExactValidCentre", fn := fun _ => fun
  | [d] => { results := [.lit (.bool false)], args := [d] }
  | _ => none }
def FnExactValidCentreWrongFalsely : Prop := fnExactValidCentreRow.holds Try.pinned (OpenSpec.ofChange fnExactValidCentreWrong)

/-- 'laws.FnExactRefusedDeed': WHATEVER THE INPUT: true; the input reads as it did. -/
def fnExactRefusedDeedSpec : ChangeSpec := { name := "fnExactRefusedDeed", fn := fun _ => fun
  | [d1, d2] => { results := [.lit (.bool true)], args := [d1, d2] }
  | _ => none }
def fnExactRefusedDeedRow : OpenClaim := { program := "ytbejolinihbokaa", sum := "1324e36ca8f6b81902ea16048797c8533e81062ee15fef2cd62944c3105d6230", func := "loop.example/g01227/laws.FnExactRefusedDeed", spec := "fnExactRefusedDeed", unfollowed := true, recurses := true, apart := false }
def FnExactRefusedDeedSaid : Prop := fnExactRefusedDeedRow.holds Try.pinned (OpenSpec.ofChange fnExactRefusedDeedSpec)

/-- ITS FALSE NEIGHBOUR: 'it returns false'. Refute it at one input. -/
def fnExactRefusedDeedWrong : ChangeSpec := { name := "fnExactRefusedDeed", fn := fun _ => fun
  | [d1, d2] => { results := [.lit (.bool false)], args := [d1, d2] }
  | _ => none }
def FnExactRefusedDeedWrongFalsely : Prop := fnExactRefusedDeedRow.holds Try.pinned (OpenSpec.ofChange fnExactRefusedDeedWrong)

/-- 'laws.FnExactPostAfter': WHATEVER THE INPUT: true; the input reads as it did. -/
def fnExactPostAfterSpec : ChangeSpec := { name := "fnExactPostAfter", fn := fun _ => fun
  | [d1, d2, d3] => { results := [.lit (.bool true)], args := [d1, d2, d3] }
  | _ => none }
def fnExactPostAfterRow : OpenClaim := { program := "ytbejolinihbokaa", sum := "1324e36ca8f6b81902ea16048797c8533e81062ee15fef2cd62944c3105d6230", func := "loop.example/g01227/laws.FnExactPostAfter", spec := "fnExactPostAfter", unfollowed := true, recurses := true, apart := false }
def FnExactPostAfterSaid : Prop := fnExactPostAfterRow.holds Try.pinned (OpenSpec.ofChange fnExactPostAfterSpec)

/-- ITS FALSE NEIGHBOUR: 'it returns false'. Refute it at one input. -/
def fnExactPostAfterWrong : ChangeSpec := { name := "fnExactPostAfter", fn := fun _ => fun
  | [d1, d2, d3] => { results := [.lit (.bool false)], args := [d1, d2, d3] }
  | _ => none }
def FnExactPostAfterWrongFalsely : Prop := fnExactPostAfterRow.holds Try.pinned (OpenSpec.ofChange fnExactPostAfterWrong)

/-- 'laws.FnExactIsAgreed': WHATEVER THE INPUT: true; the input reads as it did. -/
def fnExactIsAgreedSpec : ChangeSpec := { name := "fnExactIsAgreed", fn := fun _ => fun
  | [d1, d2] => { results := [.lit (.bool true)], args := [d1, d2] }
  | _ => none }
def fnExactIsAgreedRow : OpenClaim := { program := "ytbejolinihbokaa", sum := "1324e36ca8f6b81902ea16048797c8533e81062ee15fef2cd62944c3105d6230", func := "loop.example/g01227/laws.FnExactIsAgreed", spec := "fnExactIsAgreed", unfollowed := true, recurses := true, apart := false }
def FnExactIsAgreedSaid : Prop := fnExactIsAgreedRow.holds Try.pinned (OpenSpec.ofChange fnExactIsAgreedSpec)

/-- ITS FALSE NEIGHBOUR: 'it returns false'. Refute it at one input. -/
def fnExactIsAgreedWrong : ChangeSpec := { name := "fnExactIsAgreed", fn := fun _ => fun
  | [d1, d2] => { results := [.lit (.bool false)], args := [d1, d2] }
  | _ => none }
def FnExactIsAgreedWrongFalsely : Prop := fnExactIsAgreedRow.holds Try.pinned (OpenSpec.ofChange fnExactIsAgreedWrong)

/-- 'laws.FnExactLatePosts': WHATEVER THE INPUT: true; the input reads as it did. -/
def fnExactLatePostsSpec : ChangeSpec := { name := "fnExactLatePosts", fn := fun _ => fun
  | [d1, d2] => { results := [.lit (.bool true)], args := [d1, d2] }
  | _ => none }
def fnExactLatePostsRow : OpenClaim := { program := "ytbejolinihbokaa", sum := "1324e36ca8f6b81902ea16048797c8533e81062ee15fef2cd62944c3105d6230", func := "loop.example/g01227/laws.FnExactLatePosts", spec := "fnExactLatePosts", unfollowed := true, recurses := true, apart := false }
def FnExactLatePostsSaid : Prop := fnExactLatePostsRow.holds Try.pinned (OpenSpec.ofChange fnExactLatePostsSpec)

/-- ITS FALSE NEIGHBOUR: 'it returns false'. Refute it at one input. -/
def fnExactLatePostsWrong : ChangeSpec := { name := "fnExactLatePosts", fn := fun _ => fun
  | [d1, d2] => { results := [.lit (.bool false)], args := [d1, d2] }
  | _ => none }
def FnExactLatePostsWrongFalsely : Prop := fnExactLatePostsRow.holds Try.pinned (OpenSpec.ofChange fnExactLatePostsWrong)

/-- 'laws.FnExactFinishDeeds': WHATEVER THE INPUT: true; the input reads as it did. -/
def fnExactFinishDeedsSpec : ChangeSpec := { name := "fnExactFinishDeeds", fn := fun _ => fun
  | [d1, d2] => { results := [.lit (.bool true)], args := [d1, d2] }
  | _ => none }
def fnExactFinishDeedsRow : OpenClaim := { program := "ytbejolinihbokaa", sum := "1324e36ca8f6b81902ea16048797c8533e81062ee15fef2cd62944c3105d6230", func := "loop.example/g01227/laws.FnExactFinishDeeds", spec := "fnExactFinishDeeds", unfollowed := true, recurses := true, apart := false }
def FnExactFinishDeedsSaid : Prop := fnExactFinishDeedsRow.holds Try.pinned (OpenSpec.ofChange fnExactFinishDeedsSpec)

/-- ITS FALSE NEIGHBOUR: 'it returns false'. Refute it at one input. -/
def fnExactFinishDeedsWrong : ChangeSpec := { name := "fnExactFinishDeeds", fn := fun _ => fun
  | [d1, d2] => { results := [.lit (.bool false)], args := [d1, d2] }
  | _ => none }
def FnExactFinishDeedsWrongFalsely : Prop := fnExactFinishDeedsRow.holds Try.pinned (OpenSpec.ofChange fnExactFinishDeedsWrong)

/-- 'laws.FnExactBoardAfter': WHATEVER THE INPUT: true; the input reads as it did. -/
def fnExactBoardAfterSpec : ChangeSpec := { name := "fnExactBoardAfter", fn := fun _ => fun
  | [d1, d2] => { results := [.lit (.bool true)], args := [d1, d2] }
  | _ => none }
def fnExactBoardAfterRow : OpenClaim := { program := "ytbejolinihbokaa", sum := "1324e36ca8f6b81902ea16048797c8533e81062ee15fef2cd62944c3105d6230", func := "loop.example/g01227/laws.FnExactBoardAfter", spec := "fnExactBoardAfter", unfollowed := true, recurses := true, apart := false }
def FnExactBoardAfterSaid : Prop := fnExactBoardAfterRow.holds Try.pinned (OpenSpec.ofChange fnExactBoardAfterSpec)

/-- ITS FALSE NEIGHBOUR: 'it returns false'. Refute it at one input. -/
def fnExactBoardAfterWrong : ChangeSpec := { name := "fnExactBoardAfter", fn := fun _ => fun
  | [d1, d2] => { results := [.lit (.bool false)], args := [d1, d2] }
  | _ => none }
def FnExactBoardAfterWrongFalsely : Prop := fnExactBoardAfterRow.holds Try.pinned (OpenSpec.ofChange fnExactBoardAfterWrong)

/-- 'laws.FnBoards': WHATEVER THE INPUT: true; the input reads as it did. -/
def fnBoardsSpec : ChangeSpec := { name := "fnBoards", fn := fun _ => fun
  | [d1, d2] => { results := [.lit (.bool true)], args := [d1, d2] }
  | _ => none }
def fnBoardsRow : OpenClaim := { program := "ytbejolinihbokaa", sum := "1324e36ca8f6b81902ea16048797c8533e81062ee15fef2cd62944c3105d6230", func := "loop.example/g01227/laws.FnBoards", spec := "fnBoards", unfollowed := true, recurses := true, apart := false }
def FnBoardsSaid : Prop := fnBoardsRow.holds Try.pinned (OpenSpec.ofChange fnBoardsSpec)

/-- ITS FALSE NEIGHBOUR: 'it returns false'. Refute it at one input. -/
def fnBoardsWrong : ChangeSpec := { name := "fnBoards", fn := fun _ => fun
  | [d1, d2] => { results := [.lit (.bool false)], args := [d1, d2] }
  | _ => none }
def FnBoardsWrongFalsely : Prop := fnBoardsRow.holds Try.pinned (OpenSpec.ofChange fnBoardsWrong)

/- THE SECOND FORM. 'bulk': how many values and letters a reading holds, each counted each time it is reached (what is shared counts as often as it is met; a slice's spare places count too). A statement '..UptoSaid' is the law's where the arguments, and the package variables that the reading takes, are together of bulk at most 1048576: NARROWER than '..Said'. Prove '..Said' where nothing that the law and all that it calls make is longer than what came in: it says more and counts as full. Else prove '..UptoSaid'. A law counts once. -/
mutual
def uptoBulk {H : Type} : DataW H → Nat
  | .lit (.string bytes) => bytes.length + 1
  | .lit _ => 1
  | .nil => 1
  | .ptr d => uptoBulk d + 1
  | .slice elems spare => uptoBulkAll elems + uptoBulkAll spare + 1
  | .agg parts => uptoBulkAll parts + 1
  | .iface _ d => uptoBulk d + 1
  | .map entries => uptoBulkEntries entries + 1
  | .held _ => 1
def uptoBulkAll {H : Type} : List (DataW H) → Nat
  | [] => 0
  | d :: r => uptoBulk d + uptoBulkAll r
def uptoBulkEntries {H : Type} : List (Lit × DataW H) → Nat
  | [] => 0
  | x :: r => uptoBulkEntry x + uptoBulkEntries r
def uptoBulkEntry {H : Type} : Lit × DataW H → Nat
  | (.string bytes, d) => bytes.length + uptoBulk d + 1
  | (_, d) => uptoBulk d + 1
 end
def uptoSmall : (H : Type) → List (DataW H) → Bool := fun _ ds => decide (uptoBulkAll ds ≤ 1048576)
def OpenSpec.upto (s : _root_.Go.ChangeSpec) : _root_.Go.OpenSpec := { _root_.Go.OpenSpec.ofChange s with cond := some uptoSmall }

/-- 'laws.FnExactValidDeed', WHERE WHAT IT READS IS OF BULK AT MOST 1048576: true; the input reads as it did. -/
def fnExactValidDeedUptoRow : OpenClaim := { program := "ytbejolinihbokaa", sum := "1324e36ca8f6b81902ea16048797c8533e81062ee15fef2cd62944c3105d6230", func := "loop.example/g01227/laws.FnExactValidDeed", spec := "fnExactValidDeed", apart := false, narrowed := true }
def FnExactValidDeedUptoSaid : Prop := fnExactValidDeedUptoRow.holds Try.pinned (OpenSpec.upto fnExactValidDeedSpec)

/-- 'laws.FnExactValidCentre', WHERE WHAT IT READS IS OF BULK AT MOST 1048576: true; the input reads as it did. -/
def fnExactValidCentreUptoRow : OpenClaim := { program := "ytbejolinihbokaa", sum := "1324e36ca8f6b81902ea16048797c8533e81062ee15fef2cd62944c3105d6230", func := "loop.example/g01227/laws.FnExactValidCentre", spec := "fnExactValidCentre", unfollowed := true, recurses := true, apart := false, narrowed := true }
def FnExactValidCentreUptoSaid : Prop := fnExactValidCentreUptoRow.holds Try.pinned (OpenSpec.upto fnExactValidCentreSpec)

/-- 'laws.FnExactRefusedDeed', WHERE WHAT IT READS IS OF BULK AT MOST 1048576: true; the input reads as it did. -/
def fnExactRefusedDeedUptoRow : OpenClaim := { program := "ytbejolinihbokaa", sum := "1324e36ca8f6b81902ea16048797c8533e81062ee15fef2cd62944c3105d6230", func := "loop.example/g01227/laws.FnExactRefusedDeed", spec := "fnExactRefusedDeed", unfollowed := true, recurses := true, apart := false, narrowed := true }
def FnExactRefusedDeedUptoSaid : Prop := fnExactRefusedDeedUptoRow.holds Try.pinned (OpenSpec.upto fnExactRefusedDeedSpec)

/-- 'laws.FnExactPostAfter', WHERE WHAT IT READS IS OF BULK AT MOST 1048576: true; the input reads as it did. -/
def fnExactPostAfterUptoRow : OpenClaim := { program := "ytbejolinihbokaa", sum := "1324e36ca8f6b81902ea16048797c8533e81062ee15fef2cd62944c3105d6230", func := "loop.example/g01227/laws.FnExactPostAfter", spec := "fnExactPostAfter", unfollowed := true, recurses := true, apart := false, narrowed := true }
def FnExactPostAfterUptoSaid : Prop := fnExactPostAfterUptoRow.holds Try.pinned (OpenSpec.upto fnExactPostAfterSpec)

/-- 'laws.FnExactIsAgreed', WHERE WHAT IT READS IS OF BULK AT MOST 1048576: true; the input reads as it did. -/
def fnExactIsAgreedUptoRow : OpenClaim := { program := "ytbejolinihbokaa", sum := "1324e36ca8f6b81902ea16048797c8533e81062ee15fef2cd62944c3105d6230", func := "loop.example/g01227/laws.FnExactIsAgreed", spec := "fnExactIsAgreed", unfollowed := true, recurses := true, apart := false, narrowed := true }
def FnExactIsAgreedUptoSaid : Prop := fnExactIsAgreedUptoRow.holds Try.pinned (OpenSpec.upto fnExactIsAgreedSpec)

/-- 'laws.FnExactLatePosts', WHERE WHAT IT READS IS OF BULK AT MOST 1048576: true; the input reads as it did. -/
def fnExactLatePostsUptoRow : OpenClaim := { program := "ytbejolinihbokaa", sum := "1324e36ca8f6b81902ea16048797c8533e81062ee15fef2cd62944c3105d6230", func := "loop.example/g01227/laws.FnExactLatePosts", spec := "fnExactLatePosts", unfollowed := true, recurses := true, apart := false, narrowed := true }
def FnExactLatePostsUptoSaid : Prop := fnExactLatePostsUptoRow.holds Try.pinned (OpenSpec.upto fnExactLatePostsSpec)

/-- 'laws.FnExactFinishDeeds', WHERE WHAT IT READS IS OF BULK AT MOST 1048576: true; the input reads as it did. -/
def fnExactFinishDeedsUptoRow : OpenClaim := { program := "ytbejolinihbokaa", sum := "1324e36ca8f6b81902ea16048797c8533e81062ee15fef2cd62944c3105d6230", func := "loop.example/g01227/laws.FnExactFinishDeeds", spec := "fnExactFinishDeeds", unfollowed := true, recurses := true, apart := false, narrowed := true }
def FnExactFinishDeedsUptoSaid : Prop := fnExactFinishDeedsUptoRow.holds Try.pinned (OpenSpec.upto fnExactFinishDeedsSpec)

/-- 'laws.FnExactBoardAfter', WHERE WHAT IT READS IS OF BULK AT MOST 1048576: true; the input reads as it did. -/
def fnExactBoardAfterUptoRow : OpenClaim := { program := "ytbejolinihbokaa", sum := "1324e36ca8f6b81902ea16048797c8533e81062ee15fef2cd62944c3105d6230", func := "loop.example/g01227/laws.FnExactBoardAfter", spec := "fnExactBoardAfter", unfollowed := true, recurses := true, apart := false, narrowed := true }
def FnExactBoardAfterUptoSaid : Prop := fnExactBoardAfterUptoRow.holds Try.pinned (OpenSpec.upto fnExactBoardAfterSpec)

/-- 'laws.FnBoards', WHERE WHAT IT READS IS OF BULK AT MOST 1048576: true; the input reads as it did. -/
def fnBoardsUptoRow : OpenClaim := { program := "ytbejolinihbokaa", sum := "1324e36ca8f6b81902ea16048797c8533e81062ee15fef2cd62944c3105d6230", func := "loop.example/g01227/laws.FnBoards", spec := "fnBoards", unfollowed := true, recurses := true, apart := false, narrowed := true }
def FnBoardsUptoSaid : Prop := fnBoardsUptoRow.holds Try.pinned (OpenSpec.upto fnBoardsSpec)

end Rows
end Go.Proofs.Ytbejolinihbokaa
