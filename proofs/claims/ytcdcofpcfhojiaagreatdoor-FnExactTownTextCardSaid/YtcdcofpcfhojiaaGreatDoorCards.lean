/-
  DERIVED. GIVEN WITH THE SEED: THE CARDS: each row of YtcdcofpcfhojiaaGreatDoorRows.lean that lists a variable, with what it lists TIED to the program's text (the seventh form; the later family's looks); each row that meets fmt, with fmt's text TOLD by the authors' own Lean function (tested against real Go, not proved from fmt's source: count such statements apart). THE CARD IS WHAT COUNTS. Prove the row's statement (the work); the ties are given (YtcdcofpcfhojiaaGreatDoorTie.lean); close each card by the builder's one call (the guide's Derived/Test/ToyasCard.lean, 'card_holds'). Laid BY PROGRAM, IN A SANDBOX (cutbox-door.mjs). By AI agents, Wed Nov 11 2026. No macro, syntax, notation, axiom, sorry.
-/
import Derived.Test.YtcdcofpcfhojiaaGreatDoorRows
import GoSem.ClaimSeven
namespace Go.Proofs.YtcdcofpcfhojiaaGreatDoor
namespace Rows

/-- THE TIED CARD OF 'laws.FnExactTownText'. -/
def fnExactTownTextCard : Claim7 := { stood := { row := fnExactTownTextRow, standIns := [], harness := (true, "798f8b674c0b289487f12b93d404cac1b416a2ef9e68f26ea5a7d3ca725cc548"), looks := true }, kinds := [], alts := [], laidByText := true, laidKinds := [.data, .data, .data], laidTests := true, laidLooks := .later }
def FnExactTownTextCardSaid : Prop := Claim7.holds Tryz.pinned (.plain (OpenSpec.ofChange fnExactTownTextSpec)) fnExactTownTextCard

/-- THE TIED CARD OF 'laws.FnExactReadTown'. -/
def fnExactReadTownCard : Claim7 := { stood := { row := fnExactReadTownRow, standIns := [], harness := (true, "798f8b674c0b289487f12b93d404cac1b416a2ef9e68f26ea5a7d3ca725cc548"), looks := true }, kinds := [], alts := [], laidByText := true, laidKinds := [.data, .data, .data, .data, .sentinel, .sentinel, .pinned], laidTests := true, laidLooks := .later }
def FnExactReadTownCardSaid : Prop := Claim7.holds Tryz.pinned (.plain (OpenSpec.ofChange fnExactReadTownSpec)) fnExactReadTownCard

/-- THE SECOND FORM's CARD OF 'laws.FnExactTownText'. -/
def fnExactTownTextUptoCard : Claim7 := { stood := { row := fnExactTownTextUptoRow, standIns := [], harness := (true, "798f8b674c0b289487f12b93d404cac1b416a2ef9e68f26ea5a7d3ca725cc548"), looks := true }, kinds := [], alts := [], laidByText := true, laidKinds := [.data, .data, .data], laidTests := true, laidLooks := .later }
def FnExactTownTextUptoCardSaid : Prop := Claim7.holds Tryz.pinned (.plain (OpenSpec.upto fnExactTownTextSpec)) fnExactTownTextUptoCard

/-- THE SECOND FORM's CARD OF 'laws.FnExactReadTown'. -/
def fnExactReadTownUptoCard : Claim7 := { stood := { row := fnExactReadTownUptoRow, standIns := [], harness := (true, "798f8b674c0b289487f12b93d404cac1b416a2ef9e68f26ea5a7d3ca725cc548"), looks := true }, kinds := [], alts := [], laidByText := true, laidKinds := [.data, .data, .data, .data, .sentinel, .sentinel, .pinned], laidTests := true, laidLooks := .later }
def FnExactReadTownUptoCardSaid : Prop := Claim7.holds Tryz.pinned (.plain (OpenSpec.upto fnExactReadTownSpec)) fnExactReadTownUptoCard
end Rows
end Go.Proofs.YtcdcofpcfhojiaaGreatDoor
