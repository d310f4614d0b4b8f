/-
  DERIVED. GIVEN WITH THE SEED: THE CARDS: each row of YtinnefdhocdmmaaDoorRows.lean that lists a variable, with what it lists TIED to the program's text (the seventh form; the later family's looks); each row that meets fmt, with fmt's text TOLD by the authors' own Lean function (tested against real Go, not proved from fmt's source: count such statements apart). THE CARD IS WHAT COUNTS. Prove the row's statement (the work); the ties are given (YtinnefdhocdmmaaDoorTie.lean); close each card by the builder's one call (the guide's Derived/Test/ToyasCard.lean, 'card_holds'). Laid BY PROGRAM, IN A SANDBOX (cutbox-door.mjs). By AI agents, Wed Nov 11 2026. No macro, syntax, notation, axiom, sorry.
-/
import Derived.Test.YtinnefdhocdmmaaDoorRows
import GoSem.ClaimSeven
namespace Go.Proofs.YtinnefdhocdmmaaDoor
namespace Rows

/-- THE TIED CARD OF 'laws.FnExactDeedText'. -/
def fnExactDeedTextCard : Claim7 := { stood := { row := fnExactDeedTextRow, standIns := [], harness := (true, "53617018e1551abeb48feb28f9595cdcb51d5694ad41ef72b8f78bb52819fe03"), looks := true }, kinds := [], alts := [], laidByText := true, laidKinds := [.data, .data, .data, .widerDeep], laidTests := true, laidLooks := .later }
def FnExactDeedTextCardSaid : Prop := Claim7.holds Tryd.pinned (.plain (OpenSpec.ofChange fnExactDeedTextSpec)) fnExactDeedTextCard

/-- THE TIED CARD OF 'laws.FnExactReadDeed'. -/
def fnExactReadDeedCard : Claim7 := { stood := { row := fnExactReadDeedRow, standIns := [], harness := (true, "53617018e1551abeb48feb28f9595cdcb51d5694ad41ef72b8f78bb52819fe03"), looks := true }, kinds := [], alts := [], laidByText := true, laidKinds := [.data, .data, .data, .data, .sentinel, .sentinel, .widerDeep, .pinned], laidTests := true, laidLooks := .later }
def FnExactReadDeedCardSaid : Prop := Claim7.holds Tryd.pinned (.plain (OpenSpec.ofChange fnExactReadDeedSpec)) fnExactReadDeedCard

/-- THE TIED CARD OF 'laws.FnExactActText'. -/
def fnExactActTextCard : Claim7 := { stood := { row := fnExactActTextRow, standIns := [], harness := (true, "53617018e1551abeb48feb28f9595cdcb51d5694ad41ef72b8f78bb52819fe03"), looks := true }, kinds := [], alts := [], laidByText := true, laidKinds := [.data, .data, .data, .widerDeep], laidTests := true, laidLooks := .later }
def FnExactActTextCardSaid : Prop := Claim7.holds Tryd.pinned (.plain (OpenSpec.ofChange fnExactActTextSpec)) fnExactActTextCard

/-- THE TIED CARD OF 'laws.FnExactCompileActs'. -/
def fnExactCompileActsCard : Claim7 := { stood := { row := fnExactCompileActsRow, standIns := [], harness := (true, "53617018e1551abeb48feb28f9595cdcb51d5694ad41ef72b8f78bb52819fe03"), looks := true }, kinds := [], alts := [], laidByText := true, laidKinds := [.data, .data, .data, .data, .sentinel, .sentinel, .widerDeep, .pinned], laidTests := true, laidLooks := .later }
def FnExactCompileActsCardSaid : Prop := Claim7.holds Tryd.pinned (.plain (OpenSpec.ofChange fnExactCompileActsSpec)) fnExactCompileActsCard

/-- THE SECOND FORM's CARD OF 'laws.FnExactDeedText'. -/
def fnExactDeedTextUptoCard : Claim7 := { stood := { row := fnExactDeedTextUptoRow, standIns := [], harness := (true, "53617018e1551abeb48feb28f9595cdcb51d5694ad41ef72b8f78bb52819fe03"), looks := true }, kinds := [], alts := [], laidByText := true, laidKinds := [.data, .data, .data, .widerDeep], laidTests := true, laidLooks := .later }
def FnExactDeedTextUptoCardSaid : Prop := Claim7.holds Tryd.pinned (.plain (OpenSpec.upto fnExactDeedTextSpec)) fnExactDeedTextUptoCard

/-- THE SECOND FORM's CARD OF 'laws.FnExactReadDeed'. -/
def fnExactReadDeedUptoCard : Claim7 := { stood := { row := fnExactReadDeedUptoRow, standIns := [], harness := (true, "53617018e1551abeb48feb28f9595cdcb51d5694ad41ef72b8f78bb52819fe03"), looks := true }, kinds := [], alts := [], laidByText := true, laidKinds := [.data, .data, .data, .data, .sentinel, .sentinel, .widerDeep, .pinned], laidTests := true, laidLooks := .later }
def FnExactReadDeedUptoCardSaid : Prop := Claim7.holds Tryd.pinned (.plain (OpenSpec.upto fnExactReadDeedSpec)) fnExactReadDeedUptoCard

/-- THE SECOND FORM's CARD OF 'laws.FnExactActText'. -/
def fnExactActTextUptoCard : Claim7 := { stood := { row := fnExactActTextUptoRow, standIns := [], harness := (true, "53617018e1551abeb48feb28f9595cdcb51d5694ad41ef72b8f78bb52819fe03"), looks := true }, kinds := [], alts := [], laidByText := true, laidKinds := [.data, .data, .data, .widerDeep], laidTests := true, laidLooks := .later }
def FnExactActTextUptoCardSaid : Prop := Claim7.holds Tryd.pinned (.plain (OpenSpec.upto fnExactActTextSpec)) fnExactActTextUptoCard

/-- THE SECOND FORM's CARD OF 'laws.FnExactCompileActs'. -/
def fnExactCompileActsUptoCard : Claim7 := { stood := { row := fnExactCompileActsUptoRow, standIns := [], harness := (true, "53617018e1551abeb48feb28f9595cdcb51d5694ad41ef72b8f78bb52819fe03"), looks := true }, kinds := [], alts := [], laidByText := true, laidKinds := [.data, .data, .data, .data, .sentinel, .sentinel, .widerDeep, .pinned], laidTests := true, laidLooks := .later }
def FnExactCompileActsUptoCardSaid : Prop := Claim7.holds Tryd.pinned (.plain (OpenSpec.upto fnExactCompileActsSpec)) fnExactCompileActsUptoCard
end Rows
end Go.Proofs.YtinnefdhocdmmaaDoor
