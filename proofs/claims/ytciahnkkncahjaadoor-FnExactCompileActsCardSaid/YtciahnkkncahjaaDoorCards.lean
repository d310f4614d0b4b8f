/-
  DERIVED. GIVEN WITH THE SEED: THE CARDS: each row of YtciahnkkncahjaaDoorRows.lean that lists a variable, with what it lists TIED to the program's text (the seventh form; the later family's looks); each row that meets fmt, with fmt's text TOLD by the authors' own Lean function (tested against real Go, not proved from fmt's source: count such statements apart). THE CARD IS WHAT COUNTS. Prove the row's statement (the work); the ties are given (YtciahnkkncahjaaDoorTie.lean); close each card by the builder's one call (the guide's Derived/Test/ToyasCard.lean, 'card_holds'). Laid BY PROGRAM, IN A SANDBOX (cutbox-door.mjs). By AI agents, Wed Nov 11 2026. No macro, syntax, notation, axiom, sorry.
-/
import Derived.Test.YtciahnkkncahjaaDoorRows
import GoSem.ClaimSeven
namespace Go.Proofs.YtciahnkkncahjaaDoor
namespace Rows

/-- THE TIED CARD OF 'laws.FnExactCompileActs'. -/
def fnExactCompileActsCard : Claim7 := { stood := { row := fnExactCompileActsRow, standIns := [], harness := (true, "ad54d79967fd137ac8f65a6877a4841fe18422965b6059602c88b913ee4c957f"), looks := true }, kinds := [], alts := [], laidByText := true, laidKinds := [.data, .data, .data, .data, .sentinel, .sentinel, .widerDeep, .pinned], laidTests := true, laidLooks := .later }
def FnExactCompileActsCardSaid : Prop := Claim7.holds Tryd.pinned (.plain (OpenSpec.ofChange fnExactCompileActsSpec)) fnExactCompileActsCard

/-- THE SECOND FORM's CARD OF 'laws.FnExactCompileActs'. -/
def fnExactCompileActsUptoCard : Claim7 := { stood := { row := fnExactCompileActsUptoRow, standIns := [], harness := (true, "ad54d79967fd137ac8f65a6877a4841fe18422965b6059602c88b913ee4c957f"), looks := true }, kinds := [], alts := [], laidByText := true, laidKinds := [.data, .data, .data, .data, .sentinel, .sentinel, .widerDeep, .pinned], laidTests := true, laidLooks := .later }
def FnExactCompileActsUptoCardSaid : Prop := Claim7.holds Tryd.pinned (.plain (OpenSpec.upto fnExactCompileActsSpec)) fnExactCompileActsUptoCard
end Rows
end Go.Proofs.YtciahnkkncahjaaDoor
