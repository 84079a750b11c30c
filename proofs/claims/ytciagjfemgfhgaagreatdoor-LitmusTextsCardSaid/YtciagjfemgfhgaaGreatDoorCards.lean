/-
  DERIVED. GIVEN WITH THE SEED: THE CARDS: each row of YtciagjfemgfhgaaGreatDoorRows.lean that lists a variable, with what it lists TIED to the program's text (the seventh form; the later family's looks); each row that meets fmt, with fmt's text TOLD by the authors' own Lean function (tested against real Go, not proved from fmt's source: count such statements apart). THE CARD IS WHAT COUNTS. Prove the row's statement (the work); the ties are given (YtciagjfemgfhgaaGreatDoorTie.lean); close each card by the builder's one call (the guide's Derived/Test/ToyasCard.lean, 'card_holds'). Laid BY PROGRAM, IN A SANDBOX (cutbox-door.mjs). By AI agents, Wed Nov 11 2026. No macro, syntax, notation, axiom, sorry.
-/
import Derived.Test.YtciagjfemgfhgaaGreatDoorRows
import GoSem.ClaimSeven
namespace Go.Proofs.YtciagjfemgfhgaaGreatDoor
namespace Rows

/-- THE TIED CARD OF 'roebucklaw43.LitmusTexts'. -/
def litmusTextsCard : Claim7 := { stood := { row := litmusTextsRow, standIns := [], harness := (true, "4c86425daaa42ac56637e6947dcb9984afb17a7898896ab5a37a5154f8dc6dfd"), looks := true }, kinds := [], alts := [], laidByText := true, laidKinds := [.data, .data, .data, .data, .sentinel, .sentinel, .pinned], laidTests := true, laidLooks := .later }
def LitmusTextsCardSaid : Prop := Claim7.holds Tryz.pinned (.plain (OpenSpec.ofChange litmusTextsSpec)) litmusTextsCard

/-- THE SECOND FORM's CARD OF 'roebucklaw43.LitmusTexts'. -/
def litmusTextsUptoCard : Claim7 := { stood := { row := litmusTextsUptoRow, standIns := [], harness := (true, "4c86425daaa42ac56637e6947dcb9984afb17a7898896ab5a37a5154f8dc6dfd"), looks := true }, kinds := [], alts := [], laidByText := true, laidKinds := [.data, .data, .data, .data, .sentinel, .sentinel, .pinned], laidTests := true, laidLooks := .later }
def LitmusTextsUptoCardSaid : Prop := Claim7.holds Tryz.pinned (.plain (OpenSpec.upto litmusTextsSpec)) litmusTextsUptoCard
end Rows
end Go.Proofs.YtciagjfemgfhgaaGreatDoor
