/-
  DERIVED. GIVEN WITH THE SEED: THE CARDS: each row of YtdhkjcdneidgaaaGreatDoorRows.lean that lists a variable, with what it lists TIED to the program's text (the seventh form; the later family's looks); each row that meets fmt, with fmt's text TOLD by the authors' own Lean function (tested against real Go, not proved from fmt's source: count such statements apart). THE CARD IS WHAT COUNTS. Prove the row's statement (the work); the ties are given (YtdhkjcdneidgaaaGreatDoorTie.lean); close each card by the builder's one call (the guide's Derived/Test/ToyasCard.lean, 'card_holds'). Laid BY PROGRAM, IN A SANDBOX (cutbox-door.mjs). By AI agents, Wed Nov 11 2026. No macro, syntax, notation, axiom, sorry.
-/
import Derived.Test.YtdhkjcdneidgaaaGreatDoorRows
import GoSem.ClaimSeven
namespace Go.Proofs.YtdhkjcdneidgaaaGreatDoor
namespace Rows

/-- THE TIED CARD OF 'roebucklaw38.ImageBuilds'. -/
def imageBuildsCard : Claim7 := { stood := { row := imageBuildsRow, standIns := [], harness := (true, "8e231140c02433453f5cd9fd0429359a2cd99540e7a24d429a4f3656d1b3571b"), looks := true }, kinds := [], alts := [], laidByText := true, laidKinds := [.data, .data, .data, .data, .sentinel, .sentinel, .pinned], laidTests := true, laidLooks := .later }
def ImageBuildsCardSaid : Prop := Claim7.holds Tryz.pinned (.plain (OpenSpec.ofChange imageBuildsSpec)) imageBuildsCard

/-- THE TIED CARD OF 'roebucklaw38.ImageTables'. -/
def imageTablesCard : Claim7 := { stood := { row := imageTablesRow, standIns := [], harness := (true, "8e231140c02433453f5cd9fd0429359a2cd99540e7a24d429a4f3656d1b3571b"), looks := true }, kinds := [], alts := [], laidByText := true, laidKinds := [.data, .data, .data, .data, .sentinel, .sentinel, .pinned], laidTests := true, laidLooks := .later }
def ImageTablesCardSaid : Prop := Claim7.holds Tryz.pinned (.plain (OpenSpec.ofChange imageTablesSpec)) imageTablesCard

/-- THE SECOND FORM's CARD OF 'roebucklaw38.ImageBuilds'. -/
def imageBuildsUptoCard : Claim7 := { stood := { row := imageBuildsUptoRow, standIns := [], harness := (true, "8e231140c02433453f5cd9fd0429359a2cd99540e7a24d429a4f3656d1b3571b"), looks := true }, kinds := [], alts := [], laidByText := true, laidKinds := [.data, .data, .data, .data, .sentinel, .sentinel, .pinned], laidTests := true, laidLooks := .later }
def ImageBuildsUptoCardSaid : Prop := Claim7.holds Tryz.pinned (.plain (OpenSpec.upto imageBuildsSpec)) imageBuildsUptoCard

/-- THE SECOND FORM's CARD OF 'roebucklaw38.ImageTables'. -/
def imageTablesUptoCard : Claim7 := { stood := { row := imageTablesUptoRow, standIns := [], harness := (true, "8e231140c02433453f5cd9fd0429359a2cd99540e7a24d429a4f3656d1b3571b"), looks := true }, kinds := [], alts := [], laidByText := true, laidKinds := [.data, .data, .data, .data, .sentinel, .sentinel, .pinned], laidTests := true, laidLooks := .later }
def ImageTablesUptoCardSaid : Prop := Claim7.holds Tryz.pinned (.plain (OpenSpec.upto imageTablesSpec)) imageTablesUptoCard
end Rows
end Go.Proofs.YtdhkjcdneidgaaaGreatDoor
