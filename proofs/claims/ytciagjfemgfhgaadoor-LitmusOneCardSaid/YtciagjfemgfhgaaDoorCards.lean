/-
  DERIVED. GIVEN WITH THE SEED: THE CARDS: each row of YtciagjfemgfhgaaDoorRows.lean that lists a variable, with what it lists TIED to the program's text (the seventh form; the later family's looks); each row that meets fmt, with fmt's text TOLD by the authors' own Lean function (tested against real Go, not proved from fmt's source: count such statements apart). THE CARD IS WHAT COUNTS. Prove the row's statement (the work); the ties are given (YtciagjfemgfhgaaDoorTie.lean); close each card by the builder's one call (the guide's Derived/Test/ToyasCard.lean, 'card_holds'). Laid BY PROGRAM, IN A SANDBOX (cutbox-door.mjs). By AI agents, Wed Nov 11 2026. No macro, syntax, notation, axiom, sorry.
-/
import Derived.Test.YtciagjfemgfhgaaDoorRows
import GoSem.ClaimSeven
namespace Go.Proofs.YtciagjfemgfhgaaDoor
namespace Rows

/-- THE TIED CARD OF 'roebucklaw43.LitmusOutcomes'. -/
def litmusOutcomesCard : Claim7 := { stood := { row := litmusOutcomesRow, standIns := [], harness := (true, "03c941a6053109b90ee8ab0b294f8a0207173d52797b9160bcd38a13b75c01af"), looks := false }, kinds := [], alts := [], laidByText := true, laidKinds := [.data, .data, .data], laidTests := true, laidLooks := .later }
def LitmusOutcomesCardSaid : Prop := Claim7.holds Tryd.pinned (.plain (OpenSpec.ofChange litmusOutcomesSpec)) litmusOutcomesCard

/-- THE TIED CARD OF 'roebucklaw43.LitmusOne'. -/
def litmusOneCard : Claim7 := { stood := { row := litmusOneRow, standIns := [], harness := (true, "03c941a6053109b90ee8ab0b294f8a0207173d52797b9160bcd38a13b75c01af"), looks := false }, kinds := [], alts := [], laidByText := true, laidKinds := [.data, .data, .data], laidTests := true, laidLooks := .later }
def LitmusOneCardSaid : Prop := Claim7.holds Tryd.pinned (.plain (OpenSpec.ofChange litmusOneSpec)) litmusOneCard

/-- THE SECOND FORM's CARD OF 'roebucklaw43.LitmusOutcomes'. -/
def litmusOutcomesUptoCard : Claim7 := { stood := { row := litmusOutcomesUptoRow, standIns := [], harness := (true, "03c941a6053109b90ee8ab0b294f8a0207173d52797b9160bcd38a13b75c01af"), looks := false }, kinds := [], alts := [], laidByText := true, laidKinds := [.data, .data, .data], laidTests := true, laidLooks := .later }
def LitmusOutcomesUptoCardSaid : Prop := Claim7.holds Tryd.pinned (.plain (OpenSpec.upto litmusOutcomesSpec)) litmusOutcomesUptoCard

/-- THE SECOND FORM's CARD OF 'roebucklaw43.LitmusOne'. -/
def litmusOneUptoCard : Claim7 := { stood := { row := litmusOneUptoRow, standIns := [], harness := (true, "03c941a6053109b90ee8ab0b294f8a0207173d52797b9160bcd38a13b75c01af"), looks := false }, kinds := [], alts := [], laidByText := true, laidKinds := [.data, .data, .data], laidTests := true, laidLooks := .later }
def LitmusOneUptoCardSaid : Prop := Claim7.holds Tryd.pinned (.plain (OpenSpec.upto litmusOneSpec)) litmusOneUptoCard
end Rows
end Go.Proofs.YtciagjfemgfhgaaDoor
