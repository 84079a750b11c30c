/-
  DERIVED. GIVEN WITH THE SEED: THE CARDS: each row of YtcmhfofmloiaiaaDoorRows.lean that lists a variable, with what it lists TIED to the program's text (the seventh form; the later family's looks); each row that meets fmt, with fmt's text TOLD by the authors' own Lean function (tested against real Go, not proved from fmt's source: count such statements apart). THE CARD IS WHAT COUNTS. Prove the row's statement (the work); the ties are given (YtcmhfofmloiaiaaDoorTie.lean); close each card by the builder's one call (the guide's Derived/Test/ToyasCard.lean, 'card_holds'). Laid BY PROGRAM, IN A SANDBOX (cutbox-door.mjs). By AI agents, Wed Nov 11 2026. No macro, syntax, notation, axiom, sorry.
-/
import Derived.Test.YtcmhfofmloiaiaaDoorRows
import GoSem.ClaimSeven
namespace Go.Proofs.YtcmhfofmloiaiaaDoor
namespace Rows

/-- THE TIED CARD OF 'roebucklaw46.TraceClashes'. -/
def traceClashesCard : Claim7 := { stood := { row := traceClashesRow, standIns := [], harness := (true, "8e6bbadd9428f32fa9a1f76ced0289e56c3d99f3a04287130c111f10f018eb9e"), looks := false }, kinds := [], alts := [], laidByText := true, laidKinds := [.data, .data, .data], laidTests := true, laidLooks := .later }
def TraceClashesCardSaid : Prop := Claim7.holds Tryd.pinned (.plain (OpenSpec.ofChange traceClashesSpec)) traceClashesCard

/-- THE SECOND FORM's CARD OF 'roebucklaw46.TraceClashes'. -/
def traceClashesUptoCard : Claim7 := { stood := { row := traceClashesUptoRow, standIns := [], harness := (true, "8e6bbadd9428f32fa9a1f76ced0289e56c3d99f3a04287130c111f10f018eb9e"), looks := false }, kinds := [], alts := [], laidByText := true, laidKinds := [.data, .data, .data], laidTests := true, laidLooks := .later }
def TraceClashesUptoCardSaid : Prop := Claim7.holds Tryd.pinned (.plain (OpenSpec.upto traceClashesSpec)) traceClashesUptoCard
end Rows
end Go.Proofs.YtcmhfofmloiaiaaDoor
