/-
  DERIVED. GIVEN WITH THE SEED: THE CARDS: each row of YtclbommhagmpdaaDoorRows.lean that lists a variable, with what it lists TIED to the program's text (the seventh form; the later family's looks); each row that meets fmt, with fmt's text TOLD by the authors' own Lean function (tested against real Go, not proved from fmt's source: count such statements apart). THE CARD IS WHAT COUNTS. Prove the row's statement (the work); the ties are given (YtclbommhagmpdaaDoorTie.lean); close each card by the builder's one call (the guide's Derived/Test/ToyasCard.lean, 'card_holds'). Laid BY PROGRAM, IN A SANDBOX (cutbox-door.mjs). By AI agents, Wed Nov 11 2026. No macro, syntax, notation, axiom, sorry.
-/
import Derived.Test.YtclbommhagmpdaaDoorRows
import GoSem.ClaimSeven
namespace Go.Proofs.YtclbommhagmpdaaDoor
namespace Rows

/-- THE TIED CARD OF 'roebucklaw46.TraceLines'. -/
def traceLinesCard : Claim7 := { stood := { row := traceLinesRow, standIns := [], harness := (true, "88d7782d79c5c21f9bebcc704f5234f9b406d83a90255999a752b3683e6f7ada"), looks := false }, kinds := [], alts := [], laidByText := true, laidKinds := [.data, .data, .data], laidTests := true, laidLooks := .later }
def TraceLinesCardSaid : Prop := Claim7.holds Tryd.pinned (.plain (OpenSpec.ofChange traceLinesSpec)) traceLinesCard

/-- THE TIED CARD OF 'roebucklaw36.ScriptRuns'. -/
def scriptRunsCard : Claim7 := { stood := { row := scriptRunsRow, standIns := [], harness := (true, "88d7782d79c5c21f9bebcc704f5234f9b406d83a90255999a752b3683e6f7ada"), looks := false }, kinds := [], alts := [], laidByText := true, laidKinds := [.data, .data, .data], laidTests := true, laidLooks := .later }
def ScriptRunsCardSaid : Prop := Claim7.holds Tryd.pinned (.plain (OpenSpec.ofChange scriptRunsSpec)) scriptRunsCard

/-- THE TIED CARD OF 'roebucklaw36.ScriptTexts'. -/
def scriptTextsCard : Claim7 := { stood := { row := scriptTextsRow, standIns := [], harness := (true, "88d7782d79c5c21f9bebcc704f5234f9b406d83a90255999a752b3683e6f7ada"), looks := false }, kinds := [], alts := [], laidByText := true, laidKinds := [.data, .data, .data], laidTests := true, laidLooks := .later }
def ScriptTextsCardSaid : Prop := Claim7.holds Tryd.pinned (.plain (OpenSpec.ofChange scriptTextsSpec)) scriptTextsCard

/-- THE TIED CARD OF 'roebucklaw43.LitmusOutcomes'. -/
def litmusOutcomesCard : Claim7 := { stood := { row := litmusOutcomesRow, standIns := [], harness := (true, "88d7782d79c5c21f9bebcc704f5234f9b406d83a90255999a752b3683e6f7ada"), looks := false }, kinds := [], alts := [], laidByText := true, laidKinds := [.data, .data, .data], laidTests := true, laidLooks := .later }
def LitmusOutcomesCardSaid : Prop := Claim7.holds Tryd.pinned (.plain (OpenSpec.ofChange litmusOutcomesSpec)) litmusOutcomesCard

/-- THE TIED CARD OF 'roebucklaw43.LitmusOne'. -/
def litmusOneCard : Claim7 := { stood := { row := litmusOneRow, standIns := [], harness := (true, "88d7782d79c5c21f9bebcc704f5234f9b406d83a90255999a752b3683e6f7ada"), looks := false }, kinds := [], alts := [], laidByText := true, laidKinds := [.data, .data, .data], laidTests := true, laidLooks := .later }
def LitmusOneCardSaid : Prop := Claim7.holds Tryd.pinned (.plain (OpenSpec.ofChange litmusOneSpec)) litmusOneCard

/-- THE SECOND FORM's CARD OF 'roebucklaw46.TraceLines'. -/
def traceLinesUptoCard : Claim7 := { stood := { row := traceLinesUptoRow, standIns := [], harness := (true, "88d7782d79c5c21f9bebcc704f5234f9b406d83a90255999a752b3683e6f7ada"), looks := false }, kinds := [], alts := [], laidByText := true, laidKinds := [.data, .data, .data], laidTests := true, laidLooks := .later }
def TraceLinesUptoCardSaid : Prop := Claim7.holds Tryd.pinned (.plain (OpenSpec.upto traceLinesSpec)) traceLinesUptoCard

/-- THE SECOND FORM's CARD OF 'roebucklaw36.ScriptRuns'. -/
def scriptRunsUptoCard : Claim7 := { stood := { row := scriptRunsUptoRow, standIns := [], harness := (true, "88d7782d79c5c21f9bebcc704f5234f9b406d83a90255999a752b3683e6f7ada"), looks := false }, kinds := [], alts := [], laidByText := true, laidKinds := [.data, .data, .data], laidTests := true, laidLooks := .later }
def ScriptRunsUptoCardSaid : Prop := Claim7.holds Tryd.pinned (.plain (OpenSpec.upto scriptRunsSpec)) scriptRunsUptoCard

/-- THE SECOND FORM's CARD OF 'roebucklaw36.ScriptTexts'. -/
def scriptTextsUptoCard : Claim7 := { stood := { row := scriptTextsUptoRow, standIns := [], harness := (true, "88d7782d79c5c21f9bebcc704f5234f9b406d83a90255999a752b3683e6f7ada"), looks := false }, kinds := [], alts := [], laidByText := true, laidKinds := [.data, .data, .data], laidTests := true, laidLooks := .later }
def ScriptTextsUptoCardSaid : Prop := Claim7.holds Tryd.pinned (.plain (OpenSpec.upto scriptTextsSpec)) scriptTextsUptoCard

/-- THE SECOND FORM's CARD OF 'roebucklaw43.LitmusOutcomes'. -/
def litmusOutcomesUptoCard : Claim7 := { stood := { row := litmusOutcomesUptoRow, standIns := [], harness := (true, "88d7782d79c5c21f9bebcc704f5234f9b406d83a90255999a752b3683e6f7ada"), looks := false }, kinds := [], alts := [], laidByText := true, laidKinds := [.data, .data, .data], laidTests := true, laidLooks := .later }
def LitmusOutcomesUptoCardSaid : Prop := Claim7.holds Tryd.pinned (.plain (OpenSpec.upto litmusOutcomesSpec)) litmusOutcomesUptoCard

/-- THE SECOND FORM's CARD OF 'roebucklaw43.LitmusOne'. -/
def litmusOneUptoCard : Claim7 := { stood := { row := litmusOneUptoRow, standIns := [], harness := (true, "88d7782d79c5c21f9bebcc704f5234f9b406d83a90255999a752b3683e6f7ada"), looks := false }, kinds := [], alts := [], laidByText := true, laidKinds := [.data, .data, .data], laidTests := true, laidLooks := .later }
def LitmusOneUptoCardSaid : Prop := Claim7.holds Tryd.pinned (.plain (OpenSpec.upto litmusOneSpec)) litmusOneUptoCard
end Rows
end Go.Proofs.YtclbommhagmpdaaDoor
