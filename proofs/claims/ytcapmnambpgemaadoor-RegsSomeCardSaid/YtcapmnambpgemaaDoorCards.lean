/-
  DERIVED. GIVEN WITH THE SEED: THE CARDS: each row of YtcapmnambpgemaaDoorRows.lean that lists a variable, with what it lists TIED to the program's text (the seventh form; the later family's looks); each row that meets fmt, with fmt's text TOLD by the authors' own Lean function (tested against real Go, not proved from fmt's source: count such statements apart). THE CARD IS WHAT COUNTS. Prove the row's statement (the work); the ties are given (YtcapmnambpgemaaDoorTie.lean); close each card by the builder's one call (the guide's Derived/Test/ToyasCard.lean, 'card_holds'). Laid BY PROGRAM, IN A SANDBOX (cutbox-door.mjs). By AI agents, Wed Nov 11 2026. No macro, syntax, notation, axiom, sorry.
-/
import Derived.Test.YtcapmnambpgemaaDoorRows
import GoSem.ClaimSeven
namespace Go.Proofs.YtcapmnambpgemaaDoor
namespace Rows

/-- THE TIED CARD OF 'roebucklaw05.RegsNames'. -/
def regsNamesCard : Claim7 := { stood := { row := regsNamesRow, standIns := [], harness := (true, "16950dc2e72d3a6a8a68100741c7463f3107acfb013c1c80aa27127b70045997"), looks := true }, kinds := [], alts := [], laidByText := true, laidKinds := [.data, .data, .data, .data, .sentinel, .sentinel, .pinned], laidTests := true, laidLooks := .later }
def RegsNamesCardSaid : Prop := Claim7.holds Tryd.pinned (.plain (OpenSpec.ofChange regsNamesSpec)) regsNamesCard

/-- THE TIED CARD OF 'roebucklaw05.RegsKeep'. -/
def regsKeepCard : Claim7 := { stood := { row := regsKeepRow, standIns := [], harness := (true, "16950dc2e72d3a6a8a68100741c7463f3107acfb013c1c80aa27127b70045997"), looks := true }, kinds := [], alts := [], laidByText := true, laidKinds := [.data, .data, .data, .data, .sentinel, .sentinel, .pinned], laidTests := true, laidLooks := .later }
def RegsKeepCardSaid : Prop := Claim7.holds Tryd.pinned (.plain (OpenSpec.ofChange regsKeepSpec)) regsKeepCard

/-- THE TIED CARD OF 'roebucklaw05.RegsPlay'. -/
def regsPlayCard : Claim7 := { stood := { row := regsPlayRow, standIns := [], harness := (true, "16950dc2e72d3a6a8a68100741c7463f3107acfb013c1c80aa27127b70045997"), looks := true }, kinds := [], alts := [], laidByText := true, laidKinds := [.data, .data, .data, .data, .sentinel, .sentinel, .pinned], laidTests := true, laidLooks := .later }
def RegsPlayCardSaid : Prop := Claim7.holds Tryd.pinned (.plain (OpenSpec.ofChange regsPlaySpec)) regsPlayCard

/-- THE TIED CARD OF 'roebucklaw05.RegsSome'. -/
def regsSomeCard : Claim7 := { stood := { row := regsSomeRow, standIns := [], harness := (true, "16950dc2e72d3a6a8a68100741c7463f3107acfb013c1c80aa27127b70045997"), looks := true }, kinds := [], alts := [], laidByText := true, laidKinds := [.data, .data, .data, .data, .sentinel, .sentinel, .pinned], laidTests := true, laidLooks := .later }
def RegsSomeCardSaid : Prop := Claim7.holds Tryd.pinned (.plain (OpenSpec.ofChange regsSomeSpec)) regsSomeCard

/-- THE SECOND FORM's CARD OF 'roebucklaw05.RegsNames'. -/
def regsNamesUptoCard : Claim7 := { stood := { row := regsNamesUptoRow, standIns := [], harness := (true, "16950dc2e72d3a6a8a68100741c7463f3107acfb013c1c80aa27127b70045997"), looks := true }, kinds := [], alts := [], laidByText := true, laidKinds := [.data, .data, .data, .data, .sentinel, .sentinel, .pinned], laidTests := true, laidLooks := .later }
def RegsNamesUptoCardSaid : Prop := Claim7.holds Tryd.pinned (.plain (OpenSpec.upto regsNamesSpec)) regsNamesUptoCard

/-- THE SECOND FORM's CARD OF 'roebucklaw05.RegsKeep'. -/
def regsKeepUptoCard : Claim7 := { stood := { row := regsKeepUptoRow, standIns := [], harness := (true, "16950dc2e72d3a6a8a68100741c7463f3107acfb013c1c80aa27127b70045997"), looks := true }, kinds := [], alts := [], laidByText := true, laidKinds := [.data, .data, .data, .data, .sentinel, .sentinel, .pinned], laidTests := true, laidLooks := .later }
def RegsKeepUptoCardSaid : Prop := Claim7.holds Tryd.pinned (.plain (OpenSpec.upto regsKeepSpec)) regsKeepUptoCard

/-- THE SECOND FORM's CARD OF 'roebucklaw05.RegsPlay'. -/
def regsPlayUptoCard : Claim7 := { stood := { row := regsPlayUptoRow, standIns := [], harness := (true, "16950dc2e72d3a6a8a68100741c7463f3107acfb013c1c80aa27127b70045997"), looks := true }, kinds := [], alts := [], laidByText := true, laidKinds := [.data, .data, .data, .data, .sentinel, .sentinel, .pinned], laidTests := true, laidLooks := .later }
def RegsPlayUptoCardSaid : Prop := Claim7.holds Tryd.pinned (.plain (OpenSpec.upto regsPlaySpec)) regsPlayUptoCard

/-- THE SECOND FORM's CARD OF 'roebucklaw05.RegsSome'. -/
def regsSomeUptoCard : Claim7 := { stood := { row := regsSomeUptoRow, standIns := [], harness := (true, "16950dc2e72d3a6a8a68100741c7463f3107acfb013c1c80aa27127b70045997"), looks := true }, kinds := [], alts := [], laidByText := true, laidKinds := [.data, .data, .data, .data, .sentinel, .sentinel, .pinned], laidTests := true, laidLooks := .later }
def RegsSomeUptoCardSaid : Prop := Claim7.holds Tryd.pinned (.plain (OpenSpec.upto regsSomeSpec)) regsSomeUptoCard
end Rows
end Go.Proofs.YtcapmnambpgemaaDoor
