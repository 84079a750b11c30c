/-
  No cell of these rows narrows 'for every input' (looked for: loops, veiled, ifaces, maps, wideKeys, modest, calm, conditions, laid).
  DERIVED. THE GIVEN ROWS OF THIS SEAT. 4 by the template 'for every input the law returns true; each argument reads behind the call as it read before'; 0 by the template 'total and deterministic' (their statements: YtdhlpighdlnohaaGreatTotals.lean).
  GIVEN WITH THE SEED: the statements are not yours to turn. If you find one false, say at which input.
  Laid BY PROGRAM, IN A SANDBOX (cutbox-rows.mjs): the forced cells as the released guide's own fill.sh prints them over the translation cfa83e0da0e9d516… (all of the seat's roots in one cut). By AI agents, Wed Nov 11 2026. No macro, syntax, notation, axiom, sorry.
-/
import Derived.Test.YtdhlpighdlnohaaGreatChecked
import GoSem.Claim
import GoSem.ClaimJoined
import GoSem.ClaimMapViews
import Derived.JoinedTies
import Derived.KernelRfl
namespace Go.Proofs.YtdhlpighdlnohaaGreat
/- THE CELL 'sum', in the pinned program and in every row, IS THE sha256 OF THE DUMP (.gsa) THAT YtdhlpighdlnohaaGreatProg.lean LOADS. Nothing in Lean hashes anything: it is a label: what it is worth is what the hold of that sum in a sandbox is worth. -/
noncomputable def Tryz.pinned : Pinned := { name := "ytdhlpighdlnohaagreat", sum := "cfa83e0da0e9d516dda543c016e44e481aa13f7d1dfac6d2ae23086ac78be658", checked := Tryz.checked }
namespace Rows
def none {H : Type} : Left H := { results := [], args := [] }

/-- 'roebucklaw33.HartMay': WHATEVER THE INPUT: true; the input reads as it did. -/
def hartMaySpec : ChangeSpec := { name := "hartMay", fn := fun _ => fun
  | [d1, d2, d3, d4] => { results := [.lit (.bool true)], args := [d1, d2, d3, d4] }
  | _ => none }
def hartMayRow : OpenClaim := { program := "ytdhlpighdlnohaagreat", sum := "cfa83e0da0e9d516dda543c016e44e481aa13f7d1dfac6d2ae23086ac78be658", func := "roebuck/roebucklaw33.HartMay", spec := "hartMay", unfollowed := true, recurses := true, plainKeys := false, apart := false }
def HartMaySaid : Prop := hartMayRow.holds Tryz.pinned (OpenSpec.ofChange hartMaySpec)

/-- ITS FALSE NEIGHBOUR: 'it returns false'. Refute it at one input. -/
def hartMayWrong : ChangeSpec := { name := "hartMay", fn := fun _ => fun
  | [d1, d2, d3, d4] => { results := [.lit (.bool false)], args := [d1, d2, d3, d4] }
  | _ => none }
def HartMayWrongFalsely : Prop := hartMayRow.holds Tryz.pinned (OpenSpec.ofChange hartMayWrong)

/-- 'roebucklaw33.HartLinks': WHATEVER THE INPUT: true; the input reads as it did. -/
def hartLinksSpec : ChangeSpec := { name := "hartLinks", fn := fun _ => fun
  | [d1, d2, d3] => { results := [.lit (.bool true)], args := [d1, d2, d3] }
  | _ => none }
def hartLinksRow : OpenClaim := { program := "ytdhlpighdlnohaagreat", sum := "cfa83e0da0e9d516dda543c016e44e481aa13f7d1dfac6d2ae23086ac78be658", func := "roebuck/roebucklaw33.HartLinks", spec := "hartLinks", unfollowed := true, recurses := true, plainKeys := false, apart := false }
def HartLinksSaid : Prop := hartLinksRow.holds Tryz.pinned (OpenSpec.ofChange hartLinksSpec)

/-- ITS FALSE NEIGHBOUR: 'it returns false'. Refute it at one input. -/
def hartLinksWrong : ChangeSpec := { name := "hartLinks", fn := fun _ => fun
  | [d1, d2, d3] => { results := [.lit (.bool false)], args := [d1, d2, d3] }
  | _ => none }
def HartLinksWrongFalsely : Prop := hartLinksRow.holds Tryz.pinned (OpenSpec.ofChange hartLinksWrong)

/-- 'roebucklaw33.HartAsks': WHATEVER THE INPUT: true; the input reads as it did. -/
def hartAsksSpec : ChangeSpec := { name := "hartAsks", fn := fun _ => fun
  | [d1, d2, d3, d4] => { results := [.lit (.bool true)], args := [d1, d2, d3, d4] }
  | _ => none }
def hartAsksRow : OpenClaim := { program := "ytdhlpighdlnohaagreat", sum := "cfa83e0da0e9d516dda543c016e44e481aa13f7d1dfac6d2ae23086ac78be658", func := "roebuck/roebucklaw33.HartAsks", spec := "hartAsks", unfollowed := true, recurses := true, plainKeys := false, apart := false }
def HartAsksSaid : Prop := hartAsksRow.holds Tryz.pinned (OpenSpec.ofChange hartAsksSpec)

/-- ITS FALSE NEIGHBOUR: 'it returns false'. Refute it at one input. -/
def hartAsksWrong : ChangeSpec := { name := "hartAsks", fn := fun _ => fun
  | [d1, d2, d3, d4] => { results := [.lit (.bool false)], args := [d1, d2, d3, d4] }
  | _ => none }
def HartAsksWrongFalsely : Prop := hartAsksRow.holds Tryz.pinned (OpenSpec.ofChange hartAsksWrong)

/-- 'roebucklaw33.HartNone': WHATEVER THE INPUT: true; the input reads as it did. -/
def hartNoneSpec : ChangeSpec := { name := "hartNone", fn := fun _ => fun
  | [d1, d2, d3, d4] => { results := [.lit (.bool true)], args := [d1, d2, d3, d4] }
  | _ => none }
def hartNoneRow : OpenClaim := { program := "ytdhlpighdlnohaagreat", sum := "cfa83e0da0e9d516dda543c016e44e481aa13f7d1dfac6d2ae23086ac78be658", func := "roebuck/roebucklaw33.HartNone", spec := "hartNone", unfollowed := true, recurses := true, plainKeys := false, apart := false }
def HartNoneSaid : Prop := hartNoneRow.holds Tryz.pinned (OpenSpec.ofChange hartNoneSpec)

/-- ITS FALSE NEIGHBOUR: 'it returns false'. Refute it at one input. -/
def hartNoneWrong : ChangeSpec := { name := "hartNone", fn := fun _ => fun
  | [d1, d2, d3, d4] => { results := [.lit (.bool false)], args := [d1, d2, d3, d4] }
  | _ => none }
def HartNoneWrongFalsely : Prop := hartNoneRow.holds Tryz.pinned (OpenSpec.ofChange hartNoneWrong)

/- THE SECOND FORM. 'bulk': how many values and letters a reading holds, each counted each time it is reached (what is shared counts as often as it is met; a slice's spare places count too). A statement '..UptoSaid' is the law's where the arguments, and the package variables that the reading takes, are together of bulk at most 1048576: NARROWER than '..Said'. Prove '..Said' where nothing that the law and all that it calls make is longer than what came in: it says more and counts as full. Else prove '..UptoSaid'. A law counts once. -/
mutual
def uptoBulk {H : Type} : DataW H → Nat
  | .lit (.string bytes) => bytes.length + 1
  | .lit _ => 1
  | .nil => 1
  | .ptr d => uptoBulk d + 1
  | .slice elems spare => uptoBulkAll elems + uptoBulkAll spare + 1
  | .agg parts => uptoBulkAll parts + 1
  | .iface _ d => uptoBulk d + 1
  | .map entries => uptoBulkEntries entries + 1
  | .held _ => 1
def uptoBulkAll {H : Type} : List (DataW H) → Nat
  | [] => 0
  | d :: r => uptoBulk d + uptoBulkAll r
def uptoBulkEntries {H : Type} : List (Lit × DataW H) → Nat
  | [] => 0
  | x :: r => uptoBulkEntry x + uptoBulkEntries r
def uptoBulkEntry {H : Type} : Lit × DataW H → Nat
  | (.string bytes, d) => bytes.length + uptoBulk d + 1
  | (_, d) => uptoBulk d + 1
 end
def uptoSmall : (H : Type) → List (DataW H) → Bool := fun _ ds => decide (uptoBulkAll ds ≤ 1048576)
def OpenSpec.upto (s : _root_.Go.ChangeSpec) : _root_.Go.OpenSpec := { _root_.Go.OpenSpec.ofChange s with cond := some uptoSmall }

/-- 'roebucklaw33.HartMay', WHERE WHAT IT READS IS OF BULK AT MOST 1048576: true; the input reads as it did. -/
def hartMayUptoRow : OpenClaim := { program := "ytdhlpighdlnohaagreat", sum := "cfa83e0da0e9d516dda543c016e44e481aa13f7d1dfac6d2ae23086ac78be658", func := "roebuck/roebucklaw33.HartMay", spec := "hartMay", unfollowed := true, recurses := true, plainKeys := false, apart := false, narrowed := true }
def HartMayUptoSaid : Prop := hartMayUptoRow.holds Tryz.pinned (OpenSpec.upto hartMaySpec)

/-- 'roebucklaw33.HartLinks', WHERE WHAT IT READS IS OF BULK AT MOST 1048576: true; the input reads as it did. -/
def hartLinksUptoRow : OpenClaim := { program := "ytdhlpighdlnohaagreat", sum := "cfa83e0da0e9d516dda543c016e44e481aa13f7d1dfac6d2ae23086ac78be658", func := "roebuck/roebucklaw33.HartLinks", spec := "hartLinks", unfollowed := true, recurses := true, plainKeys := false, apart := false, narrowed := true }
def HartLinksUptoSaid : Prop := hartLinksUptoRow.holds Tryz.pinned (OpenSpec.upto hartLinksSpec)

/-- 'roebucklaw33.HartAsks', WHERE WHAT IT READS IS OF BULK AT MOST 1048576: true; the input reads as it did. -/
def hartAsksUptoRow : OpenClaim := { program := "ytdhlpighdlnohaagreat", sum := "cfa83e0da0e9d516dda543c016e44e481aa13f7d1dfac6d2ae23086ac78be658", func := "roebuck/roebucklaw33.HartAsks", spec := "hartAsks", unfollowed := true, recurses := true, plainKeys := false, apart := false, narrowed := true }
def HartAsksUptoSaid : Prop := hartAsksUptoRow.holds Tryz.pinned (OpenSpec.upto hartAsksSpec)

/-- 'roebucklaw33.HartNone', WHERE WHAT IT READS IS OF BULK AT MOST 1048576: true; the input reads as it did. -/
def hartNoneUptoRow : OpenClaim := { program := "ytdhlpighdlnohaagreat", sum := "cfa83e0da0e9d516dda543c016e44e481aa13f7d1dfac6d2ae23086ac78be658", func := "roebuck/roebucklaw33.HartNone", spec := "hartNone", unfollowed := true, recurses := true, plainKeys := false, apart := false, narrowed := true }
def HartNoneUptoSaid : Prop := hartNoneUptoRow.holds Tryz.pinned (OpenSpec.upto hartNoneSpec)

end Rows
end Go.Proofs.YtdhlpighdlnohaaGreat
