/-
  No cell of these rows narrows 'for every input' (looked for: loops, veiled, ifaces, maps, wideKeys, modest, calm, conditions, laid).
  DERIVED. THE GIVEN ROWS OF THIS SEAT. 3 by the template 'for every input the law returns true; each argument reads behind the call as it read before'; 0 by the template 'total and deterministic' (their statements: YteapmakpbmmleaaTotals.lean).
  GIVEN WITH THE SEED: the statements are not yours to turn. If you find one false, say at which input.
  Laid BY PROGRAM, IN A SANDBOX (cutbox-rows.mjs): the forced cells as the released guide's own fill.sh prints them over the translation 6e2f9cf1c1021ca1… (all of the seat's roots in one cut). By AI agents, Wed Nov 11 2026. No macro, syntax, notation, axiom, sorry.
-/
import Derived.Test.YteapmakpbmmleaaChecked
import GoSem.Claim
import GoSem.ClaimJoined
import GoSem.ClaimMapViews
import Derived.JoinedTies
import Derived.KernelRfl
namespace Go.Proofs.Yteapmakpbmmleaa
/- THE CELL 'sum', in the pinned program and in every row, IS THE sha256 OF THE DUMP (.gsa) THAT YteapmakpbmmleaaProg.lean LOADS. Nothing in Lean hashes anything: it is a label: what it is worth is what the hold of that sum in a sandbox is worth. -/
noncomputable def Try.pinned : Pinned := { name := "yteapmakpbmmleaa", sum := "6e2f9cf1c1021ca1ac96b5dedbfff4ef3ee9ad6f352af30dc8ad9c800d1eea78", checked := Try.checked }
namespace Rows
def none {H : Type} : Left H := { results := [], args := [] }

/-- 'roebucklaw28.TlbForgets': WHATEVER THE INPUT: true; the input reads as it did. -/
def tlbForgetsSpec : ChangeSpec := { name := "tlbForgets", fn := fun _ => fun
  | [d1, d2, d3] => { results := [.lit (.bool true)], args := [d1, d2, d3] }
  | _ => none }
def tlbForgetsRow : OpenClaim := { program := "yteapmakpbmmleaa", sum := "6e2f9cf1c1021ca1ac96b5dedbfff4ef3ee9ad6f352af30dc8ad9c800d1eea78", func := "roebuck/roebucklaw28.TlbForgets", spec := "tlbForgets", unfollowed := true, recurses := true, plainKeys := false, apart := false }
def TlbForgetsSaid : Prop := tlbForgetsRow.holds Try.pinned (OpenSpec.ofChange tlbForgetsSpec)

/-- ITS FALSE NEIGHBOUR: 'it returns false'. Refute it at one input. -/
def tlbForgetsWrong : ChangeSpec := { name := "tlbForgets", fn := fun _ => fun
  | [d1, d2, d3] => { results := [.lit (.bool false)], args := [d1, d2, d3] }
  | _ => none }
def TlbForgetsWrongFalsely : Prop := tlbForgetsRow.holds Try.pinned (OpenSpec.ofChange tlbForgetsWrong)

/-- 'roebucklaw28.TlbPlays': WHATEVER THE INPUT: true; the input reads as it did. -/
def tlbPlaysSpec : ChangeSpec := { name := "tlbPlays", fn := fun _ => fun
  | [d1, d2, d3] => { results := [.lit (.bool true)], args := [d1, d2, d3] }
  | _ => none }
def tlbPlaysRow : OpenClaim := { program := "yteapmakpbmmleaa", sum := "6e2f9cf1c1021ca1ac96b5dedbfff4ef3ee9ad6f352af30dc8ad9c800d1eea78", func := "roebuck/roebucklaw28.TlbPlays", spec := "tlbPlays", unfollowed := true, recurses := true, plainKeys := false, apart := false }
def TlbPlaysSaid : Prop := tlbPlaysRow.holds Try.pinned (OpenSpec.ofChange tlbPlaysSpec)

/-- ITS FALSE NEIGHBOUR: 'it returns false'. Refute it at one input. -/
def tlbPlaysWrong : ChangeSpec := { name := "tlbPlays", fn := fun _ => fun
  | [d1, d2, d3] => { results := [.lit (.bool false)], args := [d1, d2, d3] }
  | _ => none }
def TlbPlaysWrongFalsely : Prop := tlbPlaysRow.holds Try.pinned (OpenSpec.ofChange tlbPlaysWrong)

/-- 'roebucklaw28.TlbNone': WHATEVER THE INPUT: true; the input reads as it did. -/
def tlbNoneSpec : ChangeSpec := { name := "tlbNone", fn := fun _ => fun
  | [d1, d2, d3] => { results := [.lit (.bool true)], args := [d1, d2, d3] }
  | _ => none }
def tlbNoneRow : OpenClaim := { program := "yteapmakpbmmleaa", sum := "6e2f9cf1c1021ca1ac96b5dedbfff4ef3ee9ad6f352af30dc8ad9c800d1eea78", func := "roebuck/roebucklaw28.TlbNone", spec := "tlbNone", unfollowed := true, recurses := true, plainKeys := false, apart := false }
def TlbNoneSaid : Prop := tlbNoneRow.holds Try.pinned (OpenSpec.ofChange tlbNoneSpec)

/-- ITS FALSE NEIGHBOUR: 'it returns false'. Refute it at one input. -/
def tlbNoneWrong : ChangeSpec := { name := "tlbNone", fn := fun _ => fun
  | [d1, d2, d3] => { results := [.lit (.bool false)], args := [d1, d2, d3] }
  | _ => none }
def TlbNoneWrongFalsely : Prop := tlbNoneRow.holds Try.pinned (OpenSpec.ofChange tlbNoneWrong)

/- THE SECOND FORM. 'bulk': how many values and letters a reading holds, each counted each time it is reached (what is shared counts as often as it is met; a slice's spare places count too). A statement '..UptoSaid' is the law's where the arguments, and the package variables that the reading takes, are together of bulk at most 1048576: NARROWER than '..Said'. Prove '..Said' where nothing that the law and all that it calls make is longer than what came in: it says more and counts as full. Else prove '..UptoSaid'. A law counts once. -/
mutual
def uptoBulk {H : Type} : DataW H → Nat
  | .lit (.string bytes) => bytes.length + 1
  | .lit _ => 1
  | .nil => 1
  | .ptr d => uptoBulk d + 1
  | .slice elems spare => uptoBulkAll elems + uptoBulkAll spare + 1
  | .agg parts => uptoBulkAll parts + 1
  | .iface _ d => uptoBulk d + 1
  | .map entries => uptoBulkEntries entries + 1
  | .held _ => 1
def uptoBulkAll {H : Type} : List (DataW H) → Nat
  | [] => 0
  | d :: r => uptoBulk d + uptoBulkAll r
def uptoBulkEntries {H : Type} : List (Lit × DataW H) → Nat
  | [] => 0
  | x :: r => uptoBulkEntry x + uptoBulkEntries r
def uptoBulkEntry {H : Type} : Lit × DataW H → Nat
  | (.string bytes, d) => bytes.length + uptoBulk d + 1
  | (_, d) => uptoBulk d + 1
 end
def uptoSmall : (H : Type) → List (DataW H) → Bool := fun _ ds => decide (uptoBulkAll ds ≤ 1048576)
def OpenSpec.upto (s : _root_.Go.ChangeSpec) : _root_.Go.OpenSpec := { _root_.Go.OpenSpec.ofChange s with cond := some uptoSmall }

/-- 'roebucklaw28.TlbForgets', WHERE WHAT IT READS IS OF BULK AT MOST 1048576: true; the input reads as it did. -/
def tlbForgetsUptoRow : OpenClaim := { program := "yteapmakpbmmleaa", sum := "6e2f9cf1c1021ca1ac96b5dedbfff4ef3ee9ad6f352af30dc8ad9c800d1eea78", func := "roebuck/roebucklaw28.TlbForgets", spec := "tlbForgets", unfollowed := true, recurses := true, plainKeys := false, apart := false, narrowed := true }
def TlbForgetsUptoSaid : Prop := tlbForgetsUptoRow.holds Try.pinned (OpenSpec.upto tlbForgetsSpec)

/-- 'roebucklaw28.TlbPlays', WHERE WHAT IT READS IS OF BULK AT MOST 1048576: true; the input reads as it did. -/
def tlbPlaysUptoRow : OpenClaim := { program := "yteapmakpbmmleaa", sum := "6e2f9cf1c1021ca1ac96b5dedbfff4ef3ee9ad6f352af30dc8ad9c800d1eea78", func := "roebuck/roebucklaw28.TlbPlays", spec := "tlbPlays", unfollowed := true, recurses := true, plainKeys := false, apart := false, narrowed := true }
def TlbPlaysUptoSaid : Prop := tlbPlaysUptoRow.holds Try.pinned (OpenSpec.upto tlbPlaysSpec)

/-- 'roebucklaw28.TlbNone', WHERE WHAT IT READS IS OF BULK AT MOST 1048576: true; the input reads as it did. -/
def tlbNoneUptoRow : OpenClaim := { program := "yteapmakpbmmleaa", sum := "6e2f9cf1c1021ca1ac96b5dedbfff4ef3ee9ad6f352af30dc8ad9c800d1eea78", func := "roebuck/roebucklaw28.TlbNone", spec := "tlbNone", unfollowed := true, recurses := true, plainKeys := false, apart := false, narrowed := true }
def TlbNoneUptoSaid : Prop := tlbNoneUptoRow.holds Try.pinned (OpenSpec.upto tlbNoneSpec)

end Rows
end Go.Proofs.Yteapmakpbmmleaa
