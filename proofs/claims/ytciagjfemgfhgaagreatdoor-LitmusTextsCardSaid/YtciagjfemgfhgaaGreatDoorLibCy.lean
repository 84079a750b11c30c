/-
  strings.Builder, beside what is known: a byte.
-/
import Derived.Test.YtciagjfemgfhgaaGreatDoorLibC
import Derived.Test.YtciagjfemgfhgaaGreatDoorLibBy
namespace Go.Proofs.YtciagjfemgfhgaaGreatDoor
set_option linter.unusedSimpArgs false
set_option linter.unusedVariables false
open Go Go.Mid Go.RowKit
attribute [local irreducible] mid
section
set_option maxHeartbeats 8000000
set_option maxRecDepth 10000
variable {h : Hp} {K : Value → Hp → Prop}
theorem Bds.wb {el : TypeId} {k : Hp} {b : Nat} {l : Str} (hv0 : liesAt Tryz.prog Tryz.prog.depth el (2 / Tryz.prog.cellsOf el) 0 54 1 = true) (w : Bds el k h b l) (x : UInt8) (hlen : l.length ≤ 2 ^ 30)
    (hk : ∀ h', Bds el k h' b (l ++ [x]) → K .nilIface h') : X Tryz.prog 19 #[.pointer (some ⟨b, 0, none⟩), byV x] h K := by
  obtain ⟨ob, h1, h2, h3, h4, h5⟩ := w
  refine writeByte_x hv0 b l x ob h1 hlen fun h' ob' hB ht => ?_
  have := ht.le h2 h3 h4
  exact hk h' ⟨ob', hB, this.1, h3, this.2, fun e => absurd (List.append_eq_nil_iff.1 e).2 (by simp)⟩
end
end Go.Proofs.YtciagjfemgfhgaaGreatDoor
