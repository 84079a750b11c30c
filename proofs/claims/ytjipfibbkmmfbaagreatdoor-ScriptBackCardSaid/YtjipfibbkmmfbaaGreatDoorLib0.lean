/-
  What every text over a seat's program begins with.
-/
import Derived.Test.YtjipfibbkmmfbaaGreatDoorMidW
import Derived.Test.YtjipfibbkmmfbaaGreatDoorProg
import Derived.KernelRfl
namespace Go.Proofs.YtjipfibbkmmfbaaGreatDoor
set_option linter.unusedSimpArgs false
set_option linter.unusedVariables false
open Go Go.Mid Go.RowKit
theorem mixed : Tryz.prog.follows .mixedOrders = true := by kernel_rfl
abbrev Str := List UInt8
theorem aggU : isAggT Tryz.prog 38 = some false := by kernel_rfl
theorem sizU : sizeT Tryz.prog 38 = some 1 := by kernel_rfl
theorem aggBo : isAggT Tryz.prog 4 = some false := by kernel_rfl
theorem sizBo : sizeT Tryz.prog 4 = some 1 := by kernel_rfl
theorem aggIn : isAggT Tryz.prog 3 = some false := by kernel_rfl
theorem sizIn : sizeT Tryz.prog 3 = some 1 := by kernel_rfl
theorem aggU8 : isAggT Tryz.prog 5 = some false := by kernel_rfl
theorem sizU8 : sizeT Tryz.prog 5 = some 1 := by kernel_rfl
end Go.Proofs.YtjipfibbkmmfbaaGreatDoor
