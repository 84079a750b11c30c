/-
  What every text over a seat's program begins with.
-/
import Derived.Test.YtciagjfemgfhgaaDoorMidW
import Derived.Test.YtciagjfemgfhgaaDoorProg
import Derived.KernelRfl
namespace Go.Proofs.YtciagjfemgfhgaaDoor
set_option linter.unusedSimpArgs false
set_option linter.unusedVariables false
open Go Go.Mid Go.RowKit
theorem mixed : Tryd.prog.follows .mixedOrders = true := by kernel_rfl
abbrev Str := List UInt8
theorem aggU : isAggT Tryd.prog 25 = some false := by kernel_rfl
theorem sizU : sizeT Tryd.prog 25 = some 1 := by kernel_rfl
theorem aggBo : isAggT Tryd.prog 4 = some false := by kernel_rfl
theorem sizBo : sizeT Tryd.prog 4 = some 1 := by kernel_rfl
theorem aggIn : isAggT Tryd.prog 3 = some false := by kernel_rfl
theorem sizIn : sizeT Tryd.prog 3 = some 1 := by kernel_rfl
theorem aggU8 : isAggT Tryd.prog 5 = some false := by kernel_rfl
theorem sizU8 : sizeT Tryd.prog 5 = some 1 := by kernel_rfl
end Go.Proofs.YtciagjfemgfhgaaDoor
