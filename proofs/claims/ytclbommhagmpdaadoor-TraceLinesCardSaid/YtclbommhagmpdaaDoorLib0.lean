/-
  What every text over a seat's program begins with.
-/
import Derived.Test.YtclbommhagmpdaaDoorMidW
import Derived.Test.YtclbommhagmpdaaDoorProg
import Derived.KernelRfl
namespace Go.Proofs.YtclbommhagmpdaaDoor
set_option linter.unusedSimpArgs false
set_option linter.unusedVariables false
open Go Go.Mid Go.RowKit
theorem mixed : Tryd.prog.follows .mixedOrders = true := by kernel_rfl
abbrev Str := List UInt8
end Go.Proofs.YtclbommhagmpdaaDoor
