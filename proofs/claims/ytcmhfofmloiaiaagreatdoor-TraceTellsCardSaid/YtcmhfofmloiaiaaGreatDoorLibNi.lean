/-
  Numbers in digits: strconv.Itoa.
-/
import Derived.Test.YtcmhfofmloiaiaaGreatDoorLibN
namespace Go.Proofs.YtcmhfofmloiaiaaGreatDoor
set_option linter.unusedSimpArgs false
set_option linter.unusedVariables false
open Go Go.Mid Go.RowKit
attribute [local irreducible] mid
section
variable {h : Hp} {K : Value → Hp → Prop}
theorem itoaA_x (hp : Pow h) (n : Int) (h0 : -9223372036854775808 ≤ n) (h1 : n ≤ 9223372036854775807) (hk : K (.string (bs (Lib.itoa n))) h) : X Tryz.prog 33 #[.int .i64 n] h K :=
  X.ofGrow (fun w0 w s => Tryz.strconv_Itoa n h0 h1 w (hp.tab s)) hk
end
end Go.Proofs.YtcmhfofmloiaiaaGreatDoor
