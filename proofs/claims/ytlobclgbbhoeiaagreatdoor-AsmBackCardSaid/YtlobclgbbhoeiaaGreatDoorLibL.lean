/-
  What the listed package variables tell: the table of powers of ten, strconv's errors.
-/
import Derived.Test.YtlobclgbbhoeiaaGreatDoorLibQ
import Derived.Test.YtlobclgbbhoeiaaGreatDoorLibV
import Derived.LaidMore
import Derived.LaidSub
import Derived.MakeChecks
import Derived.Lib.LaidTab
import Derived.Stop.LaidErr
namespace Go.Proofs.YtlobclgbbhoeiaaGreatDoor
set_option linter.unusedSimpArgs false
set_option linter.unusedVariables false
open Go Go.Mid Go.RowKit
attribute [local irreducible] mid
theorem errRow (u : TypeId) (h : Tryz.prog.typeName? 3 u = some "*errors.errorString") : u = 186 :=
  typeName_ptr_named (nm := "errors.errorString") (by rw [show "*" ++ "errors.errorString" = "*errors.errorString" by decide]; kernel_rfl) (by kernel_rfl) (by decide) u (by rw [show "*" ++ "errors.errorString" = "*errors.errorString" by decide]; exact h)
theorem sent_of {w : World} {l : List (String × DataW Unit)} {n : String} {g : Nat} {text : List UInt8} (hm : laidMetH Tryz.prog l w) (hl : l.filter (fun x => x.1 == n) = [(n, .iface "*errors.errorString" (.ptr (.agg [.lit (.string text)])))]) (hg : Tryz.prog.globalNamed n = some g) (ht : (Tryz.prog.globals[g]?).map (·.type) = some 55) : ∃ p, w.var? Tryz.prog n = some #[.iface 186 p] := by
  have h1 := laidMetH.filter (fun x => x.1 == n) hm
  rw [hl, MakeChecks.laidMetH_plain _ _ _ (by rfl)] at h1
  obtain ⟨a, s, h2, _⟩ := laid_sentinel h1 hg ht Tryz.underlying55 errRow Tryz.underlying186 Tryz.underlying188 rfl rfl Tryz.underlying9 (by kernel_rfl) (by kernel_rfl)
  exact ⟨_, h2⟩
theorem pow_of {w : World} {l : List (String × DataW Unit)} (hm : laidMetH Tryz.prog l w) (hl : l.filter (fun x => x.1 == "internal/strconv.uint64pow10") = [("internal/strconv.uint64pow10", Lib.tabData .u64 Lib.pow10Tab)]) : Pow (whole w) := by
  have h1 := laidMetH.filter (fun x => x.1 == "internal/strconv.uint64pow10") hm
  rw [hl, MakeChecks.laidMetH_plain _ _ _ (by decide +kernel)] at h1
  exact Pow.of (Lib.tabIs_of_head powG (t := (Tryz.prog.globals[0]?.map (·.type)).getD 0) (e := 41) (n := 20) (by kernel_rfl) (by kernel_rfl) (by kernel_rfl) (by kernel_rfl) (by kernel_rfl) h1)
end Go.Proofs.YtlobclgbbhoeiaaGreatDoor
