/-
  Instructions as text: the ops' formats (printed by a program).
-/
import Derived.Test.YtlobclgbbhoeiaaGreatDoorAsZa
/-! Instructions as text: the ops' formats (printed by a program). -/
namespace Go.Proofs.YtlobclgbbhoeiaaGreatDoor
set_option linter.unusedSimpArgs false
set_option linter.unusedVariables false
open Go Go.Mid Go.RowKit
attribute [local irreducible] mid
def fmtL : List Nat := [0, 5, 5, 6, 2, 4, 4, 4, 4, 4, 4, 2, 2, 2, 2, 2, 2, 2, 3, 3, 3, 3, 2, 2, 2, 2, 2, 2, 7, 7, 7, 1, 1, 1, 1, 1, 1, 1, 1, 1, 1, 2, 8, 8, 8, 1, 1, 1, 1, 1, 2, 2, 13, 13, 1, 1, 1, 1, 1, 1, 1, 1, 1, 1, 1, 1, 1, 12, 11, 11, 11, 11, 11, 11, 11, 11, 11, 11, 12, 11, 11, 11, 11, 11, 11, 11, 11, 11, 11, 9, 9, 9, 10, 10, 10, 13, 13, 13, 14]
def fmtN (n : Int) : Nat := if 0 ≤ n ∧ n < 99 then fmtL.getD n.toNat 0 else 0
theorem fmt_lt : ∀ f ∈ fmtL, f < 15 := by decide
theorem fmtN_lt (n : Int) : fmtN n < 15 := by
  unfold fmtN
  split
  · rw [List.getD_eq_getElem?_getD]
    cases h : fmtL[n.toNat]? with
    | none => decide
    | some f => exact fmt_lt f (List.mem_of_getElem? h)
  · decide
section
set_option maxHeartbeats 8000000
set_option maxRecDepth 10000
variable {h : Hp} {K : Value → Hp → Prop} {E : List PanicEntry → Hp → Prop}
theorem fmt0_x (hk : K (.int .i64 0) h) : X Tryz.prog 24 #[.int .i64 0] h K := by
  refine fnv (args := _) mixed [] [] [] Tryz.func24 rfl (by kernel_rfl) ?_
  conv => whnf
  exact hk
theorem fmt1_x (hk : K (.int .i64 5) h) : X Tryz.prog 24 #[.int .i64 1] h K := by
  refine fnv (args := _) mixed [] [] [] Tryz.func24 rfl (by kernel_rfl) ?_
  conv => whnf
  exact hk
theorem fmt2_x (hk : K (.int .i64 5) h) : X Tryz.prog 24 #[.int .i64 2] h K := by
  refine fnv (args := _) mixed [] [] [] Tryz.func24 rfl (by kernel_rfl) ?_
  conv => whnf
  exact hk
theorem fmt3_x (hk : K (.int .i64 6) h) : X Tryz.prog 24 #[.int .i64 3] h K := by
  refine fnv (args := _) mixed [] [] [] Tryz.func24 rfl (by kernel_rfl) ?_
  conv => whnf
  exact hk
theorem fmt4_x (hk : K (.int .i64 2) h) : X Tryz.prog 24 #[.int .i64 4] h K := by
  refine fnv (args := _) mixed [] [] [] Tryz.func24 rfl (by kernel_rfl) ?_
  conv => whnf
  exact hk
theorem fmt5_x (hk : K (.int .i64 4) h) : X Tryz.prog 24 #[.int .i64 5] h K := by
  refine fnv (args := _) mixed [] [] [] Tryz.func24 rfl (by kernel_rfl) ?_
  conv => whnf
  exact hk
theorem fmt6_x (hk : K (.int .i64 4) h) : X Tryz.prog 24 #[.int .i64 6] h K := by
  refine fnv (args := _) mixed [] [] [] Tryz.func24 rfl (by kernel_rfl) ?_
  conv => whnf
  exact hk
theorem fmt7_x (hk : K (.int .i64 4) h) : X Tryz.prog 24 #[.int .i64 7] h K := by
  refine fnv (args := _) mixed [] [] [] Tryz.func24 rfl (by kernel_rfl) ?_
  conv => whnf
  exact hk
theorem fmt8_x (hk : K (.int .i64 4) h) : X Tryz.prog 24 #[.int .i64 8] h K := by
  refine fnv (args := _) mixed [] [] [] Tryz.func24 rfl (by kernel_rfl) ?_
  conv => whnf
  exact hk
theorem fmt9_x (hk : K (.int .i64 4) h) : X Tryz.prog 24 #[.int .i64 9] h K := by
  refine fnv (args := _) mixed [] [] [] Tryz.func24 rfl (by kernel_rfl) ?_
  conv => whnf
  exact hk
theorem fmt10_x (hk : K (.int .i64 4) h) : X Tryz.prog 24 #[.int .i64 10] h K := by
  refine fnv (args := _) mixed [] [] [] Tryz.func24 rfl (by kernel_rfl) ?_
  conv => whnf
  exact hk
theorem fmt11_x (hk : K (.int .i64 2) h) : X Tryz.prog 24 #[.int .i64 11] h K := by
  refine fnv (args := _) mixed [] [] [] Tryz.func24 rfl (by kernel_rfl) ?_
  conv => whnf
  exact hk
theorem fmt12_x (hk : K (.int .i64 2) h) : X Tryz.prog 24 #[.int .i64 12] h K := by
  refine fnv (args := _) mixed [] [] [] Tryz.func24 rfl (by kernel_rfl) ?_
  conv => whnf
  exact hk
theorem fmt13_x (hk : K (.int .i64 2) h) : X Tryz.prog 24 #[.int .i64 13] h K := by
  refine fnv (args := _) mixed [] [] [] Tryz.func24 rfl (by kernel_rfl) ?_
  conv => whnf
  exact hk
theorem fmt14_x (hk : K (.int .i64 2) h) : X Tryz.prog 24 #[.int .i64 14] h K := by
  refine fnv (args := _) mixed [] [] [] Tryz.func24 rfl (by kernel_rfl) ?_
  conv => whnf
  exact hk
theorem fmt15_x (hk : K (.int .i64 2) h) : X Tryz.prog 24 #[.int .i64 15] h K := by
  refine fnv (args := _) mixed [] [] [] Tryz.func24 rfl (by kernel_rfl) ?_
  conv => whnf
  exact hk
theorem fmt16_x (hk : K (.int .i64 2) h) : X Tryz.prog 24 #[.int .i64 16] h K := by
  refine fnv (args := _) mixed [] [] [] Tryz.func24 rfl (by kernel_rfl) ?_
  conv => whnf
  exact hk
theorem fmt17_x (hk : K (.int .i64 2) h) : X Tryz.prog 24 #[.int .i64 17] h K := by
  refine fnv (args := _) mixed [] [] [] Tryz.func24 rfl (by kernel_rfl) ?_
  conv => whnf
  exact hk
theorem fmt18_x (hk : K (.int .i64 3) h) : X Tryz.prog 24 #[.int .i64 18] h K := by
  refine fnv (args := _) mixed [] [] [] Tryz.func24 rfl (by kernel_rfl) ?_
  conv => whnf
  exact hk
theorem fmt19_x (hk : K (.int .i64 3) h) : X Tryz.prog 24 #[.int .i64 19] h K := by
  refine fnv (args := _) mixed [] [] [] Tryz.func24 rfl (by kernel_rfl) ?_
  conv => whnf
  exact hk
theorem fmt20_x (hk : K (.int .i64 3) h) : X Tryz.prog 24 #[.int .i64 20] h K := by
  refine fnv (args := _) mixed [] [] [] Tryz.func24 rfl (by kernel_rfl) ?_
  conv => whnf
  exact hk
theorem fmt21_x (hk : K (.int .i64 3) h) : X Tryz.prog 24 #[.int .i64 21] h K := by
  refine fnv (args := _) mixed [] [] [] Tryz.func24 rfl (by kernel_rfl) ?_
  conv => whnf
  exact hk
theorem fmt22_x (hk : K (.int .i64 2) h) : X Tryz.prog 24 #[.int .i64 22] h K := by
  refine fnv (args := _) mixed [] [] [] Tryz.func24 rfl (by kernel_rfl) ?_
  conv => whnf
  exact hk
theorem fmt23_x (hk : K (.int .i64 2) h) : X Tryz.prog 24 #[.int .i64 23] h K := by
  refine fnv (args := _) mixed [] [] [] Tryz.func24 rfl (by kernel_rfl) ?_
  conv => whnf
  exact hk
theorem fmt24_x (hk : K (.int .i64 2) h) : X Tryz.prog 24 #[.int .i64 24] h K := by
  refine fnv (args := _) mixed [] [] [] Tryz.func24 rfl (by kernel_rfl) ?_
  conv => whnf
  exact hk
theorem fmt25_x (hk : K (.int .i64 2) h) : X Tryz.prog 24 #[.int .i64 25] h K := by
  refine fnv (args := _) mixed [] [] [] Tryz.func24 rfl (by kernel_rfl) ?_
  conv => whnf
  exact hk
theorem fmt26_x (hk : K (.int .i64 2) h) : X Tryz.prog 24 #[.int .i64 26] h K := by
  refine fnv (args := _) mixed [] [] [] Tryz.func24 rfl (by kernel_rfl) ?_
  conv => whnf
  exact hk
theorem fmt27_x (hk : K (.int .i64 2) h) : X Tryz.prog 24 #[.int .i64 27] h K := by
  refine fnv (args := _) mixed [] [] [] Tryz.func24 rfl (by kernel_rfl) ?_
  conv => whnf
  exact hk
theorem fmt28_x (hk : K (.int .i64 7) h) : X Tryz.prog 24 #[.int .i64 28] h K := by
  refine fnv (args := _) mixed [] [] [] Tryz.func24 rfl (by kernel_rfl) ?_
  conv => whnf
  exact hk
theorem fmt29_x (hk : K (.int .i64 7) h) : X Tryz.prog 24 #[.int .i64 29] h K := by
  refine fnv (args := _) mixed [] [] [] Tryz.func24 rfl (by kernel_rfl) ?_
  conv => whnf
  exact hk
theorem fmt30_x (hk : K (.int .i64 7) h) : X Tryz.prog 24 #[.int .i64 30] h K := by
  refine fnv (args := _) mixed [] [] [] Tryz.func24 rfl (by kernel_rfl) ?_
  conv => whnf
  exact hk
theorem fmt31_x (hk : K (.int .i64 1) h) : X Tryz.prog 24 #[.int .i64 31] h K := by
  refine fnv (args := _) mixed [] [] [] Tryz.func24 rfl (by kernel_rfl) ?_
  conv => whnf
  exact hk
theorem fmt32_x (hk : K (.int .i64 1) h) : X Tryz.prog 24 #[.int .i64 32] h K := by
  refine fnv (args := _) mixed [] [] [] Tryz.func24 rfl (by kernel_rfl) ?_
  conv => whnf
  exact hk
theorem fmt33_x (hk : K (.int .i64 1) h) : X Tryz.prog 24 #[.int .i64 33] h K := by
  refine fnv (args := _) mixed [] [] [] Tryz.func24 rfl (by kernel_rfl) ?_
  conv => whnf
  exact hk
theorem fmt34_x (hk : K (.int .i64 1) h) : X Tryz.prog 24 #[.int .i64 34] h K := by
  refine fnv (args := _) mixed [] [] [] Tryz.func24 rfl (by kernel_rfl) ?_
  conv => whnf
  exact hk
theorem fmt35_x (hk : K (.int .i64 1) h) : X Tryz.prog 24 #[.int .i64 35] h K := by
  refine fnv (args := _) mixed [] [] [] Tryz.func24 rfl (by kernel_rfl) ?_
  conv => whnf
  exact hk
theorem fmt36_x (hk : K (.int .i64 1) h) : X Tryz.prog 24 #[.int .i64 36] h K := by
  refine fnv (args := _) mixed [] [] [] Tryz.func24 rfl (by kernel_rfl) ?_
  conv => whnf
  exact hk
theorem fmt37_x (hk : K (.int .i64 1) h) : X Tryz.prog 24 #[.int .i64 37] h K := by
  refine fnv (args := _) mixed [] [] [] Tryz.func24 rfl (by kernel_rfl) ?_
  conv => whnf
  exact hk
theorem fmt38_x (hk : K (.int .i64 1) h) : X Tryz.prog 24 #[.int .i64 38] h K := by
  refine fnv (args := _) mixed [] [] [] Tryz.func24 rfl (by kernel_rfl) ?_
  conv => whnf
  exact hk
theorem fmt39_x (hk : K (.int .i64 1) h) : X Tryz.prog 24 #[.int .i64 39] h K := by
  refine fnv (args := _) mixed [] [] [] Tryz.func24 rfl (by kernel_rfl) ?_
  conv => whnf
  exact hk
theorem fmt40_x (hk : K (.int .i64 1) h) : X Tryz.prog 24 #[.int .i64 40] h K := by
  refine fnv (args := _) mixed [] [] [] Tryz.func24 rfl (by kernel_rfl) ?_
  conv => whnf
  exact hk
theorem fmt41_x (hk : K (.int .i64 2) h) : X Tryz.prog 24 #[.int .i64 41] h K := by
  refine fnv (args := _) mixed [] [] [] Tryz.func24 rfl (by kernel_rfl) ?_
  conv => whnf
  exact hk
theorem fmt42_x (hk : K (.int .i64 8) h) : X Tryz.prog 24 #[.int .i64 42] h K := by
  refine fnv (args := _) mixed [] [] [] Tryz.func24 rfl (by kernel_rfl) ?_
  conv => whnf
  exact hk
theorem fmt43_x (hk : K (.int .i64 8) h) : X Tryz.prog 24 #[.int .i64 43] h K := by
  refine fnv (args := _) mixed [] [] [] Tryz.func24 rfl (by kernel_rfl) ?_
  conv => whnf
  exact hk
theorem fmt44_x (hk : K (.int .i64 8) h) : X Tryz.prog 24 #[.int .i64 44] h K := by
  refine fnv (args := _) mixed [] [] [] Tryz.func24 rfl (by kernel_rfl) ?_
  conv => whnf
  exact hk
theorem fmt45_x (hk : K (.int .i64 1) h) : X Tryz.prog 24 #[.int .i64 45] h K := by
  refine fnv (args := _) mixed [] [] [] Tryz.func24 rfl (by kernel_rfl) ?_
  conv => whnf
  exact hk
theorem fmt46_x (hk : K (.int .i64 1) h) : X Tryz.prog 24 #[.int .i64 46] h K := by
  refine fnv (args := _) mixed [] [] [] Tryz.func24 rfl (by kernel_rfl) ?_
  conv => whnf
  exact hk
theorem fmt47_x (hk : K (.int .i64 1) h) : X Tryz.prog 24 #[.int .i64 47] h K := by
  refine fnv (args := _) mixed [] [] [] Tryz.func24 rfl (by kernel_rfl) ?_
  conv => whnf
  exact hk
theorem fmt48_x (hk : K (.int .i64 1) h) : X Tryz.prog 24 #[.int .i64 48] h K := by
  refine fnv (args := _) mixed [] [] [] Tryz.func24 rfl (by kernel_rfl) ?_
  conv => whnf
  exact hk
theorem fmt49_x (hk : K (.int .i64 1) h) : X Tryz.prog 24 #[.int .i64 49] h K := by
  refine fnv (args := _) mixed [] [] [] Tryz.func24 rfl (by kernel_rfl) ?_
  conv => whnf
  exact hk
theorem fmt50_x (hk : K (.int .i64 2) h) : X Tryz.prog 24 #[.int .i64 50] h K := by
  refine fnv (args := _) mixed [] [] [] Tryz.func24 rfl (by kernel_rfl) ?_
  conv => whnf
  exact hk
theorem fmt51_x (hk : K (.int .i64 2) h) : X Tryz.prog 24 #[.int .i64 51] h K := by
  refine fnv (args := _) mixed [] [] [] Tryz.func24 rfl (by kernel_rfl) ?_
  conv => whnf
  exact hk
theorem fmt52_x (hk : K (.int .i64 13) h) : X Tryz.prog 24 #[.int .i64 52] h K := by
  refine fnv (args := _) mixed [] [] [] Tryz.func24 rfl (by kernel_rfl) ?_
  conv => whnf
  exact hk
theorem fmt53_x (hk : K (.int .i64 13) h) : X Tryz.prog 24 #[.int .i64 53] h K := by
  refine fnv (args := _) mixed [] [] [] Tryz.func24 rfl (by kernel_rfl) ?_
  conv => whnf
  exact hk
theorem fmt54_x (hk : K (.int .i64 1) h) : X Tryz.prog 24 #[.int .i64 54] h K := by
  refine fnv (args := _) mixed [] [] [] Tryz.func24 rfl (by kernel_rfl) ?_
  conv => whnf
  exact hk
theorem fmt55_x (hk : K (.int .i64 1) h) : X Tryz.prog 24 #[.int .i64 55] h K := by
  refine fnv (args := _) mixed [] [] [] Tryz.func24 rfl (by kernel_rfl) ?_
  conv => whnf
  exact hk
theorem fmt56_x (hk : K (.int .i64 1) h) : X Tryz.prog 24 #[.int .i64 56] h K := by
  refine fnv (args := _) mixed [] [] [] Tryz.func24 rfl (by kernel_rfl) ?_
  conv => whnf
  exact hk
theorem fmt57_x (hk : K (.int .i64 1) h) : X Tryz.prog 24 #[.int .i64 57] h K := by
  refine fnv (args := _) mixed [] [] [] Tryz.func24 rfl (by kernel_rfl) ?_
  conv => whnf
  exact hk
theorem fmt58_x (hk : K (.int .i64 1) h) : X Tryz.prog 24 #[.int .i64 58] h K := by
  refine fnv (args := _) mixed [] [] [] Tryz.func24 rfl (by kernel_rfl) ?_
  conv => whnf
  exact hk
theorem fmt59_x (hk : K (.int .i64 1) h) : X Tryz.prog 24 #[.int .i64 59] h K := by
  refine fnv (args := _) mixed [] [] [] Tryz.func24 rfl (by kernel_rfl) ?_
  conv => whnf
  exact hk
theorem fmt60_x (hk : K (.int .i64 1) h) : X Tryz.prog 24 #[.int .i64 60] h K := by
  refine fnv (args := _) mixed [] [] [] Tryz.func24 rfl (by kernel_rfl) ?_
  conv => whnf
  exact hk
theorem fmt61_x (hk : K (.int .i64 1) h) : X Tryz.prog 24 #[.int .i64 61] h K := by
  refine fnv (args := _) mixed [] [] [] Tryz.func24 rfl (by kernel_rfl) ?_
  conv => whnf
  exact hk
theorem fmt62_x (hk : K (.int .i64 1) h) : X Tryz.prog 24 #[.int .i64 62] h K := by
  refine fnv (args := _) mixed [] [] [] Tryz.func24 rfl (by kernel_rfl) ?_
  conv => whnf
  exact hk
theorem fmt63_x (hk : K (.int .i64 1) h) : X Tryz.prog 24 #[.int .i64 63] h K := by
  refine fnv (args := _) mixed [] [] [] Tryz.func24 rfl (by kernel_rfl) ?_
  conv => whnf
  exact hk
theorem fmt64_x (hk : K (.int .i64 1) h) : X Tryz.prog 24 #[.int .i64 64] h K := by
  refine fnv (args := _) mixed [] [] [] Tryz.func24 rfl (by kernel_rfl) ?_
  conv => whnf
  exact hk
theorem fmt65_x (hk : K (.int .i64 1) h) : X Tryz.prog 24 #[.int .i64 65] h K := by
  refine fnv (args := _) mixed [] [] [] Tryz.func24 rfl (by kernel_rfl) ?_
  conv => whnf
  exact hk
theorem fmt66_x (hk : K (.int .i64 1) h) : X Tryz.prog 24 #[.int .i64 66] h K := by
  refine fnv (args := _) mixed [] [] [] Tryz.func24 rfl (by kernel_rfl) ?_
  conv => whnf
  exact hk
theorem fmt67_x (hk : K (.int .i64 12) h) : X Tryz.prog 24 #[.int .i64 67] h K := by
  refine fnv (args := _) mixed [] [] [] Tryz.func24 rfl (by kernel_rfl) ?_
  conv => whnf
  exact hk
theorem fmt68_x (hk : K (.int .i64 11) h) : X Tryz.prog 24 #[.int .i64 68] h K := by
  refine fnv (args := _) mixed [] [] [] Tryz.func24 rfl (by kernel_rfl) ?_
  conv => whnf
  exact hk
theorem fmt69_x (hk : K (.int .i64 11) h) : X Tryz.prog 24 #[.int .i64 69] h K := by
  refine fnv (args := _) mixed [] [] [] Tryz.func24 rfl (by kernel_rfl) ?_
  conv => whnf
  exact hk
theorem fmt70_x (hk : K (.int .i64 11) h) : X Tryz.prog 24 #[.int .i64 70] h K := by
  refine fnv (args := _) mixed [] [] [] Tryz.func24 rfl (by kernel_rfl) ?_
  conv => whnf
  exact hk
theorem fmt71_x (hk : K (.int .i64 11) h) : X Tryz.prog 24 #[.int .i64 71] h K := by
  refine fnv (args := _) mixed [] [] [] Tryz.func24 rfl (by kernel_rfl) ?_
  conv => whnf
  exact hk
theorem fmt72_x (hk : K (.int .i64 11) h) : X Tryz.prog 24 #[.int .i64 72] h K := by
  refine fnv (args := _) mixed [] [] [] Tryz.func24 rfl (by kernel_rfl) ?_
  conv => whnf
  exact hk
theorem fmt73_x (hk : K (.int .i64 11) h) : X Tryz.prog 24 #[.int .i64 73] h K := by
  refine fnv (args := _) mixed [] [] [] Tryz.func24 rfl (by kernel_rfl) ?_
  conv => whnf
  exact hk
theorem fmt74_x (hk : K (.int .i64 11) h) : X Tryz.prog 24 #[.int .i64 74] h K := by
  refine fnv (args := _) mixed [] [] [] Tryz.func24 rfl (by kernel_rfl) ?_
  conv => whnf
  exact hk
theorem fmt75_x (hk : K (.int .i64 11) h) : X Tryz.prog 24 #[.int .i64 75] h K := by
  refine fnv (args := _) mixed [] [] [] Tryz.func24 rfl (by kernel_rfl) ?_
  conv => whnf
  exact hk
theorem fmt76_x (hk : K (.int .i64 11) h) : X Tryz.prog 24 #[.int .i64 76] h K := by
  refine fnv (args := _) mixed [] [] [] Tryz.func24 rfl (by kernel_rfl) ?_
  conv => whnf
  exact hk
theorem fmt77_x (hk : K (.int .i64 11) h) : X Tryz.prog 24 #[.int .i64 77] h K := by
  refine fnv (args := _) mixed [] [] [] Tryz.func24 rfl (by kernel_rfl) ?_
  conv => whnf
  exact hk
theorem fmt78_x (hk : K (.int .i64 12) h) : X Tryz.prog 24 #[.int .i64 78] h K := by
  refine fnv (args := _) mixed [] [] [] Tryz.func24 rfl (by kernel_rfl) ?_
  conv => whnf
  exact hk
theorem fmt79_x (hk : K (.int .i64 11) h) : X Tryz.prog 24 #[.int .i64 79] h K := by
  refine fnv (args := _) mixed [] [] [] Tryz.func24 rfl (by kernel_rfl) ?_
  conv => whnf
  exact hk
theorem fmt80_x (hk : K (.int .i64 11) h) : X Tryz.prog 24 #[.int .i64 80] h K := by
  refine fnv (args := _) mixed [] [] [] Tryz.func24 rfl (by kernel_rfl) ?_
  conv => whnf
  exact hk
theorem fmt81_x (hk : K (.int .i64 11) h) : X Tryz.prog 24 #[.int .i64 81] h K := by
  refine fnv (args := _) mixed [] [] [] Tryz.func24 rfl (by kernel_rfl) ?_
  conv => whnf
  exact hk
theorem fmt82_x (hk : K (.int .i64 11) h) : X Tryz.prog 24 #[.int .i64 82] h K := by
  refine fnv (args := _) mixed [] [] [] Tryz.func24 rfl (by kernel_rfl) ?_
  conv => whnf
  exact hk
theorem fmt83_x (hk : K (.int .i64 11) h) : X Tryz.prog 24 #[.int .i64 83] h K := by
  refine fnv (args := _) mixed [] [] [] Tryz.func24 rfl (by kernel_rfl) ?_
  conv => whnf
  exact hk
theorem fmt84_x (hk : K (.int .i64 11) h) : X Tryz.prog 24 #[.int .i64 84] h K := by
  refine fnv (args := _) mixed [] [] [] Tryz.func24 rfl (by kernel_rfl) ?_
  conv => whnf
  exact hk
theorem fmt85_x (hk : K (.int .i64 11) h) : X Tryz.prog 24 #[.int .i64 85] h K := by
  refine fnv (args := _) mixed [] [] [] Tryz.func24 rfl (by kernel_rfl) ?_
  conv => whnf
  exact hk
theorem fmt86_x (hk : K (.int .i64 11) h) : X Tryz.prog 24 #[.int .i64 86] h K := by
  refine fnv (args := _) mixed [] [] [] Tryz.func24 rfl (by kernel_rfl) ?_
  conv => whnf
  exact hk
theorem fmt87_x (hk : K (.int .i64 11) h) : X Tryz.prog 24 #[.int .i64 87] h K := by
  refine fnv (args := _) mixed [] [] [] Tryz.func24 rfl (by kernel_rfl) ?_
  conv => whnf
  exact hk
theorem fmt88_x (hk : K (.int .i64 11) h) : X Tryz.prog 24 #[.int .i64 88] h K := by
  refine fnv (args := _) mixed [] [] [] Tryz.func24 rfl (by kernel_rfl) ?_
  conv => whnf
  exact hk
theorem fmt89_x (hk : K (.int .i64 9) h) : X Tryz.prog 24 #[.int .i64 89] h K := by
  refine fnv (args := _) mixed [] [] [] Tryz.func24 rfl (by kernel_rfl) ?_
  conv => whnf
  exact hk
theorem fmt90_x (hk : K (.int .i64 9) h) : X Tryz.prog 24 #[.int .i64 90] h K := by
  refine fnv (args := _) mixed [] [] [] Tryz.func24 rfl (by kernel_rfl) ?_
  conv => whnf
  exact hk
theorem fmt91_x (hk : K (.int .i64 9) h) : X Tryz.prog 24 #[.int .i64 91] h K := by
  refine fnv (args := _) mixed [] [] [] Tryz.func24 rfl (by kernel_rfl) ?_
  conv => whnf
  exact hk
theorem fmt92_x (hk : K (.int .i64 10) h) : X Tryz.prog 24 #[.int .i64 92] h K := by
  refine fnv (args := _) mixed [] [] [] Tryz.func24 rfl (by kernel_rfl) ?_
  conv => whnf
  exact hk
theorem fmt93_x (hk : K (.int .i64 10) h) : X Tryz.prog 24 #[.int .i64 93] h K := by
  refine fnv (args := _) mixed [] [] [] Tryz.func24 rfl (by kernel_rfl) ?_
  conv => whnf
  exact hk
theorem fmt94_x (hk : K (.int .i64 10) h) : X Tryz.prog 24 #[.int .i64 94] h K := by
  refine fnv (args := _) mixed [] [] [] Tryz.func24 rfl (by kernel_rfl) ?_
  conv => whnf
  exact hk
theorem fmt95_x (hk : K (.int .i64 13) h) : X Tryz.prog 24 #[.int .i64 95] h K := by
  refine fnv (args := _) mixed [] [] [] Tryz.func24 rfl (by kernel_rfl) ?_
  conv => whnf
  exact hk
theorem fmt96_x (hk : K (.int .i64 13) h) : X Tryz.prog 24 #[.int .i64 96] h K := by
  refine fnv (args := _) mixed [] [] [] Tryz.func24 rfl (by kernel_rfl) ?_
  conv => whnf
  exact hk
theorem fmt97_x (hk : K (.int .i64 13) h) : X Tryz.prog 24 #[.int .i64 97] h K := by
  refine fnv (args := _) mixed [] [] [] Tryz.func24 rfl (by kernel_rfl) ?_
  conv => whnf
  exact hk
theorem fmt98_x (hk : K (.int .i64 14) h) : X Tryz.prog 24 #[.int .i64 98] h K := by
  refine fnv (args := _) mixed [] [] [] Tryz.func24 rfl (by kernel_rfl) ?_
  conv => whnf
  exact hk
theorem fmtO_x (n : Int) (hn : n < 1 ∨ 98 < n) (hk : K (.int .i64 0) h) : X Tryz.prog 24 #[.int .i64 n] h K := by
  refine fnv (args := _) mixed [] [] [] Tryz.func24 rfl (by kernel_rfl) ?_
  conv => whnf
  refine bsel_false ?_ ?_
  · simp; omega
  conv => whnf
  refine bsel_false ?_ ?_
  · simp; omega
  conv => whnf
  refine bsel_false ?_ ?_
  · simp; omega
  conv => whnf
  refine bsel_false ?_ ?_
  · simp; omega
  conv => whnf
  refine bsel_false ?_ ?_
  · simp; omega
  conv => whnf
  refine bsel_false ?_ ?_
  · simp; omega
  conv => whnf
  refine bsel_false ?_ ?_
  · simp; omega
  conv => whnf
  refine bsel_false ?_ ?_
  · simp; omega
  conv => whnf
  refine bsel_false ?_ ?_
  · simp; omega
  conv => whnf
  refine bsel_false ?_ ?_
  · simp; omega
  conv => whnf
  refine bsel_false ?_ ?_
  · simp; omega
  conv => whnf
  refine bsel_false ?_ ?_
  · simp; omega
  conv => whnf
  refine bsel_false ?_ ?_
  · simp; omega
  conv => whnf
  refine bsel_false ?_ ?_
  · simp; omega
  conv => whnf
  refine bsel_false ?_ ?_
  · simp; omega
  conv => whnf
  refine bsel_false ?_ ?_
  · simp; omega
  conv => whnf
  refine bsel_false ?_ ?_
  · simp; omega
  conv => whnf
  refine bsel_false ?_ ?_
  · simp; omega
  conv => whnf
  refine bsel_false ?_ ?_
  · simp; omega
  conv => whnf
  refine bsel_false ?_ ?_
  · simp; omega
  conv => whnf
  refine bsel_false ?_ ?_
  · simp; omega
  conv => whnf
  refine bsel_false ?_ ?_
  · simp; omega
  conv => whnf
  refine bsel_false ?_ ?_
  · simp; omega
  conv => whnf
  refine bsel_false ?_ ?_
  · simp; omega
  conv => whnf
  refine bsel_false ?_ ?_
  · simp; omega
  conv => whnf
  refine bsel_false ?_ ?_
  · simp; omega
  conv => whnf
  refine bsel_false ?_ ?_
  · simp; omega
  conv => whnf
  refine bsel_false ?_ ?_
  · simp; omega
  conv => whnf
  refine bsel_false ?_ ?_
  · simp; omega
  conv => whnf
  refine bsel_false ?_ ?_
  · simp; omega
  conv => whnf
  refine bsel_false ?_ ?_
  · simp; omega
  conv => whnf
  refine bsel_false ?_ ?_
  · simp; omega
  conv => whnf
  refine bsel_false ?_ ?_
  · simp; omega
  conv => whnf
  refine bsel_false ?_ ?_
  · simp; omega
  conv => whnf
  refine bsel_false ?_ ?_
  · simp; omega
  conv => whnf
  refine bsel_false ?_ ?_
  · simp; omega
  conv => whnf
  refine bsel_false ?_ ?_
  · simp; omega
  conv => whnf
  refine bsel_false ?_ ?_
  · simp; omega
  conv => whnf
  refine bsel_false ?_ ?_
  · simp; omega
  conv => whnf
  refine bsel_false ?_ ?_
  · simp; omega
  conv => whnf
  refine bsel_false ?_ ?_
  · simp; omega
  conv => whnf
  refine bsel_false ?_ ?_
  · simp; omega
  conv => whnf
  refine bsel_false ?_ ?_
  · simp; omega
  conv => whnf
  refine bsel_false ?_ ?_
  · simp; omega
  conv => whnf
  refine bsel_false ?_ ?_
  · simp; omega
  conv => whnf
  refine bsel_false ?_ ?_
  · simp; omega
  conv => whnf
  refine bsel_false ?_ ?_
  · simp; omega
  conv => whnf
  refine bsel_false ?_ ?_
  · simp; omega
  conv => whnf
  refine bsel_false ?_ ?_
  · simp; omega
  conv => whnf
  refine bsel_false ?_ ?_
  · simp; omega
  conv => whnf
  refine bsel_false ?_ ?_
  · simp; omega
  conv => whnf
  refine bsel_false ?_ ?_
  · simp; omega
  conv => whnf
  refine bsel_false ?_ ?_
  · simp; omega
  conv => whnf
  refine bsel_false ?_ ?_
  · simp; omega
  conv => whnf
  refine bsel_false ?_ ?_
  · simp; omega
  conv => whnf
  refine bsel_false ?_ ?_
  · simp; omega
  conv => whnf
  refine bsel_false ?_ ?_
  · simp; omega
  conv => whnf
  refine bsel_false ?_ ?_
  · simp; omega
  conv => whnf
  refine bsel_false ?_ ?_
  · simp; omega
  conv => whnf
  refine bsel_false ?_ ?_
  · simp; omega
  conv => whnf
  refine bsel_false ?_ ?_
  · simp; omega
  conv => whnf
  refine bsel_false ?_ ?_
  · simp; omega
  conv => whnf
  refine bsel_false ?_ ?_
  · simp; omega
  conv => whnf
  refine bsel_false ?_ ?_
  · simp; omega
  conv => whnf
  refine bsel_false ?_ ?_
  · simp; omega
  conv => whnf
  refine bsel_false ?_ ?_
  · simp; omega
  conv => whnf
  refine bsel_false ?_ ?_
  · simp; omega
  conv => whnf
  refine bsel_false ?_ ?_
  · simp; omega
  conv => whnf
  refine bsel_false ?_ ?_
  · simp; omega
  conv => whnf
  refine bsel_false ?_ ?_
  · simp; omega
  conv => whnf
  refine bsel_false ?_ ?_
  · simp; omega
  conv => whnf
  refine bsel_false ?_ ?_
  · simp; omega
  conv => whnf
  refine bsel_false ?_ ?_
  · simp; omega
  conv => whnf
  refine bsel_false ?_ ?_
  · simp; omega
  conv => whnf
  refine bsel_false ?_ ?_
  · simp; omega
  conv => whnf
  refine bsel_false ?_ ?_
  · simp; omega
  conv => whnf
  refine bsel_false ?_ ?_
  · simp; omega
  conv => whnf
  refine bsel_false ?_ ?_
  · simp; omega
  conv => whnf
  refine bsel_false ?_ ?_
  · simp; omega
  conv => whnf
  refine bsel_false ?_ ?_
  · simp; omega
  conv => whnf
  refine bsel_false ?_ ?_
  · simp; omega
  conv => whnf
  refine bsel_false ?_ ?_
  · simp; omega
  conv => whnf
  refine bsel_false ?_ ?_
  · simp; omega
  conv => whnf
  refine bsel_false ?_ ?_
  · simp; omega
  conv => whnf
  refine bsel_false ?_ ?_
  · simp; omega
  conv => whnf
  refine bsel_false ?_ ?_
  · simp; omega
  conv => whnf
  refine bsel_false ?_ ?_
  · simp; omega
  conv => whnf
  refine bsel_false ?_ ?_
  · simp; omega
  conv => whnf
  refine bsel_false ?_ ?_
  · simp; omega
  conv => whnf
  refine bsel_false ?_ ?_
  · simp; omega
  conv => whnf
  refine bsel_false ?_ ?_
  · simp; omega
  conv => whnf
  refine bsel_false ?_ ?_
  · simp; omega
  conv => whnf
  refine bsel_false ?_ ?_
  · simp; omega
  conv => whnf
  refine bsel_false ?_ ?_
  · simp; omega
  conv => whnf
  refine bsel_false ?_ ?_
  · simp; omega
  conv => whnf
  refine bsel_false ?_ ?_
  · simp; omega
  conv => whnf
  refine bsel_false ?_ ?_
  · simp; omega
  conv => whnf
  refine bsel_false ?_ ?_
  · simp; omega
  conv => whnf
  exact hk
theorem fmt_x (n : Int) (hk : K (.int .i64 (fmtN n)) h) : X Tryz.prog 24 #[.int .i64 n] h K := by
  by_cases hn : n < 1 ∨ 98 < n
  · refine fmtO_x n hn ?_
    have : fmtN n = 0 := by
      unfold fmtN
      split
      · rw [show n.toNat = 0 by omega]; rfl
      · rfl
    rw [this] at hk
    exact hk
  · obtain ⟨m, rfl⟩ : ∃ m : Nat, n = m := ⟨n.toNat, by omega⟩
    have hm : m < 99 := by omega
    match m, hm, hk with
    | 0, _, hk => exact fmt0_x hk
    | 1, _, hk => exact fmt1_x hk
    | 2, _, hk => exact fmt2_x hk
    | 3, _, hk => exact fmt3_x hk
    | 4, _, hk => exact fmt4_x hk
    | 5, _, hk => exact fmt5_x hk
    | 6, _, hk => exact fmt6_x hk
    | 7, _, hk => exact fmt7_x hk
    | 8, _, hk => exact fmt8_x hk
    | 9, _, hk => exact fmt9_x hk
    | 10, _, hk => exact fmt10_x hk
    | 11, _, hk => exact fmt11_x hk
    | 12, _, hk => exact fmt12_x hk
    | 13, _, hk => exact fmt13_x hk
    | 14, _, hk => exact fmt14_x hk
    | 15, _, hk => exact fmt15_x hk
    | 16, _, hk => exact fmt16_x hk
    | 17, _, hk => exact fmt17_x hk
    | 18, _, hk => exact fmt18_x hk
    | 19, _, hk => exact fmt19_x hk
    | 20, _, hk => exact fmt20_x hk
    | 21, _, hk => exact fmt21_x hk
    | 22, _, hk => exact fmt22_x hk
    | 23, _, hk => exact fmt23_x hk
    | 24, _, hk => exact fmt24_x hk
    | 25, _, hk => exact fmt25_x hk
    | 26, _, hk => exact fmt26_x hk
    | 27, _, hk => exact fmt27_x hk
    | 28, _, hk => exact fmt28_x hk
    | 29, _, hk => exact fmt29_x hk
    | 30, _, hk => exact fmt30_x hk
    | 31, _, hk => exact fmt31_x hk
    | 32, _, hk => exact fmt32_x hk
    | 33, _, hk => exact fmt33_x hk
    | 34, _, hk => exact fmt34_x hk
    | 35, _, hk => exact fmt35_x hk
    | 36, _, hk => exact fmt36_x hk
    | 37, _, hk => exact fmt37_x hk
    | 38, _, hk => exact fmt38_x hk
    | 39, _, hk => exact fmt39_x hk
    | 40, _, hk => exact fmt40_x hk
    | 41, _, hk => exact fmt41_x hk
    | 42, _, hk => exact fmt42_x hk
    | 43, _, hk => exact fmt43_x hk
    | 44, _, hk => exact fmt44_x hk
    | 45, _, hk => exact fmt45_x hk
    | 46, _, hk => exact fmt46_x hk
    | 47, _, hk => exact fmt47_x hk
    | 48, _, hk => exact fmt48_x hk
    | 49, _, hk => exact fmt49_x hk
    | 50, _, hk => exact fmt50_x hk
    | 51, _, hk => exact fmt51_x hk
    | 52, _, hk => exact fmt52_x hk
    | 53, _, hk => exact fmt53_x hk
    | 54, _, hk => exact fmt54_x hk
    | 55, _, hk => exact fmt55_x hk
    | 56, _, hk => exact fmt56_x hk
    | 57, _, hk => exact fmt57_x hk
    | 58, _, hk => exact fmt58_x hk
    | 59, _, hk => exact fmt59_x hk
    | 60, _, hk => exact fmt60_x hk
    | 61, _, hk => exact fmt61_x hk
    | 62, _, hk => exact fmt62_x hk
    | 63, _, hk => exact fmt63_x hk
    | 64, _, hk => exact fmt64_x hk
    | 65, _, hk => exact fmt65_x hk
    | 66, _, hk => exact fmt66_x hk
    | 67, _, hk => exact fmt67_x hk
    | 68, _, hk => exact fmt68_x hk
    | 69, _, hk => exact fmt69_x hk
    | 70, _, hk => exact fmt70_x hk
    | 71, _, hk => exact fmt71_x hk
    | 72, _, hk => exact fmt72_x hk
    | 73, _, hk => exact fmt73_x hk
    | 74, _, hk => exact fmt74_x hk
    | 75, _, hk => exact fmt75_x hk
    | 76, _, hk => exact fmt76_x hk
    | 77, _, hk => exact fmt77_x hk
    | 78, _, hk => exact fmt78_x hk
    | 79, _, hk => exact fmt79_x hk
    | 80, _, hk => exact fmt80_x hk
    | 81, _, hk => exact fmt81_x hk
    | 82, _, hk => exact fmt82_x hk
    | 83, _, hk => exact fmt83_x hk
    | 84, _, hk => exact fmt84_x hk
    | 85, _, hk => exact fmt85_x hk
    | 86, _, hk => exact fmt86_x hk
    | 87, _, hk => exact fmt87_x hk
    | 88, _, hk => exact fmt88_x hk
    | 89, _, hk => exact fmt89_x hk
    | 90, _, hk => exact fmt90_x hk
    | 91, _, hk => exact fmt91_x hk
    | 92, _, hk => exact fmt92_x hk
    | 93, _, hk => exact fmt93_x hk
    | 94, _, hk => exact fmt94_x hk
    | 95, _, hk => exact fmt95_x hk
    | 96, _, hk => exact fmt96_x hk
    | 97, _, hk => exact fmt97_x hk
    | 98, _, hk => exact fmt98_x hk
    | m + 99, hm, _ => exact absurd hm (by omega)
end
end Go.Proofs.YtlobclgbbhoeiaaGreatDoor
/-! Instructions as text: which fields a format has; which numbers fit (printed by a program). -/
namespace Go.Proofs.YtlobclgbbhoeiaaGreatDoor
set_option linter.unusedSimpArgs false
set_option linter.unusedVariables false
open Go Go.Mid Go.RowKit
attribute [local irreducible] mid
theorem wrapI (n : Int) (h1 : -9223372036854775808 ≤ n) (h2 : n ≤ 9223372036854775807) : IntKind.i64.wrap n = n := by
  simp [IntKind.wrap_i64]; omega
theorem andI1 (n : Int) : IntKind.i64.wrap ((BitVec.ofInt IntKind.i64.bits n &&& BitVec.ofInt IntKind.i64.bits 1).toNat : Int) = n % 2 := by
  have e : (BitVec.ofInt IntKind.i64.bits n &&& BitVec.ofInt IntKind.i64.bits 1).toNat = (n % 18446744073709551616).toNat % 2 := by
    show (BitVec.ofInt 64 n &&& BitVec.ofInt 64 1).toNat = _
    rw [BitVec.toNat_and, BitVec.toNat_ofInt, BitVec.toNat_ofInt]
    exact Nat.and_two_pow_sub_one_eq_mod (n % 18446744073709551616).toNat 1
  rw [e, wrapI _ (by omega) (by omega)]
  omega
theorem andI12 (n : Int) : IntKind.i64.wrap ((BitVec.ofInt IntKind.i64.bits n &&& BitVec.ofInt IntKind.i64.bits 4095).toNat : Int) = n % 4096 := by
  have e : (BitVec.ofInt IntKind.i64.bits n &&& BitVec.ofInt IntKind.i64.bits 4095).toNat = (n % 18446744073709551616).toNat % 4096 := by
    show (BitVec.ofInt 64 n &&& BitVec.ofInt 64 4095).toNat = _
    rw [BitVec.toNat_and, BitVec.toNat_ofInt, BitVec.toNat_ofInt]
    exact Nat.and_two_pow_sub_one_eq_mod (n % 18446744073709551616).toNat 12
  rw [e, wrapI _ (by omega) (by omega)]
  omega
def fieldsL : List (List Bool) := [[false, false, false, false, false, false], [true, true, true, false, false, false], [true, true, false, true, false, false], [false, true, true, true, false, false], [false, true, true, true, false, false], [true, false, false, true, false, false], [true, false, false, true, false, false], [true, true, false, true, false, false], [true, true, false, true, false, false], [true, true, false, false, true, false], [true, true, false, false, true, false], [true, true, true, false, false, true], [true, true, false, false, false, true], [false, false, false, false, false, false], [false, true, true, false, false, false]]
def fieldsV (f : Nat) : Value := .tuple ((fieldsL.getD f []).map Value.bool).toArray
def fitsN (f : Nat) (n : Int) : Bool := match f with
  | 2 | 3 => decide (-2048 ≤ n ∧ n ≤ 2047)
  | 4 => decide (-4096 ≤ n ∧ n ≤ 4095 ∧ n % 2 = 0)
  | 5 => decide (-2147483648 ≤ n ∧ n ≤ 2147483647 ∧ n % 4096 = 0)
  | 6 => decide (-1048576 ≤ n ∧ n < 1048576 ∧ n % 2 = 0)
  | 7 => decide (0 ≤ n ∧ n ≤ 63)
  | 8 => decide (0 ≤ n ∧ n ≤ 31)
  | _ => true
section
set_option maxHeartbeats 8000000
set_option maxRecDepth 10000
variable {h : Hp} {K : Value → Hp → Prop} {E : List PanicEntry → Hp → Prop}
theorem fields0_x (hk : K (.tuple #[.bool false, .bool false, .bool false, .bool false, .bool false, .bool false]) h) : X Tryz.prog 61 #[.int .i64 0] h K := by
  refine fnv (args := _) mixed [] [] [] Tryz.func61 rfl (by kernel_rfl) ?_
  conv => whnf
  exact hk
theorem fields1_x (hk : K (.tuple #[.bool true, .bool true, .bool true, .bool false, .bool false, .bool false]) h) : X Tryz.prog 61 #[.int .i64 1] h K := by
  refine fnv (args := _) mixed [] [] [] Tryz.func61 rfl (by kernel_rfl) ?_
  conv => whnf
  exact hk
theorem fields2_x (hk : K (.tuple #[.bool true, .bool true, .bool false, .bool true, .bool false, .bool false]) h) : X Tryz.prog 61 #[.int .i64 2] h K := by
  refine fnv (args := _) mixed [] [] [] Tryz.func61 rfl (by kernel_rfl) ?_
  conv => whnf
  exact hk
theorem fields3_x (hk : K (.tuple #[.bool false, .bool true, .bool true, .bool true, .bool false, .bool false]) h) : X Tryz.prog 61 #[.int .i64 3] h K := by
  refine fnv (args := _) mixed [] [] [] Tryz.func61 rfl (by kernel_rfl) ?_
  conv => whnf
  exact hk
theorem fields4_x (hk : K (.tuple #[.bool false, .bool true, .bool true, .bool true, .bool false, .bool false]) h) : X Tryz.prog 61 #[.int .i64 4] h K := by
  refine fnv (args := _) mixed [] [] [] Tryz.func61 rfl (by kernel_rfl) ?_
  conv => whnf
  exact hk
theorem fields5_x (hk : K (.tuple #[.bool true, .bool false, .bool false, .bool true, .bool false, .bool false]) h) : X Tryz.prog 61 #[.int .i64 5] h K := by
  refine fnv (args := _) mixed [] [] [] Tryz.func61 rfl (by kernel_rfl) ?_
  conv => whnf
  exact hk
theorem fields6_x (hk : K (.tuple #[.bool true, .bool false, .bool false, .bool true, .bool false, .bool false]) h) : X Tryz.prog 61 #[.int .i64 6] h K := by
  refine fnv (args := _) mixed [] [] [] Tryz.func61 rfl (by kernel_rfl) ?_
  conv => whnf
  exact hk
theorem fields7_x (hk : K (.tuple #[.bool true, .bool true, .bool false, .bool true, .bool false, .bool false]) h) : X Tryz.prog 61 #[.int .i64 7] h K := by
  refine fnv (args := _) mixed [] [] [] Tryz.func61 rfl (by kernel_rfl) ?_
  conv => whnf
  exact hk
theorem fields8_x (hk : K (.tuple #[.bool true, .bool true, .bool false, .bool true, .bool false, .bool false]) h) : X Tryz.prog 61 #[.int .i64 8] h K := by
  refine fnv (args := _) mixed [] [] [] Tryz.func61 rfl (by kernel_rfl) ?_
  conv => whnf
  exact hk
theorem fields9_x (hk : K (.tuple #[.bool true, .bool true, .bool false, .bool false, .bool true, .bool false]) h) : X Tryz.prog 61 #[.int .i64 9] h K := by
  refine fnv (args := _) mixed [] [] [] Tryz.func61 rfl (by kernel_rfl) ?_
  conv => whnf
  exact hk
theorem fields10_x (hk : K (.tuple #[.bool true, .bool true, .bool false, .bool false, .bool true, .bool false]) h) : X Tryz.prog 61 #[.int .i64 10] h K := by
  refine fnv (args := _) mixed [] [] [] Tryz.func61 rfl (by kernel_rfl) ?_
  conv => whnf
  exact hk
theorem fields11_x (hk : K (.tuple #[.bool true, .bool true, .bool true, .bool false, .bool false, .bool true]) h) : X Tryz.prog 61 #[.int .i64 11] h K := by
  refine fnv (args := _) mixed [] [] [] Tryz.func61 rfl (by kernel_rfl) ?_
  conv => whnf
  exact hk
theorem fields12_x (hk : K (.tuple #[.bool true, .bool true, .bool false, .bool false, .bool false, .bool true]) h) : X Tryz.prog 61 #[.int .i64 12] h K := by
  refine fnv (args := _) mixed [] [] [] Tryz.func61 rfl (by kernel_rfl) ?_
  conv => whnf
  exact hk
theorem fields13_x (hk : K (.tuple #[.bool false, .bool false, .bool false, .bool false, .bool false, .bool false]) h) : X Tryz.prog 61 #[.int .i64 13] h K := by
  refine fnv (args := _) mixed [] [] [] Tryz.func61 rfl (by kernel_rfl) ?_
  conv => whnf
  exact hk
theorem fields14_x (hk : K (.tuple #[.bool false, .bool true, .bool true, .bool false, .bool false, .bool false]) h) : X Tryz.prog 61 #[.int .i64 14] h K := by
  refine fnv (args := _) mixed [] [] [] Tryz.func61 rfl (by kernel_rfl) ?_
  conv => whnf
  exact hk
theorem fields_x (f : Nat) (hf : f < 15) (hk : K (fieldsV f) h) : X Tryz.prog 61 #[.int .i64 f] h K := by
  match f, hf, hk with
  | 0, _, hk => exact fields0_x hk
  | 1, _, hk => exact fields1_x hk
  | 2, _, hk => exact fields2_x hk
  | 3, _, hk => exact fields3_x hk
  | 4, _, hk => exact fields4_x hk
  | 5, _, hk => exact fields5_x hk
  | 6, _, hk => exact fields6_x hk
  | 7, _, hk => exact fields7_x hk
  | 8, _, hk => exact fields8_x hk
  | 9, _, hk => exact fields9_x hk
  | 10, _, hk => exact fields10_x hk
  | 11, _, hk => exact fields11_x hk
  | 12, _, hk => exact fields12_x hk
  | 13, _, hk => exact fields13_x hk
  | 14, _, hk => exact fields14_x hk
  | f + 15, hf, _ => exact absurd hf (by omega)
theorem fits0_x (n : Int) (h1 : -9223372036854775808 ≤ n) (h2 : n ≤ 9223372036854775807) (hk : K (.bool (fitsN 0 n)) h) : X Tryz.prog 62 #[.int .i64 0, .int .i64 n] h K := by
  refine fnv (args := _) mixed [] [] [] Tryz.func62 rfl (by kernel_rfl) ?_
  conv => whnf
  exact hk
theorem fits1_x (n : Int) (h1 : -9223372036854775808 ≤ n) (h2 : n ≤ 9223372036854775807) (hk : K (.bool (fitsN 1 n)) h) : X Tryz.prog 62 #[.int .i64 1, .int .i64 n] h K := by
  refine fnv (args := _) mixed [] [] [] Tryz.func62 rfl (by kernel_rfl) ?_
  conv => whnf
  exact hk
theorem fits2_x (n : Int) (h1 : -9223372036854775808 ≤ n) (h2 : n ≤ 9223372036854775807) (hk : K (.bool (fitsN 2 n)) h) : X Tryz.prog 62 #[.int .i64 2, .int .i64 n] h K := by
  unfold fitsN at hk
  refine fnv (args := _) mixed [] [] [] Tryz.func62 rfl (by kernel_rfl) ?_
  conv => whnf
  refine bsel_intro (fun q1 => ?_) (fun q1 => ?_) <;> try simp only [bsL] at q1
  · conv => whnf
    exact kq hk (bI (by rw [Bool.eq_iff_iff]; simp; omega))
  · conv => whnf
    exact kq hk (bI (by rw [Bool.eq_iff_iff]; simp; omega))
theorem fits3_x (n : Int) (h1 : -9223372036854775808 ≤ n) (h2 : n ≤ 9223372036854775807) (hk : K (.bool (fitsN 3 n)) h) : X Tryz.prog 62 #[.int .i64 3, .int .i64 n] h K := by
  unfold fitsN at hk
  refine fnv (args := _) mixed [] [] [] Tryz.func62 rfl (by kernel_rfl) ?_
  conv => whnf
  refine bsel_intro (fun q1 => ?_) (fun q1 => ?_) <;> try simp only [bsL] at q1
  · conv => whnf
    exact kq hk (bI (by rw [Bool.eq_iff_iff]; simp; omega))
  · conv => whnf
    exact kq hk (bI (by rw [Bool.eq_iff_iff]; simp; omega))
theorem fits4_x (n : Int) (h1 : -9223372036854775808 ≤ n) (h2 : n ≤ 9223372036854775807) (hk : K (.bool (fitsN 4 n)) h) : X Tryz.prog 62 #[.int .i64 4, .int .i64 n] h K := by
  unfold fitsN at hk
  refine fnv (args := _) mixed [] [] [] Tryz.func62 rfl (by kernel_rfl) ?_
  conv => whnf
  refine bsel_intro (fun q1 => ?_) (fun q1 => ?_) <;> try simp only [bsL] at q1
  · conv => whnf
    refine bsel_intro (fun q2 => ?_) (fun q2 => ?_) <;> try simp only [bsL] at q2
    · conv => whnf
      refine val_by (andI1 n) ?_
      conv => whnf
      exact kq hk (bI (by rw [Bool.eq_iff_iff]; simp; omega))
    · conv => whnf
      exact kq hk (bI (by rw [Bool.eq_iff_iff]; simp; omega))
  · conv => whnf
    exact kq hk (bI (by rw [Bool.eq_iff_iff]; simp; omega))
theorem fits5_x (n : Int) (h1 : -9223372036854775808 ≤ n) (h2 : n ≤ 9223372036854775807) (hk : K (.bool (fitsN 5 n)) h) : X Tryz.prog 62 #[.int .i64 5, .int .i64 n] h K := by
  unfold fitsN at hk
  have hw : -2147483648 ≤ IntKind.i32.wrap n ∧ IntKind.i32.wrap n ≤ 2147483647 ∧ (IntKind.i32.wrap n = n ↔ -2147483648 ≤ n ∧ n ≤ 2147483647) := by
    simp [IntKind.wrap_i32]; omega
  generalize hr : IntKind.i32.wrap n = r at hw
  refine fnv (args := _) mixed [] [] [] Tryz.func62 rfl (by kernel_rfl) ?_
  conv => whnf
  refine ov_by hr ?_
  conv => whnf
  refine ov_i64 (by omega) ?_
  conv => whnf
  refine bsel_intro (fun q1 => ?_) (fun q1 => ?_) <;> try simp only [bsL] at q1
  · conv => whnf
    refine val_by (andI12 n) ?_
    conv => whnf
    exact kq hk (bI (by rw [Bool.eq_iff_iff]; simp; omega))
  · conv => whnf
    exact kq hk (bI (by rw [Bool.eq_iff_iff]; simp; omega))
theorem fits6_x (n : Int) (h1 : -9223372036854775808 ≤ n) (h2 : n ≤ 9223372036854775807) (hk : K (.bool (fitsN 6 n)) h) : X Tryz.prog 62 #[.int .i64 6, .int .i64 n] h K := by
  unfold fitsN at hk
  refine fnv (args := _) mixed [] [] [] Tryz.func62 rfl (by kernel_rfl) ?_
  conv => whnf
  refine bsel_intro (fun q1 => ?_) (fun q1 => ?_) <;> try simp only [bsL] at q1
  · conv => whnf
    refine bsel_intro (fun q2 => ?_) (fun q2 => ?_) <;> try simp only [bsL] at q2
    · conv => whnf
      refine val_by (andI1 n) ?_
      conv => whnf
      exact kq hk (bI (by rw [Bool.eq_iff_iff]; simp; omega))
    · conv => whnf
      exact kq hk (bI (by rw [Bool.eq_iff_iff]; simp; omega))
  · conv => whnf
    exact kq hk (bI (by rw [Bool.eq_iff_iff]; simp; omega))
theorem fits7_x (n : Int) (h1 : -9223372036854775808 ≤ n) (h2 : n ≤ 9223372036854775807) (hk : K (.bool (fitsN 7 n)) h) : X Tryz.prog 62 #[.int .i64 7, .int .i64 n] h K := by
  unfold fitsN at hk
  refine fnv (args := _) mixed [] [] [] Tryz.func62 rfl (by kernel_rfl) ?_
  conv => whnf
  refine bsel_intro (fun q1 => ?_) (fun q1 => ?_) <;> try simp only [bsL] at q1
  · conv => whnf
    exact kq hk (bI (by rw [Bool.eq_iff_iff]; simp; omega))
  · conv => whnf
    exact kq hk (bI (by rw [Bool.eq_iff_iff]; simp; omega))
theorem fits8_x (n : Int) (h1 : -9223372036854775808 ≤ n) (h2 : n ≤ 9223372036854775807) (hk : K (.bool (fitsN 8 n)) h) : X Tryz.prog 62 #[.int .i64 8, .int .i64 n] h K := by
  unfold fitsN at hk
  refine fnv (args := _) mixed [] [] [] Tryz.func62 rfl (by kernel_rfl) ?_
  conv => whnf
  refine bsel_intro (fun q1 => ?_) (fun q1 => ?_) <;> try simp only [bsL] at q1
  · conv => whnf
    exact kq hk (bI (by rw [Bool.eq_iff_iff]; simp; omega))
  · conv => whnf
    exact kq hk (bI (by rw [Bool.eq_iff_iff]; simp; omega))
theorem fits9_x (n : Int) (h1 : -9223372036854775808 ≤ n) (h2 : n ≤ 9223372036854775807) (hk : K (.bool (fitsN 9 n)) h) : X Tryz.prog 62 #[.int .i64 9, .int .i64 n] h K := by
  refine fnv (args := _) mixed [] [] [] Tryz.func62 rfl (by kernel_rfl) ?_
  conv => whnf
  exact hk
theorem fits10_x (n : Int) (h1 : -9223372036854775808 ≤ n) (h2 : n ≤ 9223372036854775807) (hk : K (.bool (fitsN 10 n)) h) : X Tryz.prog 62 #[.int .i64 10, .int .i64 n] h K := by
  refine fnv (args := _) mixed [] [] [] Tryz.func62 rfl (by kernel_rfl) ?_
  conv => whnf
  exact hk
theorem fits11_x (n : Int) (h1 : -9223372036854775808 ≤ n) (h2 : n ≤ 9223372036854775807) (hk : K (.bool (fitsN 11 n)) h) : X Tryz.prog 62 #[.int .i64 11, .int .i64 n] h K := by
  refine fnv (args := _) mixed [] [] [] Tryz.func62 rfl (by kernel_rfl) ?_
  conv => whnf
  exact hk
theorem fits12_x (n : Int) (h1 : -9223372036854775808 ≤ n) (h2 : n ≤ 9223372036854775807) (hk : K (.bool (fitsN 12 n)) h) : X Tryz.prog 62 #[.int .i64 12, .int .i64 n] h K := by
  refine fnv (args := _) mixed [] [] [] Tryz.func62 rfl (by kernel_rfl) ?_
  conv => whnf
  exact hk
theorem fits13_x (n : Int) (h1 : -9223372036854775808 ≤ n) (h2 : n ≤ 9223372036854775807) (hk : K (.bool (fitsN 13 n)) h) : X Tryz.prog 62 #[.int .i64 13, .int .i64 n] h K := by
  refine fnv (args := _) mixed [] [] [] Tryz.func62 rfl (by kernel_rfl) ?_
  conv => whnf
  exact hk
theorem fits14_x (n : Int) (h1 : -9223372036854775808 ≤ n) (h2 : n ≤ 9223372036854775807) (hk : K (.bool (fitsN 14 n)) h) : X Tryz.prog 62 #[.int .i64 14, .int .i64 n] h K := by
  refine fnv (args := _) mixed [] [] [] Tryz.func62 rfl (by kernel_rfl) ?_
  conv => whnf
  exact hk
theorem fits_x (f : Nat) (hf : f < 15) (n : Int) (h1 : -9223372036854775808 ≤ n) (h2 : n ≤ 9223372036854775807) (hk : K (.bool (fitsN f n)) h) : X Tryz.prog 62 #[.int .i64 f, .int .i64 n] h K := by
  match f, hf, hk with
  | 0, _, hk => exact fits0_x n h1 h2 hk
  | 1, _, hk => exact fits1_x n h1 h2 hk
  | 2, _, hk => exact fits2_x n h1 h2 hk
  | 3, _, hk => exact fits3_x n h1 h2 hk
  | 4, _, hk => exact fits4_x n h1 h2 hk
  | 5, _, hk => exact fits5_x n h1 h2 hk
  | 6, _, hk => exact fits6_x n h1 h2 hk
  | 7, _, hk => exact fits7_x n h1 h2 hk
  | 8, _, hk => exact fits8_x n h1 h2 hk
  | 9, _, hk => exact fits9_x n h1 h2 hk
  | 10, _, hk => exact fits10_x n h1 h2 hk
  | 11, _, hk => exact fits11_x n h1 h2 hk
  | 12, _, hk => exact fits12_x n h1 h2 hk
  | 13, _, hk => exact fits13_x n h1 h2 hk
  | 14, _, hk => exact fits14_x n h1 h2 hk
  | f + 15, hf, _ => exact absurd hf (by omega)
end
end Go.Proofs.YtlobclgbbhoeiaaGreatDoor
