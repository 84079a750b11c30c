/-
  Instructions as words: which fields a format has, the document's (printed by a program).
-/
import Derived.Test.YtlobclgbbhoeiaaGreatDoorAsZc
namespace Go.Proofs.YtlobclgbbhoeiaaGreatDoor
set_option linter.unusedSimpArgs false
set_option linter.unusedVariables false
open Go Go.Mid Go.RowKit
attribute [local irreducible] mid
section
set_option maxHeartbeats 8000000
set_option maxRecDepth 10000
variable {h : Hp} {K : Value → Hp → Prop}
theorem has0_0 (hk : K (.bool false) h) : X Tryz.prog 58 #[.string (bs []), .int .u8 100] h K := by
  refine fnv (args := _) mixed [] [] [] Tryz.func58 rfl (by kernel_rfl) ?_
  conv => whnf
  iterate 13 (refine seq_false (by decide) ?_; conv => whnf)
  refine loop_step ?_
  conv => whnf
  exact hk
theorem has0_1 (hk : K (.bool false) h) : X Tryz.prog 58 #[.string (bs []), .int .u8 49] h K := by
  refine fnv (args := _) mixed [] [] [] Tryz.func58 rfl (by kernel_rfl) ?_
  conv => whnf
  iterate 13 (refine seq_false (by decide) ?_; conv => whnf)
  refine loop_step ?_
  conv => whnf
  exact hk
theorem has0_2 (hk : K (.bool false) h) : X Tryz.prog 58 #[.string (bs []), .int .u8 50] h K := by
  refine fnv (args := _) mixed [] [] [] Tryz.func58 rfl (by kernel_rfl) ?_
  conv => whnf
  iterate 13 (refine seq_false (by decide) ?_; conv => whnf)
  refine loop_step ?_
  conv => whnf
  exact hk
theorem has0_3 (hk : K (.bool false) h) : X Tryz.prog 58 #[.string (bs []), .int .u8 105] h K := by
  refine fnv (args := _) mixed [] [] [] Tryz.func58 rfl (by kernel_rfl) ?_
  conv => whnf
  iterate 13 (refine seq_false (by decide) ?_; conv => whnf)
  refine loop_step ?_
  conv => whnf
  exact hk
theorem has0_4 (hk : K (.bool false) h) : X Tryz.prog 58 #[.string (bs []), .int .u8 99] h K := by
  refine fnv (args := _) mixed [] [] [] Tryz.func58 rfl (by kernel_rfl) ?_
  conv => whnf
  iterate 13 (refine seq_false (by decide) ?_; conv => whnf)
  refine loop_step ?_
  conv => whnf
  exact hk
theorem has0_5 (hk : K (.bool false) h) : X Tryz.prog 58 #[.string (bs []), .int .u8 113] h K := by
  refine fnv (args := _) mixed [] [] [] Tryz.func58 rfl (by kernel_rfl) ?_
  conv => whnf
  iterate 13 (refine seq_false (by decide) ?_; conv => whnf)
  refine loop_step ?_
  conv => whnf
  exact hk
theorem has1_0 (hk : K (.bool true) h) : X Tryz.prog 58 #[.string (bs [82]), .int .u8 100] h K := by
  refine fnv (args := _) mixed [] [] [] Tryz.func58 rfl (by kernel_rfl) ?_
  conv => whnf
  refine seq_true (rfl) ?_
  conv => whnf
  refine loop_step ?_
  conv => whnf
  refine ch_intro (l := [100, 49, 50]) 100 (by decide) rfl ?_
  conv => whnf
  exact hk
theorem has1_1 (hk : K (.bool true) h) : X Tryz.prog 58 #[.string (bs [82]), .int .u8 49] h K := by
  refine fnv (args := _) mixed [] [] [] Tryz.func58 rfl (by kernel_rfl) ?_
  conv => whnf
  refine seq_true (rfl) ?_
  conv => whnf
  refine loop_step ?_
  conv => whnf
  refine ch_intro (l := [100, 49, 50]) 100 (by decide) rfl ?_
  conv => whnf
  first | refine ov_i64 (by omega) ?_ | refine ov_u64 (by omega) ?_ | refine ov_i64 (by decide) ?_ | refine ov_u64 (by decide) ?_ | refine ov_u8 (by omega) ?_ | refine ov_i32 (by omega) ?_ | refine ov_u32 (by omega) ?_
  conv => whnf
  refine loop_step ?_
  conv => whnf
  refine ch_intro (l := [100, 49, 50]) 49 (by decide) rfl ?_
  conv => whnf
  exact hk
theorem has1_2 (hk : K (.bool true) h) : X Tryz.prog 58 #[.string (bs [82]), .int .u8 50] h K := by
  refine fnv (args := _) mixed [] [] [] Tryz.func58 rfl (by kernel_rfl) ?_
  conv => whnf
  refine seq_true (rfl) ?_
  conv => whnf
  refine loop_step ?_
  conv => whnf
  refine ch_intro (l := [100, 49, 50]) 100 (by decide) rfl ?_
  conv => whnf
  first | refine ov_i64 (by omega) ?_ | refine ov_u64 (by omega) ?_ | refine ov_i64 (by decide) ?_ | refine ov_u64 (by decide) ?_ | refine ov_u8 (by omega) ?_ | refine ov_i32 (by omega) ?_ | refine ov_u32 (by omega) ?_
  conv => whnf
  refine loop_step ?_
  conv => whnf
  refine ch_intro (l := [100, 49, 50]) 49 (by decide) rfl ?_
  conv => whnf
  first | refine ov_i64 (by omega) ?_ | refine ov_u64 (by omega) ?_ | refine ov_i64 (by decide) ?_ | refine ov_u64 (by decide) ?_ | refine ov_u8 (by omega) ?_ | refine ov_i32 (by omega) ?_ | refine ov_u32 (by omega) ?_
  conv => whnf
  refine loop_step ?_
  conv => whnf
  refine ch_intro (l := [100, 49, 50]) 50 (by decide) rfl ?_
  conv => whnf
  exact hk
theorem has1_3 (hk : K (.bool false) h) : X Tryz.prog 58 #[.string (bs [82]), .int .u8 105] h K := by
  refine fnv (args := _) mixed [] [] [] Tryz.func58 rfl (by kernel_rfl) ?_
  conv => whnf
  refine seq_true (rfl) ?_
  conv => whnf
  refine loop_step ?_
  conv => whnf
  refine ch_intro (l := [100, 49, 50]) 100 (by decide) rfl ?_
  conv => whnf
  first | refine ov_i64 (by omega) ?_ | refine ov_u64 (by omega) ?_ | refine ov_i64 (by decide) ?_ | refine ov_u64 (by decide) ?_ | refine ov_u8 (by omega) ?_ | refine ov_i32 (by omega) ?_ | refine ov_u32 (by omega) ?_
  conv => whnf
  refine loop_step ?_
  conv => whnf
  refine ch_intro (l := [100, 49, 50]) 49 (by decide) rfl ?_
  conv => whnf
  first | refine ov_i64 (by omega) ?_ | refine ov_u64 (by omega) ?_ | refine ov_i64 (by decide) ?_ | refine ov_u64 (by decide) ?_ | refine ov_u8 (by omega) ?_ | refine ov_i32 (by omega) ?_ | refine ov_u32 (by omega) ?_
  conv => whnf
  refine loop_step ?_
  conv => whnf
  refine ch_intro (l := [100, 49, 50]) 50 (by decide) rfl ?_
  conv => whnf
  first | refine ov_i64 (by omega) ?_ | refine ov_u64 (by omega) ?_ | refine ov_i64 (by decide) ?_ | refine ov_u64 (by decide) ?_ | refine ov_u8 (by omega) ?_ | refine ov_i32 (by omega) ?_ | refine ov_u32 (by omega) ?_
  conv => whnf
  refine loop_step ?_
  conv => whnf
  exact hk
theorem has1_4 (hk : K (.bool false) h) : X Tryz.prog 58 #[.string (bs [82]), .int .u8 99] h K := by
  refine fnv (args := _) mixed [] [] [] Tryz.func58 rfl (by kernel_rfl) ?_
  conv => whnf
  refine seq_true (rfl) ?_
  conv => whnf
  refine loop_step ?_
  conv => whnf
  refine ch_intro (l := [100, 49, 50]) 100 (by decide) rfl ?_
  conv => whnf
  first | refine ov_i64 (by omega) ?_ | refine ov_u64 (by omega) ?_ | refine ov_i64 (by decide) ?_ | refine ov_u64 (by decide) ?_ | refine ov_u8 (by omega) ?_ | refine ov_i32 (by omega) ?_ | refine ov_u32 (by omega) ?_
  conv => whnf
  refine loop_step ?_
  conv => whnf
  refine ch_intro (l := [100, 49, 50]) 49 (by decide) rfl ?_
  conv => whnf
  first | refine ov_i64 (by omega) ?_ | refine ov_u64 (by omega) ?_ | refine ov_i64 (by decide) ?_ | refine ov_u64 (by decide) ?_ | refine ov_u8 (by omega) ?_ | refine ov_i32 (by omega) ?_ | refine ov_u32 (by omega) ?_
  conv => whnf
  refine loop_step ?_
  conv => whnf
  refine ch_intro (l := [100, 49, 50]) 50 (by decide) rfl ?_
  conv => whnf
  first | refine ov_i64 (by omega) ?_ | refine ov_u64 (by omega) ?_ | refine ov_i64 (by decide) ?_ | refine ov_u64 (by decide) ?_ | refine ov_u8 (by omega) ?_ | refine ov_i32 (by omega) ?_ | refine ov_u32 (by omega) ?_
  conv => whnf
  refine loop_step ?_
  conv => whnf
  exact hk
theorem has1_5 (hk : K (.bool false) h) : X Tryz.prog 58 #[.string (bs [82]), .int .u8 113] h K := by
  refine fnv (args := _) mixed [] [] [] Tryz.func58 rfl (by kernel_rfl) ?_
  conv => whnf
  refine seq_true (rfl) ?_
  conv => whnf
  refine loop_step ?_
  conv => whnf
  refine ch_intro (l := [100, 49, 50]) 100 (by decide) rfl ?_
  conv => whnf
  first | refine ov_i64 (by omega) ?_ | refine ov_u64 (by omega) ?_ | refine ov_i64 (by decide) ?_ | refine ov_u64 (by decide) ?_ | refine ov_u8 (by omega) ?_ | refine ov_i32 (by omega) ?_ | refine ov_u32 (by omega) ?_
  conv => whnf
  refine loop_step ?_
  conv => whnf
  refine ch_intro (l := [100, 49, 50]) 49 (by decide) rfl ?_
  conv => whnf
  first | refine ov_i64 (by omega) ?_ | refine ov_u64 (by omega) ?_ | refine ov_i64 (by decide) ?_ | refine ov_u64 (by decide) ?_ | refine ov_u8 (by omega) ?_ | refine ov_i32 (by omega) ?_ | refine ov_u32 (by omega) ?_
  conv => whnf
  refine loop_step ?_
  conv => whnf
  refine ch_intro (l := [100, 49, 50]) 50 (by decide) rfl ?_
  conv => whnf
  first | refine ov_i64 (by omega) ?_ | refine ov_u64 (by omega) ?_ | refine ov_i64 (by decide) ?_ | refine ov_u64 (by decide) ?_ | refine ov_u8 (by omega) ?_ | refine ov_i32 (by omega) ?_ | refine ov_u32 (by omega) ?_
  conv => whnf
  refine loop_step ?_
  conv => whnf
  exact hk
theorem has2_0 (hk : K (.bool true) h) : X Tryz.prog 58 #[.string (bs [73]), .int .u8 100] h K := by
  refine fnv (args := _) mixed [] [] [] Tryz.func58 rfl (by kernel_rfl) ?_
  conv => whnf
  refine seq_false ((by decide)) ?_
  conv => whnf
  refine seq_true (rfl) ?_
  conv => whnf
  refine loop_step ?_
  conv => whnf
  refine ch_intro (l := [100, 49, 105]) 100 (by decide) rfl ?_
  conv => whnf
  exact hk
theorem has2_1 (hk : K (.bool true) h) : X Tryz.prog 58 #[.string (bs [73]), .int .u8 49] h K := by
  refine fnv (args := _) mixed [] [] [] Tryz.func58 rfl (by kernel_rfl) ?_
  conv => whnf
  refine seq_false ((by decide)) ?_
  conv => whnf
  refine seq_true (rfl) ?_
  conv => whnf
  refine loop_step ?_
  conv => whnf
  refine ch_intro (l := [100, 49, 105]) 100 (by decide) rfl ?_
  conv => whnf
  first | refine ov_i64 (by omega) ?_ | refine ov_u64 (by omega) ?_ | refine ov_i64 (by decide) ?_ | refine ov_u64 (by decide) ?_ | refine ov_u8 (by omega) ?_ | refine ov_i32 (by omega) ?_ | refine ov_u32 (by omega) ?_
  conv => whnf
  refine loop_step ?_
  conv => whnf
  refine ch_intro (l := [100, 49, 105]) 49 (by decide) rfl ?_
  conv => whnf
  exact hk
theorem has2_2 (hk : K (.bool false) h) : X Tryz.prog 58 #[.string (bs [73]), .int .u8 50] h K := by
  refine fnv (args := _) mixed [] [] [] Tryz.func58 rfl (by kernel_rfl) ?_
  conv => whnf
  refine seq_false ((by decide)) ?_
  conv => whnf
  refine seq_true (rfl) ?_
  conv => whnf
  refine loop_step ?_
  conv => whnf
  refine ch_intro (l := [100, 49, 105]) 100 (by decide) rfl ?_
  conv => whnf
  first | refine ov_i64 (by omega) ?_ | refine ov_u64 (by omega) ?_ | refine ov_i64 (by decide) ?_ | refine ov_u64 (by decide) ?_ | refine ov_u8 (by omega) ?_ | refine ov_i32 (by omega) ?_ | refine ov_u32 (by omega) ?_
  conv => whnf
  refine loop_step ?_
  conv => whnf
  refine ch_intro (l := [100, 49, 105]) 49 (by decide) rfl ?_
  conv => whnf
  first | refine ov_i64 (by omega) ?_ | refine ov_u64 (by omega) ?_ | refine ov_i64 (by decide) ?_ | refine ov_u64 (by decide) ?_ | refine ov_u8 (by omega) ?_ | refine ov_i32 (by omega) ?_ | refine ov_u32 (by omega) ?_
  conv => whnf
  refine loop_step ?_
  conv => whnf
  refine ch_intro (l := [100, 49, 105]) 105 (by decide) rfl ?_
  conv => whnf
  first | refine ov_i64 (by omega) ?_ | refine ov_u64 (by omega) ?_ | refine ov_i64 (by decide) ?_ | refine ov_u64 (by decide) ?_ | refine ov_u8 (by omega) ?_ | refine ov_i32 (by omega) ?_ | refine ov_u32 (by omega) ?_
  conv => whnf
  refine loop_step ?_
  conv => whnf
  exact hk
theorem has2_3 (hk : K (.bool true) h) : X Tryz.prog 58 #[.string (bs [73]), .int .u8 105] h K := by
  refine fnv (args := _) mixed [] [] [] Tryz.func58 rfl (by kernel_rfl) ?_
  conv => whnf
  refine seq_false ((by decide)) ?_
  conv => whnf
  refine seq_true (rfl) ?_
  conv => whnf
  refine loop_step ?_
  conv => whnf
  refine ch_intro (l := [100, 49, 105]) 100 (by decide) rfl ?_
  conv => whnf
  first | refine ov_i64 (by omega) ?_ | refine ov_u64 (by omega) ?_ | refine ov_i64 (by decide) ?_ | refine ov_u64 (by decide) ?_ | refine ov_u8 (by omega) ?_ | refine ov_i32 (by omega) ?_ | refine ov_u32 (by omega) ?_
  conv => whnf
  refine loop_step ?_
  conv => whnf
  refine ch_intro (l := [100, 49, 105]) 49 (by decide) rfl ?_
  conv => whnf
  first | refine ov_i64 (by omega) ?_ | refine ov_u64 (by omega) ?_ | refine ov_i64 (by decide) ?_ | refine ov_u64 (by decide) ?_ | refine ov_u8 (by omega) ?_ | refine ov_i32 (by omega) ?_ | refine ov_u32 (by omega) ?_
  conv => whnf
  refine loop_step ?_
  conv => whnf
  refine ch_intro (l := [100, 49, 105]) 105 (by decide) rfl ?_
  conv => whnf
  exact hk
theorem has2_4 (hk : K (.bool false) h) : X Tryz.prog 58 #[.string (bs [73]), .int .u8 99] h K := by
  refine fnv (args := _) mixed [] [] [] Tryz.func58 rfl (by kernel_rfl) ?_
  conv => whnf
  refine seq_false ((by decide)) ?_
  conv => whnf
  refine seq_true (rfl) ?_
  conv => whnf
  refine loop_step ?_
  conv => whnf
  refine ch_intro (l := [100, 49, 105]) 100 (by decide) rfl ?_
  conv => whnf
  first | refine ov_i64 (by omega) ?_ | refine ov_u64 (by omega) ?_ | refine ov_i64 (by decide) ?_ | refine ov_u64 (by decide) ?_ | refine ov_u8 (by omega) ?_ | refine ov_i32 (by omega) ?_ | refine ov_u32 (by omega) ?_
  conv => whnf
  refine loop_step ?_
  conv => whnf
  refine ch_intro (l := [100, 49, 105]) 49 (by decide) rfl ?_
  conv => whnf
  first | refine ov_i64 (by omega) ?_ | refine ov_u64 (by omega) ?_ | refine ov_i64 (by decide) ?_ | refine ov_u64 (by decide) ?_ | refine ov_u8 (by omega) ?_ | refine ov_i32 (by omega) ?_ | refine ov_u32 (by omega) ?_
  conv => whnf
  refine loop_step ?_
  conv => whnf
  refine ch_intro (l := [100, 49, 105]) 105 (by decide) rfl ?_
  conv => whnf
  first | refine ov_i64 (by omega) ?_ | refine ov_u64 (by omega) ?_ | refine ov_i64 (by decide) ?_ | refine ov_u64 (by decide) ?_ | refine ov_u8 (by omega) ?_ | refine ov_i32 (by omega) ?_ | refine ov_u32 (by omega) ?_
  conv => whnf
  refine loop_step ?_
  conv => whnf
  exact hk
theorem has2_5 (hk : K (.bool false) h) : X Tryz.prog 58 #[.string (bs [73]), .int .u8 113] h K := by
  refine fnv (args := _) mixed [] [] [] Tryz.func58 rfl (by kernel_rfl) ?_
  conv => whnf
  refine seq_false ((by decide)) ?_
  conv => whnf
  refine seq_true (rfl) ?_
  conv => whnf
  refine loop_step ?_
  conv => whnf
  refine ch_intro (l := [100, 49, 105]) 100 (by decide) rfl ?_
  conv => whnf
  first | refine ov_i64 (by omega) ?_ | refine ov_u64 (by omega) ?_ | refine ov_i64 (by decide) ?_ | refine ov_u64 (by decide) ?_ | refine ov_u8 (by omega) ?_ | refine ov_i32 (by omega) ?_ | refine ov_u32 (by omega) ?_
  conv => whnf
  refine loop_step ?_
  conv => whnf
  refine ch_intro (l := [100, 49, 105]) 49 (by decide) rfl ?_
  conv => whnf
  first | refine ov_i64 (by omega) ?_ | refine ov_u64 (by omega) ?_ | refine ov_i64 (by decide) ?_ | refine ov_u64 (by decide) ?_ | refine ov_u8 (by omega) ?_ | refine ov_i32 (by omega) ?_ | refine ov_u32 (by omega) ?_
  conv => whnf
  refine loop_step ?_
  conv => whnf
  refine ch_intro (l := [100, 49, 105]) 105 (by decide) rfl ?_
  conv => whnf
  first | refine ov_i64 (by omega) ?_ | refine ov_u64 (by omega) ?_ | refine ov_i64 (by decide) ?_ | refine ov_u64 (by decide) ?_ | refine ov_u8 (by omega) ?_ | refine ov_i32 (by omega) ?_ | refine ov_u32 (by omega) ?_
  conv => whnf
  refine loop_step ?_
  conv => whnf
  exact hk
theorem has3_0 (hk : K (.bool false) h) : X Tryz.prog 58 #[.string (bs [83]), .int .u8 100] h K := by
  refine fnv (args := _) mixed [] [] [] Tryz.func58 rfl (by kernel_rfl) ?_
  conv => whnf
  iterate 4 (refine seq_false (by decide) ?_; conv => whnf)
  refine seq_true (rfl) ?_
  conv => whnf
  refine loop_step ?_
  conv => whnf
  refine ch_intro (l := [49, 50, 105]) 49 (by decide) rfl ?_
  conv => whnf
  first | refine ov_i64 (by omega) ?_ | refine ov_u64 (by omega) ?_ | refine ov_i64 (by decide) ?_ | refine ov_u64 (by decide) ?_ | refine ov_u8 (by omega) ?_ | refine ov_i32 (by omega) ?_ | refine ov_u32 (by omega) ?_
  conv => whnf
  refine loop_step ?_
  conv => whnf
  refine ch_intro (l := [49, 50, 105]) 50 (by decide) rfl ?_
  conv => whnf
  first | refine ov_i64 (by omega) ?_ | refine ov_u64 (by omega) ?_ | refine ov_i64 (by decide) ?_ | refine ov_u64 (by decide) ?_ | refine ov_u8 (by omega) ?_ | refine ov_i32 (by omega) ?_ | refine ov_u32 (by omega) ?_
  conv => whnf
  refine loop_step ?_
  conv => whnf
  refine ch_intro (l := [49, 50, 105]) 105 (by decide) rfl ?_
  conv => whnf
  first | refine ov_i64 (by omega) ?_ | refine ov_u64 (by omega) ?_ | refine ov_i64 (by decide) ?_ | refine ov_u64 (by decide) ?_ | refine ov_u8 (by omega) ?_ | refine ov_i32 (by omega) ?_ | refine ov_u32 (by omega) ?_
  conv => whnf
  refine loop_step ?_
  conv => whnf
  exact hk
theorem has3_1 (hk : K (.bool true) h) : X Tryz.prog 58 #[.string (bs [83]), .int .u8 49] h K := by
  refine fnv (args := _) mixed [] [] [] Tryz.func58 rfl (by kernel_rfl) ?_
  conv => whnf
  iterate 4 (refine seq_false (by decide) ?_; conv => whnf)
  refine seq_true (rfl) ?_
  conv => whnf
  refine loop_step ?_
  conv => whnf
  refine ch_intro (l := [49, 50, 105]) 49 (by decide) rfl ?_
  conv => whnf
  exact hk
theorem has3_2 (hk : K (.bool true) h) : X Tryz.prog 58 #[.string (bs [83]), .int .u8 50] h K := by
  refine fnv (args := _) mixed [] [] [] Tryz.func58 rfl (by kernel_rfl) ?_
  conv => whnf
  iterate 4 (refine seq_false (by decide) ?_; conv => whnf)
  refine seq_true (rfl) ?_
  conv => whnf
  refine loop_step ?_
  conv => whnf
  refine ch_intro (l := [49, 50, 105]) 49 (by decide) rfl ?_
  conv => whnf
  first | refine ov_i64 (by omega) ?_ | refine ov_u64 (by omega) ?_ | refine ov_i64 (by decide) ?_ | refine ov_u64 (by decide) ?_ | refine ov_u8 (by omega) ?_ | refine ov_i32 (by omega) ?_ | refine ov_u32 (by omega) ?_
  conv => whnf
  refine loop_step ?_
  conv => whnf
  refine ch_intro (l := [49, 50, 105]) 50 (by decide) rfl ?_
  conv => whnf
  exact hk
theorem has3_3 (hk : K (.bool true) h) : X Tryz.prog 58 #[.string (bs [83]), .int .u8 105] h K := by
  refine fnv (args := _) mixed [] [] [] Tryz.func58 rfl (by kernel_rfl) ?_
  conv => whnf
  iterate 4 (refine seq_false (by decide) ?_; conv => whnf)
  refine seq_true (rfl) ?_
  conv => whnf
  refine loop_step ?_
  conv => whnf
  refine ch_intro (l := [49, 50, 105]) 49 (by decide) rfl ?_
  conv => whnf
  first | refine ov_i64 (by omega) ?_ | refine ov_u64 (by omega) ?_ | refine ov_i64 (by decide) ?_ | refine ov_u64 (by decide) ?_ | refine ov_u8 (by omega) ?_ | refine ov_i32 (by omega) ?_ | refine ov_u32 (by omega) ?_
  conv => whnf
  refine loop_step ?_
  conv => whnf
  refine ch_intro (l := [49, 50, 105]) 50 (by decide) rfl ?_
  conv => whnf
  first | refine ov_i64 (by omega) ?_ | refine ov_u64 (by omega) ?_ | refine ov_i64 (by decide) ?_ | refine ov_u64 (by decide) ?_ | refine ov_u8 (by omega) ?_ | refine ov_i32 (by omega) ?_ | refine ov_u32 (by omega) ?_
  conv => whnf
  refine loop_step ?_
  conv => whnf
  refine ch_intro (l := [49, 50, 105]) 105 (by decide) rfl ?_
  conv => whnf
  exact hk
theorem has3_4 (hk : K (.bool false) h) : X Tryz.prog 58 #[.string (bs [83]), .int .u8 99] h K := by
  refine fnv (args := _) mixed [] [] [] Tryz.func58 rfl (by kernel_rfl) ?_
  conv => whnf
  iterate 4 (refine seq_false (by decide) ?_; conv => whnf)
  refine seq_true (rfl) ?_
  conv => whnf
  refine loop_step ?_
  conv => whnf
  refine ch_intro (l := [49, 50, 105]) 49 (by decide) rfl ?_
  conv => whnf
  first | refine ov_i64 (by omega) ?_ | refine ov_u64 (by omega) ?_ | refine ov_i64 (by decide) ?_ | refine ov_u64 (by decide) ?_ | refine ov_u8 (by omega) ?_ | refine ov_i32 (by omega) ?_ | refine ov_u32 (by omega) ?_
  conv => whnf
  refine loop_step ?_
  conv => whnf
  refine ch_intro (l := [49, 50, 105]) 50 (by decide) rfl ?_
  conv => whnf
  first | refine ov_i64 (by omega) ?_ | refine ov_u64 (by omega) ?_ | refine ov_i64 (by decide) ?_ | refine ov_u64 (by decide) ?_ | refine ov_u8 (by omega) ?_ | refine ov_i32 (by omega) ?_ | refine ov_u32 (by omega) ?_
  conv => whnf
  refine loop_step ?_
  conv => whnf
  refine ch_intro (l := [49, 50, 105]) 105 (by decide) rfl ?_
  conv => whnf
  first | refine ov_i64 (by omega) ?_ | refine ov_u64 (by omega) ?_ | refine ov_i64 (by decide) ?_ | refine ov_u64 (by decide) ?_ | refine ov_u8 (by omega) ?_ | refine ov_i32 (by omega) ?_ | refine ov_u32 (by omega) ?_
  conv => whnf
  refine loop_step ?_
  conv => whnf
  exact hk
theorem has3_5 (hk : K (.bool false) h) : X Tryz.prog 58 #[.string (bs [83]), .int .u8 113] h K := by
  refine fnv (args := _) mixed [] [] [] Tryz.func58 rfl (by kernel_rfl) ?_
  conv => whnf
  iterate 4 (refine seq_false (by decide) ?_; conv => whnf)
  refine seq_true (rfl) ?_
  conv => whnf
  refine loop_step ?_
  conv => whnf
  refine ch_intro (l := [49, 50, 105]) 49 (by decide) rfl ?_
  conv => whnf
  first | refine ov_i64 (by omega) ?_ | refine ov_u64 (by omega) ?_ | refine ov_i64 (by decide) ?_ | refine ov_u64 (by decide) ?_ | refine ov_u8 (by omega) ?_ | refine ov_i32 (by omega) ?_ | refine ov_u32 (by omega) ?_
  conv => whnf
  refine loop_step ?_
  conv => whnf
  refine ch_intro (l := [49, 50, 105]) 50 (by decide) rfl ?_
  conv => whnf
  first | refine ov_i64 (by omega) ?_ | refine ov_u64 (by omega) ?_ | refine ov_i64 (by decide) ?_ | refine ov_u64 (by decide) ?_ | refine ov_u8 (by omega) ?_ | refine ov_i32 (by omega) ?_ | refine ov_u32 (by omega) ?_
  conv => whnf
  refine loop_step ?_
  conv => whnf
  refine ch_intro (l := [49, 50, 105]) 105 (by decide) rfl ?_
  conv => whnf
  first | refine ov_i64 (by omega) ?_ | refine ov_u64 (by omega) ?_ | refine ov_i64 (by decide) ?_ | refine ov_u64 (by decide) ?_ | refine ov_u8 (by omega) ?_ | refine ov_i32 (by omega) ?_ | refine ov_u32 (by omega) ?_
  conv => whnf
  refine loop_step ?_
  conv => whnf
  exact hk
theorem has4_0 (hk : K (.bool false) h) : X Tryz.prog 58 #[.string (bs [66]), .int .u8 100] h K := by
  refine fnv (args := _) mixed [] [] [] Tryz.func58 rfl (by kernel_rfl) ?_
  conv => whnf
  iterate 5 (refine seq_false (by decide) ?_; conv => whnf)
  refine seq_true (rfl) ?_
  conv => whnf
  refine loop_step ?_
  conv => whnf
  refine ch_intro (l := [49, 50, 105]) 49 (by decide) rfl ?_
  conv => whnf
  first | refine ov_i64 (by omega) ?_ | refine ov_u64 (by omega) ?_ | refine ov_i64 (by decide) ?_ | refine ov_u64 (by decide) ?_ | refine ov_u8 (by omega) ?_ | refine ov_i32 (by omega) ?_ | refine ov_u32 (by omega) ?_
  conv => whnf
  refine loop_step ?_
  conv => whnf
  refine ch_intro (l := [49, 50, 105]) 50 (by decide) rfl ?_
  conv => whnf
  first | refine ov_i64 (by omega) ?_ | refine ov_u64 (by omega) ?_ | refine ov_i64 (by decide) ?_ | refine ov_u64 (by decide) ?_ | refine ov_u8 (by omega) ?_ | refine ov_i32 (by omega) ?_ | refine ov_u32 (by omega) ?_
  conv => whnf
  refine loop_step ?_
  conv => whnf
  refine ch_intro (l := [49, 50, 105]) 105 (by decide) rfl ?_
  conv => whnf
  first | refine ov_i64 (by omega) ?_ | refine ov_u64 (by omega) ?_ | refine ov_i64 (by decide) ?_ | refine ov_u64 (by decide) ?_ | refine ov_u8 (by omega) ?_ | refine ov_i32 (by omega) ?_ | refine ov_u32 (by omega) ?_
  conv => whnf
  refine loop_step ?_
  conv => whnf
  exact hk
theorem has4_1 (hk : K (.bool true) h) : X Tryz.prog 58 #[.string (bs [66]), .int .u8 49] h K := by
  refine fnv (args := _) mixed [] [] [] Tryz.func58 rfl (by kernel_rfl) ?_
  conv => whnf
  iterate 5 (refine seq_false (by decide) ?_; conv => whnf)
  refine seq_true (rfl) ?_
  conv => whnf
  refine loop_step ?_
  conv => whnf
  refine ch_intro (l := [49, 50, 105]) 49 (by decide) rfl ?_
  conv => whnf
  exact hk
theorem has4_2 (hk : K (.bool true) h) : X Tryz.prog 58 #[.string (bs [66]), .int .u8 50] h K := by
  refine fnv (args := _) mixed [] [] [] Tryz.func58 rfl (by kernel_rfl) ?_
  conv => whnf
  iterate 5 (refine seq_false (by decide) ?_; conv => whnf)
  refine seq_true (rfl) ?_
  conv => whnf
  refine loop_step ?_
  conv => whnf
  refine ch_intro (l := [49, 50, 105]) 49 (by decide) rfl ?_
  conv => whnf
  first | refine ov_i64 (by omega) ?_ | refine ov_u64 (by omega) ?_ | refine ov_i64 (by decide) ?_ | refine ov_u64 (by decide) ?_ | refine ov_u8 (by omega) ?_ | refine ov_i32 (by omega) ?_ | refine ov_u32 (by omega) ?_
  conv => whnf
  refine loop_step ?_
  conv => whnf
  refine ch_intro (l := [49, 50, 105]) 50 (by decide) rfl ?_
  conv => whnf
  exact hk
theorem has4_3 (hk : K (.bool true) h) : X Tryz.prog 58 #[.string (bs [66]), .int .u8 105] h K := by
  refine fnv (args := _) mixed [] [] [] Tryz.func58 rfl (by kernel_rfl) ?_
  conv => whnf
  iterate 5 (refine seq_false (by decide) ?_; conv => whnf)
  refine seq_true (rfl) ?_
  conv => whnf
  refine loop_step ?_
  conv => whnf
  refine ch_intro (l := [49, 50, 105]) 49 (by decide) rfl ?_
  conv => whnf
  first | refine ov_i64 (by omega) ?_ | refine ov_u64 (by omega) ?_ | refine ov_i64 (by decide) ?_ | refine ov_u64 (by decide) ?_ | refine ov_u8 (by omega) ?_ | refine ov_i32 (by omega) ?_ | refine ov_u32 (by omega) ?_
  conv => whnf
  refine loop_step ?_
  conv => whnf
  refine ch_intro (l := [49, 50, 105]) 50 (by decide) rfl ?_
  conv => whnf
  first | refine ov_i64 (by omega) ?_ | refine ov_u64 (by omega) ?_ | refine ov_i64 (by decide) ?_ | refine ov_u64 (by decide) ?_ | refine ov_u8 (by omega) ?_ | refine ov_i32 (by omega) ?_ | refine ov_u32 (by omega) ?_
  conv => whnf
  refine loop_step ?_
  conv => whnf
  refine ch_intro (l := [49, 50, 105]) 105 (by decide) rfl ?_
  conv => whnf
  exact hk
theorem has4_4 (hk : K (.bool false) h) : X Tryz.prog 58 #[.string (bs [66]), .int .u8 99] h K := by
  refine fnv (args := _) mixed [] [] [] Tryz.func58 rfl (by kernel_rfl) ?_
  conv => whnf
  iterate 5 (refine seq_false (by decide) ?_; conv => whnf)
  refine seq_true (rfl) ?_
  conv => whnf
  refine loop_step ?_
  conv => whnf
  refine ch_intro (l := [49, 50, 105]) 49 (by decide) rfl ?_
  conv => whnf
  first | refine ov_i64 (by omega) ?_ | refine ov_u64 (by omega) ?_ | refine ov_i64 (by decide) ?_ | refine ov_u64 (by decide) ?_ | refine ov_u8 (by omega) ?_ | refine ov_i32 (by omega) ?_ | refine ov_u32 (by omega) ?_
  conv => whnf
  refine loop_step ?_
  conv => whnf
  refine ch_intro (l := [49, 50, 105]) 50 (by decide) rfl ?_
  conv => whnf
  first | refine ov_i64 (by omega) ?_ | refine ov_u64 (by omega) ?_ | refine ov_i64 (by decide) ?_ | refine ov_u64 (by decide) ?_ | refine ov_u8 (by omega) ?_ | refine ov_i32 (by omega) ?_ | refine ov_u32 (by omega) ?_
  conv => whnf
  refine loop_step ?_
  conv => whnf
  refine ch_intro (l := [49, 50, 105]) 105 (by decide) rfl ?_
  conv => whnf
  first | refine ov_i64 (by omega) ?_ | refine ov_u64 (by omega) ?_ | refine ov_i64 (by decide) ?_ | refine ov_u64 (by decide) ?_ | refine ov_u8 (by omega) ?_ | refine ov_i32 (by omega) ?_ | refine ov_u32 (by omega) ?_
  conv => whnf
  refine loop_step ?_
  conv => whnf
  exact hk
theorem has4_5 (hk : K (.bool false) h) : X Tryz.prog 58 #[.string (bs [66]), .int .u8 113] h K := by
  refine fnv (args := _) mixed [] [] [] Tryz.func58 rfl (by kernel_rfl) ?_
  conv => whnf
  iterate 5 (refine seq_false (by decide) ?_; conv => whnf)
  refine seq_true (rfl) ?_
  conv => whnf
  refine loop_step ?_
  conv => whnf
  refine ch_intro (l := [49, 50, 105]) 49 (by decide) rfl ?_
  conv => whnf
  first | refine ov_i64 (by omega) ?_ | refine ov_u64 (by omega) ?_ | refine ov_i64 (by decide) ?_ | refine ov_u64 (by decide) ?_ | refine ov_u8 (by omega) ?_ | refine ov_i32 (by omega) ?_ | refine ov_u32 (by omega) ?_
  conv => whnf
  refine loop_step ?_
  conv => whnf
  refine ch_intro (l := [49, 50, 105]) 50 (by decide) rfl ?_
  conv => whnf
  first | refine ov_i64 (by omega) ?_ | refine ov_u64 (by omega) ?_ | refine ov_i64 (by decide) ?_ | refine ov_u64 (by decide) ?_ | refine ov_u8 (by omega) ?_ | refine ov_i32 (by omega) ?_ | refine ov_u32 (by omega) ?_
  conv => whnf
  refine loop_step ?_
  conv => whnf
  refine ch_intro (l := [49, 50, 105]) 105 (by decide) rfl ?_
  conv => whnf
  first | refine ov_i64 (by omega) ?_ | refine ov_u64 (by omega) ?_ | refine ov_i64 (by decide) ?_ | refine ov_u64 (by decide) ?_ | refine ov_u8 (by omega) ?_ | refine ov_i32 (by omega) ?_ | refine ov_u32 (by omega) ?_
  conv => whnf
  refine loop_step ?_
  conv => whnf
  exact hk
theorem has5_0 (hk : K (.bool true) h) : X Tryz.prog 58 #[.string (bs [85]), .int .u8 100] h K := by
  refine fnv (args := _) mixed [] [] [] Tryz.func58 rfl (by kernel_rfl) ?_
  conv => whnf
  iterate 6 (refine seq_false (by decide) ?_; conv => whnf)
  refine seq_true (rfl) ?_
  conv => whnf
  refine loop_step ?_
  conv => whnf
  refine ch_intro (l := [100, 105]) 100 (by decide) rfl ?_
  conv => whnf
  exact hk
theorem has5_1 (hk : K (.bool false) h) : X Tryz.prog 58 #[.string (bs [85]), .int .u8 49] h K := by
  refine fnv (args := _) mixed [] [] [] Tryz.func58 rfl (by kernel_rfl) ?_
  conv => whnf
  iterate 6 (refine seq_false (by decide) ?_; conv => whnf)
  refine seq_true (rfl) ?_
  conv => whnf
  refine loop_step ?_
  conv => whnf
  refine ch_intro (l := [100, 105]) 100 (by decide) rfl ?_
  conv => whnf
  first | refine ov_i64 (by omega) ?_ | refine ov_u64 (by omega) ?_ | refine ov_i64 (by decide) ?_ | refine ov_u64 (by decide) ?_ | refine ov_u8 (by omega) ?_ | refine ov_i32 (by omega) ?_ | refine ov_u32 (by omega) ?_
  conv => whnf
  refine loop_step ?_
  conv => whnf
  refine ch_intro (l := [100, 105]) 105 (by decide) rfl ?_
  conv => whnf
  first | refine ov_i64 (by omega) ?_ | refine ov_u64 (by omega) ?_ | refine ov_i64 (by decide) ?_ | refine ov_u64 (by decide) ?_ | refine ov_u8 (by omega) ?_ | refine ov_i32 (by omega) ?_ | refine ov_u32 (by omega) ?_
  conv => whnf
  refine loop_step ?_
  conv => whnf
  exact hk
theorem has5_2 (hk : K (.bool false) h) : X Tryz.prog 58 #[.string (bs [85]), .int .u8 50] h K := by
  refine fnv (args := _) mixed [] [] [] Tryz.func58 rfl (by kernel_rfl) ?_
  conv => whnf
  iterate 6 (refine seq_false (by decide) ?_; conv => whnf)
  refine seq_true (rfl) ?_
  conv => whnf
  refine loop_step ?_
  conv => whnf
  refine ch_intro (l := [100, 105]) 100 (by decide) rfl ?_
  conv => whnf
  first | refine ov_i64 (by omega) ?_ | refine ov_u64 (by omega) ?_ | refine ov_i64 (by decide) ?_ | refine ov_u64 (by decide) ?_ | refine ov_u8 (by omega) ?_ | refine ov_i32 (by omega) ?_ | refine ov_u32 (by omega) ?_
  conv => whnf
  refine loop_step ?_
  conv => whnf
  refine ch_intro (l := [100, 105]) 105 (by decide) rfl ?_
  conv => whnf
  first | refine ov_i64 (by omega) ?_ | refine ov_u64 (by omega) ?_ | refine ov_i64 (by decide) ?_ | refine ov_u64 (by decide) ?_ | refine ov_u8 (by omega) ?_ | refine ov_i32 (by omega) ?_ | refine ov_u32 (by omega) ?_
  conv => whnf
  refine loop_step ?_
  conv => whnf
  exact hk
theorem has5_3 (hk : K (.bool true) h) : X Tryz.prog 58 #[.string (bs [85]), .int .u8 105] h K := by
  refine fnv (args := _) mixed [] [] [] Tryz.func58 rfl (by kernel_rfl) ?_
  conv => whnf
  iterate 6 (refine seq_false (by decide) ?_; conv => whnf)
  refine seq_true (rfl) ?_
  conv => whnf
  refine loop_step ?_
  conv => whnf
  refine ch_intro (l := [100, 105]) 100 (by decide) rfl ?_
  conv => whnf
  first | refine ov_i64 (by omega) ?_ | refine ov_u64 (by omega) ?_ | refine ov_i64 (by decide) ?_ | refine ov_u64 (by decide) ?_ | refine ov_u8 (by omega) ?_ | refine ov_i32 (by omega) ?_ | refine ov_u32 (by omega) ?_
  conv => whnf
  refine loop_step ?_
  conv => whnf
  refine ch_intro (l := [100, 105]) 105 (by decide) rfl ?_
  conv => whnf
  exact hk
theorem has5_4 (hk : K (.bool false) h) : X Tryz.prog 58 #[.string (bs [85]), .int .u8 99] h K := by
  refine fnv (args := _) mixed [] [] [] Tryz.func58 rfl (by kernel_rfl) ?_
  conv => whnf
  iterate 6 (refine seq_false (by decide) ?_; conv => whnf)
  refine seq_true (rfl) ?_
  conv => whnf
  refine loop_step ?_
  conv => whnf
  refine ch_intro (l := [100, 105]) 100 (by decide) rfl ?_
  conv => whnf
  first | refine ov_i64 (by omega) ?_ | refine ov_u64 (by omega) ?_ | refine ov_i64 (by decide) ?_ | refine ov_u64 (by decide) ?_ | refine ov_u8 (by omega) ?_ | refine ov_i32 (by omega) ?_ | refine ov_u32 (by omega) ?_
  conv => whnf
  refine loop_step ?_
  conv => whnf
  refine ch_intro (l := [100, 105]) 105 (by decide) rfl ?_
  conv => whnf
  first | refine ov_i64 (by omega) ?_ | refine ov_u64 (by omega) ?_ | refine ov_i64 (by decide) ?_ | refine ov_u64 (by decide) ?_ | refine ov_u8 (by omega) ?_ | refine ov_i32 (by omega) ?_ | refine ov_u32 (by omega) ?_
  conv => whnf
  refine loop_step ?_
  conv => whnf
  exact hk
theorem has5_5 (hk : K (.bool false) h) : X Tryz.prog 58 #[.string (bs [85]), .int .u8 113] h K := by
  refine fnv (args := _) mixed [] [] [] Tryz.func58 rfl (by kernel_rfl) ?_
  conv => whnf
  iterate 6 (refine seq_false (by decide) ?_; conv => whnf)
  refine seq_true (rfl) ?_
  conv => whnf
  refine loop_step ?_
  conv => whnf
  refine ch_intro (l := [100, 105]) 100 (by decide) rfl ?_
  conv => whnf
  first | refine ov_i64 (by omega) ?_ | refine ov_u64 (by omega) ?_ | refine ov_i64 (by decide) ?_ | refine ov_u64 (by decide) ?_ | refine ov_u8 (by omega) ?_ | refine ov_i32 (by omega) ?_ | refine ov_u32 (by omega) ?_
  conv => whnf
  refine loop_step ?_
  conv => whnf
  refine ch_intro (l := [100, 105]) 105 (by decide) rfl ?_
  conv => whnf
  first | refine ov_i64 (by omega) ?_ | refine ov_u64 (by omega) ?_ | refine ov_i64 (by decide) ?_ | refine ov_u64 (by decide) ?_ | refine ov_u8 (by omega) ?_ | refine ov_i32 (by omega) ?_ | refine ov_u32 (by omega) ?_
  conv => whnf
  refine loop_step ?_
  conv => whnf
  exact hk
theorem has6_0 (hk : K (.bool true) h) : X Tryz.prog 58 #[.string (bs [74]), .int .u8 100] h K := by
  refine fnv (args := _) mixed [] [] [] Tryz.func58 rfl (by kernel_rfl) ?_
  conv => whnf
  iterate 7 (refine seq_false (by decide) ?_; conv => whnf)
  refine seq_true (rfl) ?_
  conv => whnf
  refine loop_step ?_
  conv => whnf
  refine ch_intro (l := [100, 105]) 100 (by decide) rfl ?_
  conv => whnf
  exact hk
theorem has6_1 (hk : K (.bool false) h) : X Tryz.prog 58 #[.string (bs [74]), .int .u8 49] h K := by
  refine fnv (args := _) mixed [] [] [] Tryz.func58 rfl (by kernel_rfl) ?_
  conv => whnf
  iterate 7 (refine seq_false (by decide) ?_; conv => whnf)
  refine seq_true (rfl) ?_
  conv => whnf
  refine loop_step ?_
  conv => whnf
  refine ch_intro (l := [100, 105]) 100 (by decide) rfl ?_
  conv => whnf
  first | refine ov_i64 (by omega) ?_ | refine ov_u64 (by omega) ?_ | refine ov_i64 (by decide) ?_ | refine ov_u64 (by decide) ?_ | refine ov_u8 (by omega) ?_ | refine ov_i32 (by omega) ?_ | refine ov_u32 (by omega) ?_
  conv => whnf
  refine loop_step ?_
  conv => whnf
  refine ch_intro (l := [100, 105]) 105 (by decide) rfl ?_
  conv => whnf
  first | refine ov_i64 (by omega) ?_ | refine ov_u64 (by omega) ?_ | refine ov_i64 (by decide) ?_ | refine ov_u64 (by decide) ?_ | refine ov_u8 (by omega) ?_ | refine ov_i32 (by omega) ?_ | refine ov_u32 (by omega) ?_
  conv => whnf
  refine loop_step ?_
  conv => whnf
  exact hk
theorem has6_2 (hk : K (.bool false) h) : X Tryz.prog 58 #[.string (bs [74]), .int .u8 50] h K := by
  refine fnv (args := _) mixed [] [] [] Tryz.func58 rfl (by kernel_rfl) ?_
  conv => whnf
  iterate 7 (refine seq_false (by decide) ?_; conv => whnf)
  refine seq_true (rfl) ?_
  conv => whnf
  refine loop_step ?_
  conv => whnf
  refine ch_intro (l := [100, 105]) 100 (by decide) rfl ?_
  conv => whnf
  first | refine ov_i64 (by omega) ?_ | refine ov_u64 (by omega) ?_ | refine ov_i64 (by decide) ?_ | refine ov_u64 (by decide) ?_ | refine ov_u8 (by omega) ?_ | refine ov_i32 (by omega) ?_ | refine ov_u32 (by omega) ?_
  conv => whnf
  refine loop_step ?_
  conv => whnf
  refine ch_intro (l := [100, 105]) 105 (by decide) rfl ?_
  conv => whnf
  first | refine ov_i64 (by omega) ?_ | refine ov_u64 (by omega) ?_ | refine ov_i64 (by decide) ?_ | refine ov_u64 (by decide) ?_ | refine ov_u8 (by omega) ?_ | refine ov_i32 (by omega) ?_ | refine ov_u32 (by omega) ?_
  conv => whnf
  refine loop_step ?_
  conv => whnf
  exact hk
theorem has6_3 (hk : K (.bool true) h) : X Tryz.prog 58 #[.string (bs [74]), .int .u8 105] h K := by
  refine fnv (args := _) mixed [] [] [] Tryz.func58 rfl (by kernel_rfl) ?_
  conv => whnf
  iterate 7 (refine seq_false (by decide) ?_; conv => whnf)
  refine seq_true (rfl) ?_
  conv => whnf
  refine loop_step ?_
  conv => whnf
  refine ch_intro (l := [100, 105]) 100 (by decide) rfl ?_
  conv => whnf
  first | refine ov_i64 (by omega) ?_ | refine ov_u64 (by omega) ?_ | refine ov_i64 (by decide) ?_ | refine ov_u64 (by decide) ?_ | refine ov_u8 (by omega) ?_ | refine ov_i32 (by omega) ?_ | refine ov_u32 (by omega) ?_
  conv => whnf
  refine loop_step ?_
  conv => whnf
  refine ch_intro (l := [100, 105]) 105 (by decide) rfl ?_
  conv => whnf
  exact hk
theorem has6_4 (hk : K (.bool false) h) : X Tryz.prog 58 #[.string (bs [74]), .int .u8 99] h K := by
  refine fnv (args := _) mixed [] [] [] Tryz.func58 rfl (by kernel_rfl) ?_
  conv => whnf
  iterate 7 (refine seq_false (by decide) ?_; conv => whnf)
  refine seq_true (rfl) ?_
  conv => whnf
  refine loop_step ?_
  conv => whnf
  refine ch_intro (l := [100, 105]) 100 (by decide) rfl ?_
  conv => whnf
  first | refine ov_i64 (by omega) ?_ | refine ov_u64 (by omega) ?_ | refine ov_i64 (by decide) ?_ | refine ov_u64 (by decide) ?_ | refine ov_u8 (by omega) ?_ | refine ov_i32 (by omega) ?_ | refine ov_u32 (by omega) ?_
  conv => whnf
  refine loop_step ?_
  conv => whnf
  refine ch_intro (l := [100, 105]) 105 (by decide) rfl ?_
  conv => whnf
  first | refine ov_i64 (by omega) ?_ | refine ov_u64 (by omega) ?_ | refine ov_i64 (by decide) ?_ | refine ov_u64 (by decide) ?_ | refine ov_u8 (by omega) ?_ | refine ov_i32 (by omega) ?_ | refine ov_u32 (by omega) ?_
  conv => whnf
  refine loop_step ?_
  conv => whnf
  exact hk
theorem has6_5 (hk : K (.bool false) h) : X Tryz.prog 58 #[.string (bs [74]), .int .u8 113] h K := by
  refine fnv (args := _) mixed [] [] [] Tryz.func58 rfl (by kernel_rfl) ?_
  conv => whnf
  iterate 7 (refine seq_false (by decide) ?_; conv => whnf)
  refine seq_true (rfl) ?_
  conv => whnf
  refine loop_step ?_
  conv => whnf
  refine ch_intro (l := [100, 105]) 100 (by decide) rfl ?_
  conv => whnf
  first | refine ov_i64 (by omega) ?_ | refine ov_u64 (by omega) ?_ | refine ov_i64 (by decide) ?_ | refine ov_u64 (by decide) ?_ | refine ov_u8 (by omega) ?_ | refine ov_i32 (by omega) ?_ | refine ov_u32 (by omega) ?_
  conv => whnf
  refine loop_step ?_
  conv => whnf
  refine ch_intro (l := [100, 105]) 105 (by decide) rfl ?_
  conv => whnf
  first | refine ov_i64 (by omega) ?_ | refine ov_u64 (by omega) ?_ | refine ov_i64 (by decide) ?_ | refine ov_u64 (by decide) ?_ | refine ov_u8 (by omega) ?_ | refine ov_i32 (by omega) ?_ | refine ov_u32 (by omega) ?_
  conv => whnf
  refine loop_step ?_
  conv => whnf
  exact hk
theorem has7_0 (hk : K (.bool true) h) : X Tryz.prog 58 #[.string (bs [83, 104, 105, 102, 116]), .int .u8 100] h K := by
  refine fnv (args := _) mixed [] [] [] Tryz.func58 rfl (by kernel_rfl) ?_
  conv => whnf
  iterate 2 (refine seq_false (by decide) ?_; conv => whnf)
  refine seq_true (rfl) ?_
  conv => whnf
  refine loop_step ?_
  conv => whnf
  refine ch_intro (l := [100, 49, 105]) 100 (by decide) rfl ?_
  conv => whnf
  exact hk
theorem has7_1 (hk : K (.bool true) h) : X Tryz.prog 58 #[.string (bs [83, 104, 105, 102, 116]), .int .u8 49] h K := by
  refine fnv (args := _) mixed [] [] [] Tryz.func58 rfl (by kernel_rfl) ?_
  conv => whnf
  iterate 2 (refine seq_false (by decide) ?_; conv => whnf)
  refine seq_true (rfl) ?_
  conv => whnf
  refine loop_step ?_
  conv => whnf
  refine ch_intro (l := [100, 49, 105]) 100 (by decide) rfl ?_
  conv => whnf
  first | refine ov_i64 (by omega) ?_ | refine ov_u64 (by omega) ?_ | refine ov_i64 (by decide) ?_ | refine ov_u64 (by decide) ?_ | refine ov_u8 (by omega) ?_ | refine ov_i32 (by omega) ?_ | refine ov_u32 (by omega) ?_
  conv => whnf
  refine loop_step ?_
  conv => whnf
  refine ch_intro (l := [100, 49, 105]) 49 (by decide) rfl ?_
  conv => whnf
  exact hk
theorem has7_2 (hk : K (.bool false) h) : X Tryz.prog 58 #[.string (bs [83, 104, 105, 102, 116]), .int .u8 50] h K := by
  refine fnv (args := _) mixed [] [] [] Tryz.func58 rfl (by kernel_rfl) ?_
  conv => whnf
  iterate 2 (refine seq_false (by decide) ?_; conv => whnf)
  refine seq_true (rfl) ?_
  conv => whnf
  refine loop_step ?_
  conv => whnf
  refine ch_intro (l := [100, 49, 105]) 100 (by decide) rfl ?_
  conv => whnf
  first | refine ov_i64 (by omega) ?_ | refine ov_u64 (by omega) ?_ | refine ov_i64 (by decide) ?_ | refine ov_u64 (by decide) ?_ | refine ov_u8 (by omega) ?_ | refine ov_i32 (by omega) ?_ | refine ov_u32 (by omega) ?_
  conv => whnf
  refine loop_step ?_
  conv => whnf
  refine ch_intro (l := [100, 49, 105]) 49 (by decide) rfl ?_
  conv => whnf
  first | refine ov_i64 (by omega) ?_ | refine ov_u64 (by omega) ?_ | refine ov_i64 (by decide) ?_ | refine ov_u64 (by decide) ?_ | refine ov_u8 (by omega) ?_ | refine ov_i32 (by omega) ?_ | refine ov_u32 (by omega) ?_
  conv => whnf
  refine loop_step ?_
  conv => whnf
  refine ch_intro (l := [100, 49, 105]) 105 (by decide) rfl ?_
  conv => whnf
  first | refine ov_i64 (by omega) ?_ | refine ov_u64 (by omega) ?_ | refine ov_i64 (by decide) ?_ | refine ov_u64 (by decide) ?_ | refine ov_u8 (by omega) ?_ | refine ov_i32 (by omega) ?_ | refine ov_u32 (by omega) ?_
  conv => whnf
  refine loop_step ?_
  conv => whnf
  exact hk
theorem has7_3 (hk : K (.bool true) h) : X Tryz.prog 58 #[.string (bs [83, 104, 105, 102, 116]), .int .u8 105] h K := by
  refine fnv (args := _) mixed [] [] [] Tryz.func58 rfl (by kernel_rfl) ?_
  conv => whnf
  iterate 2 (refine seq_false (by decide) ?_; conv => whnf)
  refine seq_true (rfl) ?_
  conv => whnf
  refine loop_step ?_
  conv => whnf
  refine ch_intro (l := [100, 49, 105]) 100 (by decide) rfl ?_
  conv => whnf
  first | refine ov_i64 (by omega) ?_ | refine ov_u64 (by omega) ?_ | refine ov_i64 (by decide) ?_ | refine ov_u64 (by decide) ?_ | refine ov_u8 (by omega) ?_ | refine ov_i32 (by omega) ?_ | refine ov_u32 (by omega) ?_
  conv => whnf
  refine loop_step ?_
  conv => whnf
  refine ch_intro (l := [100, 49, 105]) 49 (by decide) rfl ?_
  conv => whnf
  first | refine ov_i64 (by omega) ?_ | refine ov_u64 (by omega) ?_ | refine ov_i64 (by decide) ?_ | refine ov_u64 (by decide) ?_ | refine ov_u8 (by omega) ?_ | refine ov_i32 (by omega) ?_ | refine ov_u32 (by omega) ?_
  conv => whnf
  refine loop_step ?_
  conv => whnf
  refine ch_intro (l := [100, 49, 105]) 105 (by decide) rfl ?_
  conv => whnf
  exact hk
theorem has7_4 (hk : K (.bool false) h) : X Tryz.prog 58 #[.string (bs [83, 104, 105, 102, 116]), .int .u8 99] h K := by
  refine fnv (args := _) mixed [] [] [] Tryz.func58 rfl (by kernel_rfl) ?_
  conv => whnf
  iterate 2 (refine seq_false (by decide) ?_; conv => whnf)
  refine seq_true (rfl) ?_
  conv => whnf
  refine loop_step ?_
  conv => whnf
  refine ch_intro (l := [100, 49, 105]) 100 (by decide) rfl ?_
  conv => whnf
  first | refine ov_i64 (by omega) ?_ | refine ov_u64 (by omega) ?_ | refine ov_i64 (by decide) ?_ | refine ov_u64 (by decide) ?_ | refine ov_u8 (by omega) ?_ | refine ov_i32 (by omega) ?_ | refine ov_u32 (by omega) ?_
  conv => whnf
  refine loop_step ?_
  conv => whnf
  refine ch_intro (l := [100, 49, 105]) 49 (by decide) rfl ?_
  conv => whnf
  first | refine ov_i64 (by omega) ?_ | refine ov_u64 (by omega) ?_ | refine ov_i64 (by decide) ?_ | refine ov_u64 (by decide) ?_ | refine ov_u8 (by omega) ?_ | refine ov_i32 (by omega) ?_ | refine ov_u32 (by omega) ?_
  conv => whnf
  refine loop_step ?_
  conv => whnf
  refine ch_intro (l := [100, 49, 105]) 105 (by decide) rfl ?_
  conv => whnf
  first | refine ov_i64 (by omega) ?_ | refine ov_u64 (by omega) ?_ | refine ov_i64 (by decide) ?_ | refine ov_u64 (by decide) ?_ | refine ov_u8 (by omega) ?_ | refine ov_i32 (by omega) ?_ | refine ov_u32 (by omega) ?_
  conv => whnf
  refine loop_step ?_
  conv => whnf
  exact hk
theorem has7_5 (hk : K (.bool false) h) : X Tryz.prog 58 #[.string (bs [83, 104, 105, 102, 116]), .int .u8 113] h K := by
  refine fnv (args := _) mixed [] [] [] Tryz.func58 rfl (by kernel_rfl) ?_
  conv => whnf
  iterate 2 (refine seq_false (by decide) ?_; conv => whnf)
  refine seq_true (rfl) ?_
  conv => whnf
  refine loop_step ?_
  conv => whnf
  refine ch_intro (l := [100, 49, 105]) 100 (by decide) rfl ?_
  conv => whnf
  first | refine ov_i64 (by omega) ?_ | refine ov_u64 (by omega) ?_ | refine ov_i64 (by decide) ?_ | refine ov_u64 (by decide) ?_ | refine ov_u8 (by omega) ?_ | refine ov_i32 (by omega) ?_ | refine ov_u32 (by omega) ?_
  conv => whnf
  refine loop_step ?_
  conv => whnf
  refine ch_intro (l := [100, 49, 105]) 49 (by decide) rfl ?_
  conv => whnf
  first | refine ov_i64 (by omega) ?_ | refine ov_u64 (by omega) ?_ | refine ov_i64 (by decide) ?_ | refine ov_u64 (by decide) ?_ | refine ov_u8 (by omega) ?_ | refine ov_i32 (by omega) ?_ | refine ov_u32 (by omega) ?_
  conv => whnf
  refine loop_step ?_
  conv => whnf
  refine ch_intro (l := [100, 49, 105]) 105 (by decide) rfl ?_
  conv => whnf
  first | refine ov_i64 (by omega) ?_ | refine ov_u64 (by omega) ?_ | refine ov_i64 (by decide) ?_ | refine ov_u64 (by decide) ?_ | refine ov_u8 (by omega) ?_ | refine ov_i32 (by omega) ?_ | refine ov_u32 (by omega) ?_
  conv => whnf
  refine loop_step ?_
  conv => whnf
  exact hk
theorem has8_0 (hk : K (.bool true) h) : X Tryz.prog 58 #[.string (bs [83, 104, 105, 102, 116, 87]), .int .u8 100] h K := by
  refine fnv (args := _) mixed [] [] [] Tryz.func58 rfl (by kernel_rfl) ?_
  conv => whnf
  iterate 3 (refine seq_false (by decide) ?_; conv => whnf)
  refine seq_true (rfl) ?_
  conv => whnf
  refine loop_step ?_
  conv => whnf
  refine ch_intro (l := [100, 49, 105]) 100 (by decide) rfl ?_
  conv => whnf
  exact hk
theorem has8_1 (hk : K (.bool true) h) : X Tryz.prog 58 #[.string (bs [83, 104, 105, 102, 116, 87]), .int .u8 49] h K := by
  refine fnv (args := _) mixed [] [] [] Tryz.func58 rfl (by kernel_rfl) ?_
  conv => whnf
  iterate 3 (refine seq_false (by decide) ?_; conv => whnf)
  refine seq_true (rfl) ?_
  conv => whnf
  refine loop_step ?_
  conv => whnf
  refine ch_intro (l := [100, 49, 105]) 100 (by decide) rfl ?_
  conv => whnf
  first | refine ov_i64 (by omega) ?_ | refine ov_u64 (by omega) ?_ | refine ov_i64 (by decide) ?_ | refine ov_u64 (by decide) ?_ | refine ov_u8 (by omega) ?_ | refine ov_i32 (by omega) ?_ | refine ov_u32 (by omega) ?_
  conv => whnf
  refine loop_step ?_
  conv => whnf
  refine ch_intro (l := [100, 49, 105]) 49 (by decide) rfl ?_
  conv => whnf
  exact hk
theorem has8_2 (hk : K (.bool false) h) : X Tryz.prog 58 #[.string (bs [83, 104, 105, 102, 116, 87]), .int .u8 50] h K := by
  refine fnv (args := _) mixed [] [] [] Tryz.func58 rfl (by kernel_rfl) ?_
  conv => whnf
  iterate 3 (refine seq_false (by decide) ?_; conv => whnf)
  refine seq_true (rfl) ?_
  conv => whnf
  refine loop_step ?_
  conv => whnf
  refine ch_intro (l := [100, 49, 105]) 100 (by decide) rfl ?_
  conv => whnf
  first | refine ov_i64 (by omega) ?_ | refine ov_u64 (by omega) ?_ | refine ov_i64 (by decide) ?_ | refine ov_u64 (by decide) ?_ | refine ov_u8 (by omega) ?_ | refine ov_i32 (by omega) ?_ | refine ov_u32 (by omega) ?_
  conv => whnf
  refine loop_step ?_
  conv => whnf
  refine ch_intro (l := [100, 49, 105]) 49 (by decide) rfl ?_
  conv => whnf
  first | refine ov_i64 (by omega) ?_ | refine ov_u64 (by omega) ?_ | refine ov_i64 (by decide) ?_ | refine ov_u64 (by decide) ?_ | refine ov_u8 (by omega) ?_ | refine ov_i32 (by omega) ?_ | refine ov_u32 (by omega) ?_
  conv => whnf
  refine loop_step ?_
  conv => whnf
  refine ch_intro (l := [100, 49, 105]) 105 (by decide) rfl ?_
  conv => whnf
  first | refine ov_i64 (by omega) ?_ | refine ov_u64 (by omega) ?_ | refine ov_i64 (by decide) ?_ | refine ov_u64 (by decide) ?_ | refine ov_u8 (by omega) ?_ | refine ov_i32 (by omega) ?_ | refine ov_u32 (by omega) ?_
  conv => whnf
  refine loop_step ?_
  conv => whnf
  exact hk
theorem has8_3 (hk : K (.bool true) h) : X Tryz.prog 58 #[.string (bs [83, 104, 105, 102, 116, 87]), .int .u8 105] h K := by
  refine fnv (args := _) mixed [] [] [] Tryz.func58 rfl (by kernel_rfl) ?_
  conv => whnf
  iterate 3 (refine seq_false (by decide) ?_; conv => whnf)
  refine seq_true (rfl) ?_
  conv => whnf
  refine loop_step ?_
  conv => whnf
  refine ch_intro (l := [100, 49, 105]) 100 (by decide) rfl ?_
  conv => whnf
  first | refine ov_i64 (by omega) ?_ | refine ov_u64 (by omega) ?_ | refine ov_i64 (by decide) ?_ | refine ov_u64 (by decide) ?_ | refine ov_u8 (by omega) ?_ | refine ov_i32 (by omega) ?_ | refine ov_u32 (by omega) ?_
  conv => whnf
  refine loop_step ?_
  conv => whnf
  refine ch_intro (l := [100, 49, 105]) 49 (by decide) rfl ?_
  conv => whnf
  first | refine ov_i64 (by omega) ?_ | refine ov_u64 (by omega) ?_ | refine ov_i64 (by decide) ?_ | refine ov_u64 (by decide) ?_ | refine ov_u8 (by omega) ?_ | refine ov_i32 (by omega) ?_ | refine ov_u32 (by omega) ?_
  conv => whnf
  refine loop_step ?_
  conv => whnf
  refine ch_intro (l := [100, 49, 105]) 105 (by decide) rfl ?_
  conv => whnf
  exact hk
theorem has8_4 (hk : K (.bool false) h) : X Tryz.prog 58 #[.string (bs [83, 104, 105, 102, 116, 87]), .int .u8 99] h K := by
  refine fnv (args := _) mixed [] [] [] Tryz.func58 rfl (by kernel_rfl) ?_
  conv => whnf
  iterate 3 (refine seq_false (by decide) ?_; conv => whnf)
  refine seq_true (rfl) ?_
  conv => whnf
  refine loop_step ?_
  conv => whnf
  refine ch_intro (l := [100, 49, 105]) 100 (by decide) rfl ?_
  conv => whnf
  first | refine ov_i64 (by omega) ?_ | refine ov_u64 (by omega) ?_ | refine ov_i64 (by decide) ?_ | refine ov_u64 (by decide) ?_ | refine ov_u8 (by omega) ?_ | refine ov_i32 (by omega) ?_ | refine ov_u32 (by omega) ?_
  conv => whnf
  refine loop_step ?_
  conv => whnf
  refine ch_intro (l := [100, 49, 105]) 49 (by decide) rfl ?_
  conv => whnf
  first | refine ov_i64 (by omega) ?_ | refine ov_u64 (by omega) ?_ | refine ov_i64 (by decide) ?_ | refine ov_u64 (by decide) ?_ | refine ov_u8 (by omega) ?_ | refine ov_i32 (by omega) ?_ | refine ov_u32 (by omega) ?_
  conv => whnf
  refine loop_step ?_
  conv => whnf
  refine ch_intro (l := [100, 49, 105]) 105 (by decide) rfl ?_
  conv => whnf
  first | refine ov_i64 (by omega) ?_ | refine ov_u64 (by omega) ?_ | refine ov_i64 (by decide) ?_ | refine ov_u64 (by decide) ?_ | refine ov_u8 (by omega) ?_ | refine ov_i32 (by omega) ?_ | refine ov_u32 (by omega) ?_
  conv => whnf
  refine loop_step ?_
  conv => whnf
  exact hk
theorem has8_5 (hk : K (.bool false) h) : X Tryz.prog 58 #[.string (bs [83, 104, 105, 102, 116, 87]), .int .u8 113] h K := by
  refine fnv (args := _) mixed [] [] [] Tryz.func58 rfl (by kernel_rfl) ?_
  conv => whnf
  iterate 3 (refine seq_false (by decide) ?_; conv => whnf)
  refine seq_true (rfl) ?_
  conv => whnf
  refine loop_step ?_
  conv => whnf
  refine ch_intro (l := [100, 49, 105]) 100 (by decide) rfl ?_
  conv => whnf
  first | refine ov_i64 (by omega) ?_ | refine ov_u64 (by omega) ?_ | refine ov_i64 (by decide) ?_ | refine ov_u64 (by decide) ?_ | refine ov_u8 (by omega) ?_ | refine ov_i32 (by omega) ?_ | refine ov_u32 (by omega) ?_
  conv => whnf
  refine loop_step ?_
  conv => whnf
  refine ch_intro (l := [100, 49, 105]) 49 (by decide) rfl ?_
  conv => whnf
  first | refine ov_i64 (by omega) ?_ | refine ov_u64 (by omega) ?_ | refine ov_i64 (by decide) ?_ | refine ov_u64 (by decide) ?_ | refine ov_u8 (by omega) ?_ | refine ov_i32 (by omega) ?_ | refine ov_u32 (by omega) ?_
  conv => whnf
  refine loop_step ?_
  conv => whnf
  refine ch_intro (l := [100, 49, 105]) 105 (by decide) rfl ?_
  conv => whnf
  first | refine ov_i64 (by omega) ?_ | refine ov_u64 (by omega) ?_ | refine ov_i64 (by decide) ?_ | refine ov_u64 (by decide) ?_ | refine ov_u8 (by omega) ?_ | refine ov_i32 (by omega) ?_ | refine ov_u32 (by omega) ?_
  conv => whnf
  refine loop_step ?_
  conv => whnf
  exact hk
theorem has9_0 (hk : K (.bool true) h) : X Tryz.prog 58 #[.string (bs [67, 115, 114]), .int .u8 100] h K := by
  refine fnv (args := _) mixed [] [] [] Tryz.func58 rfl (by kernel_rfl) ?_
  conv => whnf
  iterate 8 (refine seq_false (by decide) ?_; conv => whnf)
  refine seq_true (rfl) ?_
  conv => whnf
  refine loop_step ?_
  conv => whnf
  refine ch_intro (l := [100, 49, 99]) 100 (by decide) rfl ?_
  conv => whnf
  exact hk
theorem has9_1 (hk : K (.bool true) h) : X Tryz.prog 58 #[.string (bs [67, 115, 114]), .int .u8 49] h K := by
  refine fnv (args := _) mixed [] [] [] Tryz.func58 rfl (by kernel_rfl) ?_
  conv => whnf
  iterate 8 (refine seq_false (by decide) ?_; conv => whnf)
  refine seq_true (rfl) ?_
  conv => whnf
  refine loop_step ?_
  conv => whnf
  refine ch_intro (l := [100, 49, 99]) 100 (by decide) rfl ?_
  conv => whnf
  first | refine ov_i64 (by omega) ?_ | refine ov_u64 (by omega) ?_ | refine ov_i64 (by decide) ?_ | refine ov_u64 (by decide) ?_ | refine ov_u8 (by omega) ?_ | refine ov_i32 (by omega) ?_ | refine ov_u32 (by omega) ?_
  conv => whnf
  refine loop_step ?_
  conv => whnf
  refine ch_intro (l := [100, 49, 99]) 49 (by decide) rfl ?_
  conv => whnf
  exact hk
theorem has9_2 (hk : K (.bool false) h) : X Tryz.prog 58 #[.string (bs [67, 115, 114]), .int .u8 50] h K := by
  refine fnv (args := _) mixed [] [] [] Tryz.func58 rfl (by kernel_rfl) ?_
  conv => whnf
  iterate 8 (refine seq_false (by decide) ?_; conv => whnf)
  refine seq_true (rfl) ?_
  conv => whnf
  refine loop_step ?_
  conv => whnf
  refine ch_intro (l := [100, 49, 99]) 100 (by decide) rfl ?_
  conv => whnf
  first | refine ov_i64 (by omega) ?_ | refine ov_u64 (by omega) ?_ | refine ov_i64 (by decide) ?_ | refine ov_u64 (by decide) ?_ | refine ov_u8 (by omega) ?_ | refine ov_i32 (by omega) ?_ | refine ov_u32 (by omega) ?_
  conv => whnf
  refine loop_step ?_
  conv => whnf
  refine ch_intro (l := [100, 49, 99]) 49 (by decide) rfl ?_
  conv => whnf
  first | refine ov_i64 (by omega) ?_ | refine ov_u64 (by omega) ?_ | refine ov_i64 (by decide) ?_ | refine ov_u64 (by decide) ?_ | refine ov_u8 (by omega) ?_ | refine ov_i32 (by omega) ?_ | refine ov_u32 (by omega) ?_
  conv => whnf
  refine loop_step ?_
  conv => whnf
  refine ch_intro (l := [100, 49, 99]) 99 (by decide) rfl ?_
  conv => whnf
  first | refine ov_i64 (by omega) ?_ | refine ov_u64 (by omega) ?_ | refine ov_i64 (by decide) ?_ | refine ov_u64 (by decide) ?_ | refine ov_u8 (by omega) ?_ | refine ov_i32 (by omega) ?_ | refine ov_u32 (by omega) ?_
  conv => whnf
  refine loop_step ?_
  conv => whnf
  exact hk
theorem has9_3 (hk : K (.bool false) h) : X Tryz.prog 58 #[.string (bs [67, 115, 114]), .int .u8 105] h K := by
  refine fnv (args := _) mixed [] [] [] Tryz.func58 rfl (by kernel_rfl) ?_
  conv => whnf
  iterate 8 (refine seq_false (by decide) ?_; conv => whnf)
  refine seq_true (rfl) ?_
  conv => whnf
  refine loop_step ?_
  conv => whnf
  refine ch_intro (l := [100, 49, 99]) 100 (by decide) rfl ?_
  conv => whnf
  first | refine ov_i64 (by omega) ?_ | refine ov_u64 (by omega) ?_ | refine ov_i64 (by decide) ?_ | refine ov_u64 (by decide) ?_ | refine ov_u8 (by omega) ?_ | refine ov_i32 (by omega) ?_ | refine ov_u32 (by omega) ?_
  conv => whnf
  refine loop_step ?_
  conv => whnf
  refine ch_intro (l := [100, 49, 99]) 49 (by decide) rfl ?_
  conv => whnf
  first | refine ov_i64 (by omega) ?_ | refine ov_u64 (by omega) ?_ | refine ov_i64 (by decide) ?_ | refine ov_u64 (by decide) ?_ | refine ov_u8 (by omega) ?_ | refine ov_i32 (by omega) ?_ | refine ov_u32 (by omega) ?_
  conv => whnf
  refine loop_step ?_
  conv => whnf
  refine ch_intro (l := [100, 49, 99]) 99 (by decide) rfl ?_
  conv => whnf
  first | refine ov_i64 (by omega) ?_ | refine ov_u64 (by omega) ?_ | refine ov_i64 (by decide) ?_ | refine ov_u64 (by decide) ?_ | refine ov_u8 (by omega) ?_ | refine ov_i32 (by omega) ?_ | refine ov_u32 (by omega) ?_
  conv => whnf
  refine loop_step ?_
  conv => whnf
  exact hk
theorem has9_4 (hk : K (.bool true) h) : X Tryz.prog 58 #[.string (bs [67, 115, 114]), .int .u8 99] h K := by
  refine fnv (args := _) mixed [] [] [] Tryz.func58 rfl (by kernel_rfl) ?_
  conv => whnf
  iterate 8 (refine seq_false (by decide) ?_; conv => whnf)
  refine seq_true (rfl) ?_
  conv => whnf
  refine loop_step ?_
  conv => whnf
  refine ch_intro (l := [100, 49, 99]) 100 (by decide) rfl ?_
  conv => whnf
  first | refine ov_i64 (by omega) ?_ | refine ov_u64 (by omega) ?_ | refine ov_i64 (by decide) ?_ | refine ov_u64 (by decide) ?_ | refine ov_u8 (by omega) ?_ | refine ov_i32 (by omega) ?_ | refine ov_u32 (by omega) ?_
  conv => whnf
  refine loop_step ?_
  conv => whnf
  refine ch_intro (l := [100, 49, 99]) 49 (by decide) rfl ?_
  conv => whnf
  first | refine ov_i64 (by omega) ?_ | refine ov_u64 (by omega) ?_ | refine ov_i64 (by decide) ?_ | refine ov_u64 (by decide) ?_ | refine ov_u8 (by omega) ?_ | refine ov_i32 (by omega) ?_ | refine ov_u32 (by omega) ?_
  conv => whnf
  refine loop_step ?_
  conv => whnf
  refine ch_intro (l := [100, 49, 99]) 99 (by decide) rfl ?_
  conv => whnf
  exact hk
theorem has9_5 (hk : K (.bool false) h) : X Tryz.prog 58 #[.string (bs [67, 115, 114]), .int .u8 113] h K := by
  refine fnv (args := _) mixed [] [] [] Tryz.func58 rfl (by kernel_rfl) ?_
  conv => whnf
  iterate 8 (refine seq_false (by decide) ?_; conv => whnf)
  refine seq_true (rfl) ?_
  conv => whnf
  refine loop_step ?_
  conv => whnf
  refine ch_intro (l := [100, 49, 99]) 100 (by decide) rfl ?_
  conv => whnf
  first | refine ov_i64 (by omega) ?_ | refine ov_u64 (by omega) ?_ | refine ov_i64 (by decide) ?_ | refine ov_u64 (by decide) ?_ | refine ov_u8 (by omega) ?_ | refine ov_i32 (by omega) ?_ | refine ov_u32 (by omega) ?_
  conv => whnf
  refine loop_step ?_
  conv => whnf
  refine ch_intro (l := [100, 49, 99]) 49 (by decide) rfl ?_
  conv => whnf
  first | refine ov_i64 (by omega) ?_ | refine ov_u64 (by omega) ?_ | refine ov_i64 (by decide) ?_ | refine ov_u64 (by decide) ?_ | refine ov_u8 (by omega) ?_ | refine ov_i32 (by omega) ?_ | refine ov_u32 (by omega) ?_
  conv => whnf
  refine loop_step ?_
  conv => whnf
  refine ch_intro (l := [100, 49, 99]) 99 (by decide) rfl ?_
  conv => whnf
  first | refine ov_i64 (by omega) ?_ | refine ov_u64 (by omega) ?_ | refine ov_i64 (by decide) ?_ | refine ov_u64 (by decide) ?_ | refine ov_u8 (by omega) ?_ | refine ov_i32 (by omega) ?_ | refine ov_u32 (by omega) ?_
  conv => whnf
  refine loop_step ?_
  conv => whnf
  exact hk
theorem has10_0 (hk : K (.bool true) h) : X Tryz.prog 58 #[.string (bs [67, 115, 114, 73]), .int .u8 100] h K := by
  refine fnv (args := _) mixed [] [] [] Tryz.func58 rfl (by kernel_rfl) ?_
  conv => whnf
  iterate 9 (refine seq_false (by decide) ?_; conv => whnf)
  refine seq_true (rfl) ?_
  conv => whnf
  refine loop_step ?_
  conv => whnf
  refine ch_intro (l := [100, 49, 99]) 100 (by decide) rfl ?_
  conv => whnf
  exact hk
theorem has10_1 (hk : K (.bool true) h) : X Tryz.prog 58 #[.string (bs [67, 115, 114, 73]), .int .u8 49] h K := by
  refine fnv (args := _) mixed [] [] [] Tryz.func58 rfl (by kernel_rfl) ?_
  conv => whnf
  iterate 9 (refine seq_false (by decide) ?_; conv => whnf)
  refine seq_true (rfl) ?_
  conv => whnf
  refine loop_step ?_
  conv => whnf
  refine ch_intro (l := [100, 49, 99]) 100 (by decide) rfl ?_
  conv => whnf
  first | refine ov_i64 (by omega) ?_ | refine ov_u64 (by omega) ?_ | refine ov_i64 (by decide) ?_ | refine ov_u64 (by decide) ?_ | refine ov_u8 (by omega) ?_ | refine ov_i32 (by omega) ?_ | refine ov_u32 (by omega) ?_
  conv => whnf
  refine loop_step ?_
  conv => whnf
  refine ch_intro (l := [100, 49, 99]) 49 (by decide) rfl ?_
  conv => whnf
  exact hk
theorem has10_2 (hk : K (.bool false) h) : X Tryz.prog 58 #[.string (bs [67, 115, 114, 73]), .int .u8 50] h K := by
  refine fnv (args := _) mixed [] [] [] Tryz.func58 rfl (by kernel_rfl) ?_
  conv => whnf
  iterate 9 (refine seq_false (by decide) ?_; conv => whnf)
  refine seq_true (rfl) ?_
  conv => whnf
  refine loop_step ?_
  conv => whnf
  refine ch_intro (l := [100, 49, 99]) 100 (by decide) rfl ?_
  conv => whnf
  first | refine ov_i64 (by omega) ?_ | refine ov_u64 (by omega) ?_ | refine ov_i64 (by decide) ?_ | refine ov_u64 (by decide) ?_ | refine ov_u8 (by omega) ?_ | refine ov_i32 (by omega) ?_ | refine ov_u32 (by omega) ?_
  conv => whnf
  refine loop_step ?_
  conv => whnf
  refine ch_intro (l := [100, 49, 99]) 49 (by decide) rfl ?_
  conv => whnf
  first | refine ov_i64 (by omega) ?_ | refine ov_u64 (by omega) ?_ | refine ov_i64 (by decide) ?_ | refine ov_u64 (by decide) ?_ | refine ov_u8 (by omega) ?_ | refine ov_i32 (by omega) ?_ | refine ov_u32 (by omega) ?_
  conv => whnf
  refine loop_step ?_
  conv => whnf
  refine ch_intro (l := [100, 49, 99]) 99 (by decide) rfl ?_
  conv => whnf
  first | refine ov_i64 (by omega) ?_ | refine ov_u64 (by omega) ?_ | refine ov_i64 (by decide) ?_ | refine ov_u64 (by decide) ?_ | refine ov_u8 (by omega) ?_ | refine ov_i32 (by omega) ?_ | refine ov_u32 (by omega) ?_
  conv => whnf
  refine loop_step ?_
  conv => whnf
  exact hk
theorem has10_3 (hk : K (.bool false) h) : X Tryz.prog 58 #[.string (bs [67, 115, 114, 73]), .int .u8 105] h K := by
  refine fnv (args := _) mixed [] [] [] Tryz.func58 rfl (by kernel_rfl) ?_
  conv => whnf
  iterate 9 (refine seq_false (by decide) ?_; conv => whnf)
  refine seq_true (rfl) ?_
  conv => whnf
  refine loop_step ?_
  conv => whnf
  refine ch_intro (l := [100, 49, 99]) 100 (by decide) rfl ?_
  conv => whnf
  first | refine ov_i64 (by omega) ?_ | refine ov_u64 (by omega) ?_ | refine ov_i64 (by decide) ?_ | refine ov_u64 (by decide) ?_ | refine ov_u8 (by omega) ?_ | refine ov_i32 (by omega) ?_ | refine ov_u32 (by omega) ?_
  conv => whnf
  refine loop_step ?_
  conv => whnf
  refine ch_intro (l := [100, 49, 99]) 49 (by decide) rfl ?_
  conv => whnf
  first | refine ov_i64 (by omega) ?_ | refine ov_u64 (by omega) ?_ | refine ov_i64 (by decide) ?_ | refine ov_u64 (by decide) ?_ | refine ov_u8 (by omega) ?_ | refine ov_i32 (by omega) ?_ | refine ov_u32 (by omega) ?_
  conv => whnf
  refine loop_step ?_
  conv => whnf
  refine ch_intro (l := [100, 49, 99]) 99 (by decide) rfl ?_
  conv => whnf
  first | refine ov_i64 (by omega) ?_ | refine ov_u64 (by omega) ?_ | refine ov_i64 (by decide) ?_ | refine ov_u64 (by decide) ?_ | refine ov_u8 (by omega) ?_ | refine ov_i32 (by omega) ?_ | refine ov_u32 (by omega) ?_
  conv => whnf
  refine loop_step ?_
  conv => whnf
  exact hk
theorem has10_4 (hk : K (.bool true) h) : X Tryz.prog 58 #[.string (bs [67, 115, 114, 73]), .int .u8 99] h K := by
  refine fnv (args := _) mixed [] [] [] Tryz.func58 rfl (by kernel_rfl) ?_
  conv => whnf
  iterate 9 (refine seq_false (by decide) ?_; conv => whnf)
  refine seq_true (rfl) ?_
  conv => whnf
  refine loop_step ?_
  conv => whnf
  refine ch_intro (l := [100, 49, 99]) 100 (by decide) rfl ?_
  conv => whnf
  first | refine ov_i64 (by omega) ?_ | refine ov_u64 (by omega) ?_ | refine ov_i64 (by decide) ?_ | refine ov_u64 (by decide) ?_ | refine ov_u8 (by omega) ?_ | refine ov_i32 (by omega) ?_ | refine ov_u32 (by omega) ?_
  conv => whnf
  refine loop_step ?_
  conv => whnf
  refine ch_intro (l := [100, 49, 99]) 49 (by decide) rfl ?_
  conv => whnf
  first | refine ov_i64 (by omega) ?_ | refine ov_u64 (by omega) ?_ | refine ov_i64 (by decide) ?_ | refine ov_u64 (by decide) ?_ | refine ov_u8 (by omega) ?_ | refine ov_i32 (by omega) ?_ | refine ov_u32 (by omega) ?_
  conv => whnf
  refine loop_step ?_
  conv => whnf
  refine ch_intro (l := [100, 49, 99]) 99 (by decide) rfl ?_
  conv => whnf
  exact hk
theorem has10_5 (hk : K (.bool false) h) : X Tryz.prog 58 #[.string (bs [67, 115, 114, 73]), .int .u8 113] h K := by
  refine fnv (args := _) mixed [] [] [] Tryz.func58 rfl (by kernel_rfl) ?_
  conv => whnf
  iterate 9 (refine seq_false (by decide) ?_; conv => whnf)
  refine seq_true (rfl) ?_
  conv => whnf
  refine loop_step ?_
  conv => whnf
  refine ch_intro (l := [100, 49, 99]) 100 (by decide) rfl ?_
  conv => whnf
  first | refine ov_i64 (by omega) ?_ | refine ov_u64 (by omega) ?_ | refine ov_i64 (by decide) ?_ | refine ov_u64 (by decide) ?_ | refine ov_u8 (by omega) ?_ | refine ov_i32 (by omega) ?_ | refine ov_u32 (by omega) ?_
  conv => whnf
  refine loop_step ?_
  conv => whnf
  refine ch_intro (l := [100, 49, 99]) 49 (by decide) rfl ?_
  conv => whnf
  first | refine ov_i64 (by omega) ?_ | refine ov_u64 (by omega) ?_ | refine ov_i64 (by decide) ?_ | refine ov_u64 (by decide) ?_ | refine ov_u8 (by omega) ?_ | refine ov_i32 (by omega) ?_ | refine ov_u32 (by omega) ?_
  conv => whnf
  refine loop_step ?_
  conv => whnf
  refine ch_intro (l := [100, 49, 99]) 99 (by decide) rfl ?_
  conv => whnf
  first | refine ov_i64 (by omega) ?_ | refine ov_u64 (by omega) ?_ | refine ov_i64 (by decide) ?_ | refine ov_u64 (by decide) ?_ | refine ov_u8 (by omega) ?_ | refine ov_i32 (by omega) ?_ | refine ov_u32 (by omega) ?_
  conv => whnf
  refine loop_step ?_
  conv => whnf
  exact hk
theorem has11_0 (hk : K (.bool true) h) : X Tryz.prog 58 #[.string (bs [65]), .int .u8 100] h K := by
  refine fnv (args := _) mixed [] [] [] Tryz.func58 rfl (by kernel_rfl) ?_
  conv => whnf
  iterate 10 (refine seq_false (by decide) ?_; conv => whnf)
  refine seq_true (rfl) ?_
  conv => whnf
  refine loop_step ?_
  conv => whnf
  refine ch_intro (l := [100, 49, 50, 113]) 100 (by decide) rfl ?_
  conv => whnf
  exact hk
theorem has11_1 (hk : K (.bool true) h) : X Tryz.prog 58 #[.string (bs [65]), .int .u8 49] h K := by
  refine fnv (args := _) mixed [] [] [] Tryz.func58 rfl (by kernel_rfl) ?_
  conv => whnf
  iterate 10 (refine seq_false (by decide) ?_; conv => whnf)
  refine seq_true (rfl) ?_
  conv => whnf
  refine loop_step ?_
  conv => whnf
  refine ch_intro (l := [100, 49, 50, 113]) 100 (by decide) rfl ?_
  conv => whnf
  first | refine ov_i64 (by omega) ?_ | refine ov_u64 (by omega) ?_ | refine ov_i64 (by decide) ?_ | refine ov_u64 (by decide) ?_ | refine ov_u8 (by omega) ?_ | refine ov_i32 (by omega) ?_ | refine ov_u32 (by omega) ?_
  conv => whnf
  refine loop_step ?_
  conv => whnf
  refine ch_intro (l := [100, 49, 50, 113]) 49 (by decide) rfl ?_
  conv => whnf
  exact hk
theorem has11_2 (hk : K (.bool true) h) : X Tryz.prog 58 #[.string (bs [65]), .int .u8 50] h K := by
  refine fnv (args := _) mixed [] [] [] Tryz.func58 rfl (by kernel_rfl) ?_
  conv => whnf
  iterate 10 (refine seq_false (by decide) ?_; conv => whnf)
  refine seq_true (rfl) ?_
  conv => whnf
  refine loop_step ?_
  conv => whnf
  refine ch_intro (l := [100, 49, 50, 113]) 100 (by decide) rfl ?_
  conv => whnf
  first | refine ov_i64 (by omega) ?_ | refine ov_u64 (by omega) ?_ | refine ov_i64 (by decide) ?_ | refine ov_u64 (by decide) ?_ | refine ov_u8 (by omega) ?_ | refine ov_i32 (by omega) ?_ | refine ov_u32 (by omega) ?_
  conv => whnf
  refine loop_step ?_
  conv => whnf
  refine ch_intro (l := [100, 49, 50, 113]) 49 (by decide) rfl ?_
  conv => whnf
  first | refine ov_i64 (by omega) ?_ | refine ov_u64 (by omega) ?_ | refine ov_i64 (by decide) ?_ | refine ov_u64 (by decide) ?_ | refine ov_u8 (by omega) ?_ | refine ov_i32 (by omega) ?_ | refine ov_u32 (by omega) ?_
  conv => whnf
  refine loop_step ?_
  conv => whnf
  refine ch_intro (l := [100, 49, 50, 113]) 50 (by decide) rfl ?_
  conv => whnf
  exact hk
theorem has11_3 (hk : K (.bool false) h) : X Tryz.prog 58 #[.string (bs [65]), .int .u8 105] h K := by
  refine fnv (args := _) mixed [] [] [] Tryz.func58 rfl (by kernel_rfl) ?_
  conv => whnf
  iterate 10 (refine seq_false (by decide) ?_; conv => whnf)
  refine seq_true (rfl) ?_
  conv => whnf
  refine loop_step ?_
  conv => whnf
  refine ch_intro (l := [100, 49, 50, 113]) 100 (by decide) rfl ?_
  conv => whnf
  first | refine ov_i64 (by omega) ?_ | refine ov_u64 (by omega) ?_ | refine ov_i64 (by decide) ?_ | refine ov_u64 (by decide) ?_ | refine ov_u8 (by omega) ?_ | refine ov_i32 (by omega) ?_ | refine ov_u32 (by omega) ?_
  conv => whnf
  refine loop_step ?_
  conv => whnf
  refine ch_intro (l := [100, 49, 50, 113]) 49 (by decide) rfl ?_
  conv => whnf
  first | refine ov_i64 (by omega) ?_ | refine ov_u64 (by omega) ?_ | refine ov_i64 (by decide) ?_ | refine ov_u64 (by decide) ?_ | refine ov_u8 (by omega) ?_ | refine ov_i32 (by omega) ?_ | refine ov_u32 (by omega) ?_
  conv => whnf
  refine loop_step ?_
  conv => whnf
  refine ch_intro (l := [100, 49, 50, 113]) 50 (by decide) rfl ?_
  conv => whnf
  first | refine ov_i64 (by omega) ?_ | refine ov_u64 (by omega) ?_ | refine ov_i64 (by decide) ?_ | refine ov_u64 (by decide) ?_ | refine ov_u8 (by omega) ?_ | refine ov_i32 (by omega) ?_ | refine ov_u32 (by omega) ?_
  conv => whnf
  refine loop_step ?_
  conv => whnf
  refine ch_intro (l := [100, 49, 50, 113]) 113 (by decide) rfl ?_
  conv => whnf
  first | refine ov_i64 (by omega) ?_ | refine ov_u64 (by omega) ?_ | refine ov_i64 (by decide) ?_ | refine ov_u64 (by decide) ?_ | refine ov_u8 (by omega) ?_ | refine ov_i32 (by omega) ?_ | refine ov_u32 (by omega) ?_
  conv => whnf
  refine loop_step ?_
  conv => whnf
  exact hk
theorem has11_4 (hk : K (.bool false) h) : X Tryz.prog 58 #[.string (bs [65]), .int .u8 99] h K := by
  refine fnv (args := _) mixed [] [] [] Tryz.func58 rfl (by kernel_rfl) ?_
  conv => whnf
  iterate 10 (refine seq_false (by decide) ?_; conv => whnf)
  refine seq_true (rfl) ?_
  conv => whnf
  refine loop_step ?_
  conv => whnf
  refine ch_intro (l := [100, 49, 50, 113]) 100 (by decide) rfl ?_
  conv => whnf
  first | refine ov_i64 (by omega) ?_ | refine ov_u64 (by omega) ?_ | refine ov_i64 (by decide) ?_ | refine ov_u64 (by decide) ?_ | refine ov_u8 (by omega) ?_ | refine ov_i32 (by omega) ?_ | refine ov_u32 (by omega) ?_
  conv => whnf
  refine loop_step ?_
  conv => whnf
  refine ch_intro (l := [100, 49, 50, 113]) 49 (by decide) rfl ?_
  conv => whnf
  first | refine ov_i64 (by omega) ?_ | refine ov_u64 (by omega) ?_ | refine ov_i64 (by decide) ?_ | refine ov_u64 (by decide) ?_ | refine ov_u8 (by omega) ?_ | refine ov_i32 (by omega) ?_ | refine ov_u32 (by omega) ?_
  conv => whnf
  refine loop_step ?_
  conv => whnf
  refine ch_intro (l := [100, 49, 50, 113]) 50 (by decide) rfl ?_
  conv => whnf
  first | refine ov_i64 (by omega) ?_ | refine ov_u64 (by omega) ?_ | refine ov_i64 (by decide) ?_ | refine ov_u64 (by decide) ?_ | refine ov_u8 (by omega) ?_ | refine ov_i32 (by omega) ?_ | refine ov_u32 (by omega) ?_
  conv => whnf
  refine loop_step ?_
  conv => whnf
  refine ch_intro (l := [100, 49, 50, 113]) 113 (by decide) rfl ?_
  conv => whnf
  first | refine ov_i64 (by omega) ?_ | refine ov_u64 (by omega) ?_ | refine ov_i64 (by decide) ?_ | refine ov_u64 (by decide) ?_ | refine ov_u8 (by omega) ?_ | refine ov_i32 (by omega) ?_ | refine ov_u32 (by omega) ?_
  conv => whnf
  refine loop_step ?_
  conv => whnf
  exact hk
theorem has11_5 (hk : K (.bool true) h) : X Tryz.prog 58 #[.string (bs [65]), .int .u8 113] h K := by
  refine fnv (args := _) mixed [] [] [] Tryz.func58 rfl (by kernel_rfl) ?_
  conv => whnf
  iterate 10 (refine seq_false (by decide) ?_; conv => whnf)
  refine seq_true (rfl) ?_
  conv => whnf
  refine loop_step ?_
  conv => whnf
  refine ch_intro (l := [100, 49, 50, 113]) 100 (by decide) rfl ?_
  conv => whnf
  first | refine ov_i64 (by omega) ?_ | refine ov_u64 (by omega) ?_ | refine ov_i64 (by decide) ?_ | refine ov_u64 (by decide) ?_ | refine ov_u8 (by omega) ?_ | refine ov_i32 (by omega) ?_ | refine ov_u32 (by omega) ?_
  conv => whnf
  refine loop_step ?_
  conv => whnf
  refine ch_intro (l := [100, 49, 50, 113]) 49 (by decide) rfl ?_
  conv => whnf
  first | refine ov_i64 (by omega) ?_ | refine ov_u64 (by omega) ?_ | refine ov_i64 (by decide) ?_ | refine ov_u64 (by decide) ?_ | refine ov_u8 (by omega) ?_ | refine ov_i32 (by omega) ?_ | refine ov_u32 (by omega) ?_
  conv => whnf
  refine loop_step ?_
  conv => whnf
  refine ch_intro (l := [100, 49, 50, 113]) 50 (by decide) rfl ?_
  conv => whnf
  first | refine ov_i64 (by omega) ?_ | refine ov_u64 (by omega) ?_ | refine ov_i64 (by decide) ?_ | refine ov_u64 (by decide) ?_ | refine ov_u8 (by omega) ?_ | refine ov_i32 (by omega) ?_ | refine ov_u32 (by omega) ?_
  conv => whnf
  refine loop_step ?_
  conv => whnf
  refine ch_intro (l := [100, 49, 50, 113]) 113 (by decide) rfl ?_
  conv => whnf
  exact hk
theorem has12_0 (hk : K (.bool true) h) : X Tryz.prog 58 #[.string (bs [76, 114]), .int .u8 100] h K := by
  refine fnv (args := _) mixed [] [] [] Tryz.func58 rfl (by kernel_rfl) ?_
  conv => whnf
  iterate 11 (refine seq_false (by decide) ?_; conv => whnf)
  refine seq_true (rfl) ?_
  conv => whnf
  refine loop_step ?_
  conv => whnf
  refine ch_intro (l := [100, 49, 113]) 100 (by decide) rfl ?_
  conv => whnf
  exact hk
theorem has12_1 (hk : K (.bool true) h) : X Tryz.prog 58 #[.string (bs [76, 114]), .int .u8 49] h K := by
  refine fnv (args := _) mixed [] [] [] Tryz.func58 rfl (by kernel_rfl) ?_
  conv => whnf
  iterate 11 (refine seq_false (by decide) ?_; conv => whnf)
  refine seq_true (rfl) ?_
  conv => whnf
  refine loop_step ?_
  conv => whnf
  refine ch_intro (l := [100, 49, 113]) 100 (by decide) rfl ?_
  conv => whnf
  first | refine ov_i64 (by omega) ?_ | refine ov_u64 (by omega) ?_ | refine ov_i64 (by decide) ?_ | refine ov_u64 (by decide) ?_ | refine ov_u8 (by omega) ?_ | refine ov_i32 (by omega) ?_ | refine ov_u32 (by omega) ?_
  conv => whnf
  refine loop_step ?_
  conv => whnf
  refine ch_intro (l := [100, 49, 113]) 49 (by decide) rfl ?_
  conv => whnf
  exact hk
theorem has12_2 (hk : K (.bool false) h) : X Tryz.prog 58 #[.string (bs [76, 114]), .int .u8 50] h K := by
  refine fnv (args := _) mixed [] [] [] Tryz.func58 rfl (by kernel_rfl) ?_
  conv => whnf
  iterate 11 (refine seq_false (by decide) ?_; conv => whnf)
  refine seq_true (rfl) ?_
  conv => whnf
  refine loop_step ?_
  conv => whnf
  refine ch_intro (l := [100, 49, 113]) 100 (by decide) rfl ?_
  conv => whnf
  first | refine ov_i64 (by omega) ?_ | refine ov_u64 (by omega) ?_ | refine ov_i64 (by decide) ?_ | refine ov_u64 (by decide) ?_ | refine ov_u8 (by omega) ?_ | refine ov_i32 (by omega) ?_ | refine ov_u32 (by omega) ?_
  conv => whnf
  refine loop_step ?_
  conv => whnf
  refine ch_intro (l := [100, 49, 113]) 49 (by decide) rfl ?_
  conv => whnf
  first | refine ov_i64 (by omega) ?_ | refine ov_u64 (by omega) ?_ | refine ov_i64 (by decide) ?_ | refine ov_u64 (by decide) ?_ | refine ov_u8 (by omega) ?_ | refine ov_i32 (by omega) ?_ | refine ov_u32 (by omega) ?_
  conv => whnf
  refine loop_step ?_
  conv => whnf
  refine ch_intro (l := [100, 49, 113]) 113 (by decide) rfl ?_
  conv => whnf
  first | refine ov_i64 (by omega) ?_ | refine ov_u64 (by omega) ?_ | refine ov_i64 (by decide) ?_ | refine ov_u64 (by decide) ?_ | refine ov_u8 (by omega) ?_ | refine ov_i32 (by omega) ?_ | refine ov_u32 (by omega) ?_
  conv => whnf
  refine loop_step ?_
  conv => whnf
  exact hk
theorem has12_3 (hk : K (.bool false) h) : X Tryz.prog 58 #[.string (bs [76, 114]), .int .u8 105] h K := by
  refine fnv (args := _) mixed [] [] [] Tryz.func58 rfl (by kernel_rfl) ?_
  conv => whnf
  iterate 11 (refine seq_false (by decide) ?_; conv => whnf)
  refine seq_true (rfl) ?_
  conv => whnf
  refine loop_step ?_
  conv => whnf
  refine ch_intro (l := [100, 49, 113]) 100 (by decide) rfl ?_
  conv => whnf
  first | refine ov_i64 (by omega) ?_ | refine ov_u64 (by omega) ?_ | refine ov_i64 (by decide) ?_ | refine ov_u64 (by decide) ?_ | refine ov_u8 (by omega) ?_ | refine ov_i32 (by omega) ?_ | refine ov_u32 (by omega) ?_
  conv => whnf
  refine loop_step ?_
  conv => whnf
  refine ch_intro (l := [100, 49, 113]) 49 (by decide) rfl ?_
  conv => whnf
  first | refine ov_i64 (by omega) ?_ | refine ov_u64 (by omega) ?_ | refine ov_i64 (by decide) ?_ | refine ov_u64 (by decide) ?_ | refine ov_u8 (by omega) ?_ | refine ov_i32 (by omega) ?_ | refine ov_u32 (by omega) ?_
  conv => whnf
  refine loop_step ?_
  conv => whnf
  refine ch_intro (l := [100, 49, 113]) 113 (by decide) rfl ?_
  conv => whnf
  first | refine ov_i64 (by omega) ?_ | refine ov_u64 (by omega) ?_ | refine ov_i64 (by decide) ?_ | refine ov_u64 (by decide) ?_ | refine ov_u8 (by omega) ?_ | refine ov_i32 (by omega) ?_ | refine ov_u32 (by omega) ?_
  conv => whnf
  refine loop_step ?_
  conv => whnf
  exact hk
theorem has12_4 (hk : K (.bool false) h) : X Tryz.prog 58 #[.string (bs [76, 114]), .int .u8 99] h K := by
  refine fnv (args := _) mixed [] [] [] Tryz.func58 rfl (by kernel_rfl) ?_
  conv => whnf
  iterate 11 (refine seq_false (by decide) ?_; conv => whnf)
  refine seq_true (rfl) ?_
  conv => whnf
  refine loop_step ?_
  conv => whnf
  refine ch_intro (l := [100, 49, 113]) 100 (by decide) rfl ?_
  conv => whnf
  first | refine ov_i64 (by omega) ?_ | refine ov_u64 (by omega) ?_ | refine ov_i64 (by decide) ?_ | refine ov_u64 (by decide) ?_ | refine ov_u8 (by omega) ?_ | refine ov_i32 (by omega) ?_ | refine ov_u32 (by omega) ?_
  conv => whnf
  refine loop_step ?_
  conv => whnf
  refine ch_intro (l := [100, 49, 113]) 49 (by decide) rfl ?_
  conv => whnf
  first | refine ov_i64 (by omega) ?_ | refine ov_u64 (by omega) ?_ | refine ov_i64 (by decide) ?_ | refine ov_u64 (by decide) ?_ | refine ov_u8 (by omega) ?_ | refine ov_i32 (by omega) ?_ | refine ov_u32 (by omega) ?_
  conv => whnf
  refine loop_step ?_
  conv => whnf
  refine ch_intro (l := [100, 49, 113]) 113 (by decide) rfl ?_
  conv => whnf
  first | refine ov_i64 (by omega) ?_ | refine ov_u64 (by omega) ?_ | refine ov_i64 (by decide) ?_ | refine ov_u64 (by decide) ?_ | refine ov_u8 (by omega) ?_ | refine ov_i32 (by omega) ?_ | refine ov_u32 (by omega) ?_
  conv => whnf
  refine loop_step ?_
  conv => whnf
  exact hk
theorem has12_5 (hk : K (.bool true) h) : X Tryz.prog 58 #[.string (bs [76, 114]), .int .u8 113] h K := by
  refine fnv (args := _) mixed [] [] [] Tryz.func58 rfl (by kernel_rfl) ?_
  conv => whnf
  iterate 11 (refine seq_false (by decide) ?_; conv => whnf)
  refine seq_true (rfl) ?_
  conv => whnf
  refine loop_step ?_
  conv => whnf
  refine ch_intro (l := [100, 49, 113]) 100 (by decide) rfl ?_
  conv => whnf
  first | refine ov_i64 (by omega) ?_ | refine ov_u64 (by omega) ?_ | refine ov_i64 (by decide) ?_ | refine ov_u64 (by decide) ?_ | refine ov_u8 (by omega) ?_ | refine ov_i32 (by omega) ?_ | refine ov_u32 (by omega) ?_
  conv => whnf
  refine loop_step ?_
  conv => whnf
  refine ch_intro (l := [100, 49, 113]) 49 (by decide) rfl ?_
  conv => whnf
  first | refine ov_i64 (by omega) ?_ | refine ov_u64 (by omega) ?_ | refine ov_i64 (by decide) ?_ | refine ov_u64 (by decide) ?_ | refine ov_u8 (by omega) ?_ | refine ov_i32 (by omega) ?_ | refine ov_u32 (by omega) ?_
  conv => whnf
  refine loop_step ?_
  conv => whnf
  refine ch_intro (l := [100, 49, 113]) 113 (by decide) rfl ?_
  conv => whnf
  exact hk
theorem has13_0 (hk : K (.bool false) h) : X Tryz.prog 58 #[.string (bs [66, 97, 114, 101]), .int .u8 100] h K := by
  refine fnv (args := _) mixed [] [] [] Tryz.func58 rfl (by kernel_rfl) ?_
  conv => whnf
  iterate 13 (refine seq_false (by decide) ?_; conv => whnf)
  refine loop_step ?_
  conv => whnf
  exact hk
theorem has13_1 (hk : K (.bool false) h) : X Tryz.prog 58 #[.string (bs [66, 97, 114, 101]), .int .u8 49] h K := by
  refine fnv (args := _) mixed [] [] [] Tryz.func58 rfl (by kernel_rfl) ?_
  conv => whnf
  iterate 13 (refine seq_false (by decide) ?_; conv => whnf)
  refine loop_step ?_
  conv => whnf
  exact hk
theorem has13_2 (hk : K (.bool false) h) : X Tryz.prog 58 #[.string (bs [66, 97, 114, 101]), .int .u8 50] h K := by
  refine fnv (args := _) mixed [] [] [] Tryz.func58 rfl (by kernel_rfl) ?_
  conv => whnf
  iterate 13 (refine seq_false (by decide) ?_; conv => whnf)
  refine loop_step ?_
  conv => whnf
  exact hk
theorem has13_3 (hk : K (.bool false) h) : X Tryz.prog 58 #[.string (bs [66, 97, 114, 101]), .int .u8 105] h K := by
  refine fnv (args := _) mixed [] [] [] Tryz.func58 rfl (by kernel_rfl) ?_
  conv => whnf
  iterate 13 (refine seq_false (by decide) ?_; conv => whnf)
  refine loop_step ?_
  conv => whnf
  exact hk
theorem has13_4 (hk : K (.bool false) h) : X Tryz.prog 58 #[.string (bs [66, 97, 114, 101]), .int .u8 99] h K := by
  refine fnv (args := _) mixed [] [] [] Tryz.func58 rfl (by kernel_rfl) ?_
  conv => whnf
  iterate 13 (refine seq_false (by decide) ?_; conv => whnf)
  refine loop_step ?_
  conv => whnf
  exact hk
theorem has13_5 (hk : K (.bool false) h) : X Tryz.prog 58 #[.string (bs [66, 97, 114, 101]), .int .u8 113] h K := by
  refine fnv (args := _) mixed [] [] [] Tryz.func58 rfl (by kernel_rfl) ?_
  conv => whnf
  iterate 13 (refine seq_false (by decide) ?_; conv => whnf)
  refine loop_step ?_
  conv => whnf
  exact hk
theorem has14_0 (hk : K (.bool false) h) : X Tryz.prog 58 #[.string (bs [83, 102, 101, 110, 99, 101]), .int .u8 100] h K := by
  refine fnv (args := _) mixed [] [] [] Tryz.func58 rfl (by kernel_rfl) ?_
  conv => whnf
  iterate 12 (refine seq_false (by decide) ?_; conv => whnf)
  refine seq_true (rfl) ?_
  conv => whnf
  refine loop_step ?_
  conv => whnf
  refine ch_intro (l := [49, 50]) 49 (by decide) rfl ?_
  conv => whnf
  first | refine ov_i64 (by omega) ?_ | refine ov_u64 (by omega) ?_ | refine ov_i64 (by decide) ?_ | refine ov_u64 (by decide) ?_ | refine ov_u8 (by omega) ?_ | refine ov_i32 (by omega) ?_ | refine ov_u32 (by omega) ?_
  conv => whnf
  refine loop_step ?_
  conv => whnf
  refine ch_intro (l := [49, 50]) 50 (by decide) rfl ?_
  conv => whnf
  first | refine ov_i64 (by omega) ?_ | refine ov_u64 (by omega) ?_ | refine ov_i64 (by decide) ?_ | refine ov_u64 (by decide) ?_ | refine ov_u8 (by omega) ?_ | refine ov_i32 (by omega) ?_ | refine ov_u32 (by omega) ?_
  conv => whnf
  refine loop_step ?_
  conv => whnf
  exact hk
theorem has14_1 (hk : K (.bool true) h) : X Tryz.prog 58 #[.string (bs [83, 102, 101, 110, 99, 101]), .int .u8 49] h K := by
  refine fnv (args := _) mixed [] [] [] Tryz.func58 rfl (by kernel_rfl) ?_
  conv => whnf
  iterate 12 (refine seq_false (by decide) ?_; conv => whnf)
  refine seq_true (rfl) ?_
  conv => whnf
  refine loop_step ?_
  conv => whnf
  refine ch_intro (l := [49, 50]) 49 (by decide) rfl ?_
  conv => whnf
  exact hk
theorem has14_2 (hk : K (.bool true) h) : X Tryz.prog 58 #[.string (bs [83, 102, 101, 110, 99, 101]), .int .u8 50] h K := by
  refine fnv (args := _) mixed [] [] [] Tryz.func58 rfl (by kernel_rfl) ?_
  conv => whnf
  iterate 12 (refine seq_false (by decide) ?_; conv => whnf)
  refine seq_true (rfl) ?_
  conv => whnf
  refine loop_step ?_
  conv => whnf
  refine ch_intro (l := [49, 50]) 49 (by decide) rfl ?_
  conv => whnf
  first | refine ov_i64 (by omega) ?_ | refine ov_u64 (by omega) ?_ | refine ov_i64 (by decide) ?_ | refine ov_u64 (by decide) ?_ | refine ov_u8 (by omega) ?_ | refine ov_i32 (by omega) ?_ | refine ov_u32 (by omega) ?_
  conv => whnf
  refine loop_step ?_
  conv => whnf
  refine ch_intro (l := [49, 50]) 50 (by decide) rfl ?_
  conv => whnf
  exact hk
theorem has14_3 (hk : K (.bool false) h) : X Tryz.prog 58 #[.string (bs [83, 102, 101, 110, 99, 101]), .int .u8 105] h K := by
  refine fnv (args := _) mixed [] [] [] Tryz.func58 rfl (by kernel_rfl) ?_
  conv => whnf
  iterate 12 (refine seq_false (by decide) ?_; conv => whnf)
  refine seq_true (rfl) ?_
  conv => whnf
  refine loop_step ?_
  conv => whnf
  refine ch_intro (l := [49, 50]) 49 (by decide) rfl ?_
  conv => whnf
  first | refine ov_i64 (by omega) ?_ | refine ov_u64 (by omega) ?_ | refine ov_i64 (by decide) ?_ | refine ov_u64 (by decide) ?_ | refine ov_u8 (by omega) ?_ | refine ov_i32 (by omega) ?_ | refine ov_u32 (by omega) ?_
  conv => whnf
  refine loop_step ?_
  conv => whnf
  refine ch_intro (l := [49, 50]) 50 (by decide) rfl ?_
  conv => whnf
  first | refine ov_i64 (by omega) ?_ | refine ov_u64 (by omega) ?_ | refine ov_i64 (by decide) ?_ | refine ov_u64 (by decide) ?_ | refine ov_u8 (by omega) ?_ | refine ov_i32 (by omega) ?_ | refine ov_u32 (by omega) ?_
  conv => whnf
  refine loop_step ?_
  conv => whnf
  exact hk
theorem has14_4 (hk : K (.bool false) h) : X Tryz.prog 58 #[.string (bs [83, 102, 101, 110, 99, 101]), .int .u8 99] h K := by
  refine fnv (args := _) mixed [] [] [] Tryz.func58 rfl (by kernel_rfl) ?_
  conv => whnf
  iterate 12 (refine seq_false (by decide) ?_; conv => whnf)
  refine seq_true (rfl) ?_
  conv => whnf
  refine loop_step ?_
  conv => whnf
  refine ch_intro (l := [49, 50]) 49 (by decide) rfl ?_
  conv => whnf
  first | refine ov_i64 (by omega) ?_ | refine ov_u64 (by omega) ?_ | refine ov_i64 (by decide) ?_ | refine ov_u64 (by decide) ?_ | refine ov_u8 (by omega) ?_ | refine ov_i32 (by omega) ?_ | refine ov_u32 (by omega) ?_
  conv => whnf
  refine loop_step ?_
  conv => whnf
  refine ch_intro (l := [49, 50]) 50 (by decide) rfl ?_
  conv => whnf
  first | refine ov_i64 (by omega) ?_ | refine ov_u64 (by omega) ?_ | refine ov_i64 (by decide) ?_ | refine ov_u64 (by decide) ?_ | refine ov_u8 (by omega) ?_ | refine ov_i32 (by omega) ?_ | refine ov_u32 (by omega) ?_
  conv => whnf
  refine loop_step ?_
  conv => whnf
  exact hk
theorem has14_5 (hk : K (.bool false) h) : X Tryz.prog 58 #[.string (bs [83, 102, 101, 110, 99, 101]), .int .u8 113] h K := by
  refine fnv (args := _) mixed [] [] [] Tryz.func58 rfl (by kernel_rfl) ?_
  conv => whnf
  iterate 12 (refine seq_false (by decide) ?_; conv => whnf)
  refine seq_true (rfl) ?_
  conv => whnf
  refine loop_step ?_
  conv => whnf
  refine ch_intro (l := [49, 50]) 49 (by decide) rfl ?_
  conv => whnf
  first | refine ov_i64 (by omega) ?_ | refine ov_u64 (by omega) ?_ | refine ov_i64 (by decide) ?_ | refine ov_u64 (by decide) ?_ | refine ov_u8 (by omega) ?_ | refine ov_i32 (by omega) ?_ | refine ov_u32 (by omega) ?_
  conv => whnf
  refine loop_step ?_
  conv => whnf
  refine ch_intro (l := [49, 50]) 50 (by decide) rfl ?_
  conv => whnf
  first | refine ov_i64 (by omega) ?_ | refine ov_u64 (by omega) ?_ | refine ov_i64 (by decide) ?_ | refine ov_u64 (by decide) ?_ | refine ov_u8 (by omega) ?_ | refine ov_i32 (by omega) ?_ | refine ov_u32 (by omega) ?_
  conv => whnf
  refine loop_step ?_
  conv => whnf
  exact hk
theorem has_x (f : Nat) (hf : f < 15) (j : Nat) (hj : j < 6) (hk : K (.bool ((fieldsL.getD f []).getD j false)) h) : X Tryz.prog 58 #[.string (bs (fmtS.getD f [])), .int .u8 (([100, 49, 50, 105, 99, 113] : List Nat).getD j 0 : Nat)] h K := by
  match f, hf, j, hj, hk with
  | 0, _, 0, _, hk => exact has0_0 hk
  | 0, _, 1, _, hk => exact has0_1 hk
  | 0, _, 2, _, hk => exact has0_2 hk
  | 0, _, 3, _, hk => exact has0_3 hk
  | 0, _, 4, _, hk => exact has0_4 hk
  | 0, _, 5, _, hk => exact has0_5 hk
  | 1, _, 0, _, hk => exact has1_0 hk
  | 1, _, 1, _, hk => exact has1_1 hk
  | 1, _, 2, _, hk => exact has1_2 hk
  | 1, _, 3, _, hk => exact has1_3 hk
  | 1, _, 4, _, hk => exact has1_4 hk
  | 1, _, 5, _, hk => exact has1_5 hk
  | 2, _, 0, _, hk => exact has2_0 hk
  | 2, _, 1, _, hk => exact has2_1 hk
  | 2, _, 2, _, hk => exact has2_2 hk
  | 2, _, 3, _, hk => exact has2_3 hk
  | 2, _, 4, _, hk => exact has2_4 hk
  | 2, _, 5, _, hk => exact has2_5 hk
  | 3, _, 0, _, hk => exact has3_0 hk
  | 3, _, 1, _, hk => exact has3_1 hk
  | 3, _, 2, _, hk => exact has3_2 hk
  | 3, _, 3, _, hk => exact has3_3 hk
  | 3, _, 4, _, hk => exact has3_4 hk
  | 3, _, 5, _, hk => exact has3_5 hk
  | 4, _, 0, _, hk => exact has4_0 hk
  | 4, _, 1, _, hk => exact has4_1 hk
  | 4, _, 2, _, hk => exact has4_2 hk
  | 4, _, 3, _, hk => exact has4_3 hk
  | 4, _, 4, _, hk => exact has4_4 hk
  | 4, _, 5, _, hk => exact has4_5 hk
  | 5, _, 0, _, hk => exact has5_0 hk
  | 5, _, 1, _, hk => exact has5_1 hk
  | 5, _, 2, _, hk => exact has5_2 hk
  | 5, _, 3, _, hk => exact has5_3 hk
  | 5, _, 4, _, hk => exact has5_4 hk
  | 5, _, 5, _, hk => exact has5_5 hk
  | 6, _, 0, _, hk => exact has6_0 hk
  | 6, _, 1, _, hk => exact has6_1 hk
  | 6, _, 2, _, hk => exact has6_2 hk
  | 6, _, 3, _, hk => exact has6_3 hk
  | 6, _, 4, _, hk => exact has6_4 hk
  | 6, _, 5, _, hk => exact has6_5 hk
  | 7, _, 0, _, hk => exact has7_0 hk
  | 7, _, 1, _, hk => exact has7_1 hk
  | 7, _, 2, _, hk => exact has7_2 hk
  | 7, _, 3, _, hk => exact has7_3 hk
  | 7, _, 4, _, hk => exact has7_4 hk
  | 7, _, 5, _, hk => exact has7_5 hk
  | 8, _, 0, _, hk => exact has8_0 hk
  | 8, _, 1, _, hk => exact has8_1 hk
  | 8, _, 2, _, hk => exact has8_2 hk
  | 8, _, 3, _, hk => exact has8_3 hk
  | 8, _, 4, _, hk => exact has8_4 hk
  | 8, _, 5, _, hk => exact has8_5 hk
  | 9, _, 0, _, hk => exact has9_0 hk
  | 9, _, 1, _, hk => exact has9_1 hk
  | 9, _, 2, _, hk => exact has9_2 hk
  | 9, _, 3, _, hk => exact has9_3 hk
  | 9, _, 4, _, hk => exact has9_4 hk
  | 9, _, 5, _, hk => exact has9_5 hk
  | 10, _, 0, _, hk => exact has10_0 hk
  | 10, _, 1, _, hk => exact has10_1 hk
  | 10, _, 2, _, hk => exact has10_2 hk
  | 10, _, 3, _, hk => exact has10_3 hk
  | 10, _, 4, _, hk => exact has10_4 hk
  | 10, _, 5, _, hk => exact has10_5 hk
  | 11, _, 0, _, hk => exact has11_0 hk
  | 11, _, 1, _, hk => exact has11_1 hk
  | 11, _, 2, _, hk => exact has11_2 hk
  | 11, _, 3, _, hk => exact has11_3 hk
  | 11, _, 4, _, hk => exact has11_4 hk
  | 11, _, 5, _, hk => exact has11_5 hk
  | 12, _, 0, _, hk => exact has12_0 hk
  | 12, _, 1, _, hk => exact has12_1 hk
  | 12, _, 2, _, hk => exact has12_2 hk
  | 12, _, 3, _, hk => exact has12_3 hk
  | 12, _, 4, _, hk => exact has12_4 hk
  | 12, _, 5, _, hk => exact has12_5 hk
  | 13, _, 0, _, hk => exact has13_0 hk
  | 13, _, 1, _, hk => exact has13_1 hk
  | 13, _, 2, _, hk => exact has13_2 hk
  | 13, _, 3, _, hk => exact has13_3 hk
  | 13, _, 4, _, hk => exact has13_4 hk
  | 13, _, 5, _, hk => exact has13_5 hk
  | 14, _, 0, _, hk => exact has14_0 hk
  | 14, _, 1, _, hk => exact has14_1 hk
  | 14, _, 2, _, hk => exact has14_2 hk
  | 14, _, 3, _, hk => exact has14_3 hk
  | 14, _, 4, _, hk => exact has14_4 hk
  | 14, _, 5, _, hk => exact has14_5 hk
  | f + 15, hf, _, _, _ => exact absurd hf (by omega)
  | _, _, j + 6, hj, _ => exact absurd hj (by omega)
end
end Go.Proofs.YtlobclgbbhoeiaaGreatDoor
