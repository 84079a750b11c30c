/-
  Instructions as words: which fields a format has, the document's (printed by a program).
-/
import Derived.Test.YtlobclgbbhoeiaaGreatDoorAsZc
namespace Go.Proofs.YtlobclgbbhoeiaaGreatDoor
set_option linter.unusedSimpArgs false
set_option linter.unusedVariables false
open Go Go.Mid Go.RowKit
attribute [local irreducible] mid
section
set_option maxHeartbeats 8000000
set_option maxRecDepth 10000
variable {h : Hp} {K : Value → Hp → Prop}
theorem has0_x (c : UInt8) (hk : K (.bool (([] : Str).contains c)) h) : X Tryz.prog 58 #[.string (bs []), .int .u8 c.toNat] h K := by
  refine fnv (args := _) mixed [] [] [] Tryz.func58 rfl (by kernel_rfl) ?_; conv => whnf
  iterate 13 (refine seq_false (by decide) ?_; conv => whnf)
  refine loop_step ?_; conv => whnf
  exact hk
theorem has1_x (c : UInt8) (hk : K (.bool (([100, 49, 50] : Str).contains c)) h) : X Tryz.prog 58 #[.string (bs [82]), .int .u8 c.toNat] h K := by
  have n100 : (100 : UInt8).toNat = 100 := rfl
  have n49 : (49 : UInt8).toNat = 49 := rfl
  have n50 : (50 : UInt8).toNat = 50 := rfl
  refine fnv (args := _) mixed [] [] [] Tryz.func58 rfl (by kernel_rfl) ?_; conv => whnf
  refine seq_true (rfl) ?_; conv => whnf
  refine loop_step ?_; conv => whnf
  refine ch_intro (l := [100, 49, 50]) 100 (by decide) rfl ?_
  conv => whnf
  refine bsel_intro (fun q0 => ?_) (fun q0 => ?_) <;> try simp only [bsL] at q0
  · obtain rfl : c = 100 := UInt8.toNat_inj.1 (by omega)
    conv => whnf
    exact hk
  conv => whnf
  (first | refine ov_c (by simp only [loK, hiK]; omega) ?_ | refine ov_c (by decide) ?_); conv => whnf
  refine loop_step ?_; conv => whnf
  refine ch_intro (l := [100, 49, 50]) 49 (by decide) rfl ?_
  conv => whnf
  refine bsel_intro (fun q1 => ?_) (fun q1 => ?_) <;> try simp only [bsL] at q1
  · obtain rfl : c = 49 := UInt8.toNat_inj.1 (by omega)
    conv => whnf
    exact hk
  conv => whnf
  (first | refine ov_c (by simp only [loK, hiK]; omega) ?_ | refine ov_c (by decide) ?_); conv => whnf
  refine loop_step ?_; conv => whnf
  refine ch_intro (l := [100, 49, 50]) 50 (by decide) rfl ?_
  conv => whnf
  refine bsel_intro (fun q2 => ?_) (fun q2 => ?_) <;> try simp only [bsL] at q2
  · obtain rfl : c = 50 := UInt8.toNat_inj.1 (by omega)
    conv => whnf
    exact hk
  conv => whnf
  (first | refine ov_c (by simp only [loK, hiK]; omega) ?_ | refine ov_c (by decide) ?_); conv => whnf
  refine loop_step ?_; conv => whnf
  exact kq hk (bI (by
    cases hc : ([100, 49, 50] : Str).contains c with
    | false => rfl
    | true =>
      have hm := List.contains_iff_mem.1 hc
      simp only [List.mem_cons, List.not_mem_nil, or_false] at hm
      rcases hm with rfl | rfl | rfl
      · exact absurd rfl q0
      · exact absurd rfl q1
      · exact absurd rfl q2))
theorem has2_x (c : UInt8) (hk : K (.bool (([100, 49, 105] : Str).contains c)) h) : X Tryz.prog 58 #[.string (bs [73]), .int .u8 c.toNat] h K := by
  have n100 : (100 : UInt8).toNat = 100 := rfl
  have n49 : (49 : UInt8).toNat = 49 := rfl
  have n105 : (105 : UInt8).toNat = 105 := rfl
  refine fnv (args := _) mixed [] [] [] Tryz.func58 rfl (by kernel_rfl) ?_; conv => whnf
  refine seq_false ((by decide)) ?_; conv => whnf
  refine seq_true (rfl) ?_; conv => whnf
  refine loop_step ?_; conv => whnf
  refine ch_intro (l := [100, 49, 105]) 100 (by decide) rfl ?_
  conv => whnf
  refine bsel_intro (fun q0 => ?_) (fun q0 => ?_) <;> try simp only [bsL] at q0
  · obtain rfl : c = 100 := UInt8.toNat_inj.1 (by omega)
    conv => whnf
    exact hk
  conv => whnf
  (first | refine ov_c (by simp only [loK, hiK]; omega) ?_ | refine ov_c (by decide) ?_); conv => whnf
  refine loop_step ?_; conv => whnf
  refine ch_intro (l := [100, 49, 105]) 49 (by decide) rfl ?_
  conv => whnf
  refine bsel_intro (fun q1 => ?_) (fun q1 => ?_) <;> try simp only [bsL] at q1
  · obtain rfl : c = 49 := UInt8.toNat_inj.1 (by omega)
    conv => whnf
    exact hk
  conv => whnf
  (first | refine ov_c (by simp only [loK, hiK]; omega) ?_ | refine ov_c (by decide) ?_); conv => whnf
  refine loop_step ?_; conv => whnf
  refine ch_intro (l := [100, 49, 105]) 105 (by decide) rfl ?_
  conv => whnf
  refine bsel_intro (fun q2 => ?_) (fun q2 => ?_) <;> try simp only [bsL] at q2
  · obtain rfl : c = 105 := UInt8.toNat_inj.1 (by omega)
    conv => whnf
    exact hk
  conv => whnf
  (first | refine ov_c (by simp only [loK, hiK]; omega) ?_ | refine ov_c (by decide) ?_); conv => whnf
  refine loop_step ?_; conv => whnf
  exact kq hk (bI (by
    cases hc : ([100, 49, 105] : Str).contains c with
    | false => rfl
    | true =>
      have hm := List.contains_iff_mem.1 hc
      simp only [List.mem_cons, List.not_mem_nil, or_false] at hm
      rcases hm with rfl | rfl | rfl
      · exact absurd rfl q0
      · exact absurd rfl q1
      · exact absurd rfl q2))
theorem has3_x (c : UInt8) (hk : K (.bool (([49, 50, 105] : Str).contains c)) h) : X Tryz.prog 58 #[.string (bs [83]), .int .u8 c.toNat] h K := by
  have n49 : (49 : UInt8).toNat = 49 := rfl
  have n50 : (50 : UInt8).toNat = 50 := rfl
  have n105 : (105 : UInt8).toNat = 105 := rfl
  refine fnv (args := _) mixed [] [] [] Tryz.func58 rfl (by kernel_rfl) ?_; conv => whnf
  iterate 4 (refine seq_false (by decide) ?_; conv => whnf)
  refine seq_true (rfl) ?_; conv => whnf
  refine loop_step ?_; conv => whnf
  refine ch_intro (l := [49, 50, 105]) 49 (by decide) rfl ?_
  conv => whnf
  refine bsel_intro (fun q0 => ?_) (fun q0 => ?_) <;> try simp only [bsL] at q0
  · obtain rfl : c = 49 := UInt8.toNat_inj.1 (by omega)
    conv => whnf
    exact hk
  conv => whnf
  (first | refine ov_c (by simp only [loK, hiK]; omega) ?_ | refine ov_c (by decide) ?_); conv => whnf
  refine loop_step ?_; conv => whnf
  refine ch_intro (l := [49, 50, 105]) 50 (by decide) rfl ?_
  conv => whnf
  refine bsel_intro (fun q1 => ?_) (fun q1 => ?_) <;> try simp only [bsL] at q1
  · obtain rfl : c = 50 := UInt8.toNat_inj.1 (by omega)
    conv => whnf
    exact hk
  conv => whnf
  (first | refine ov_c (by simp only [loK, hiK]; omega) ?_ | refine ov_c (by decide) ?_); conv => whnf
  refine loop_step ?_; conv => whnf
  refine ch_intro (l := [49, 50, 105]) 105 (by decide) rfl ?_
  conv => whnf
  refine bsel_intro (fun q2 => ?_) (fun q2 => ?_) <;> try simp only [bsL] at q2
  · obtain rfl : c = 105 := UInt8.toNat_inj.1 (by omega)
    conv => whnf
    exact hk
  conv => whnf
  (first | refine ov_c (by simp only [loK, hiK]; omega) ?_ | refine ov_c (by decide) ?_); conv => whnf
  refine loop_step ?_; conv => whnf
  exact kq hk (bI (by
    cases hc : ([49, 50, 105] : Str).contains c with
    | false => rfl
    | true =>
      have hm := List.contains_iff_mem.1 hc
      simp only [List.mem_cons, List.not_mem_nil, or_false] at hm
      rcases hm with rfl | rfl | rfl
      · exact absurd rfl q0
      · exact absurd rfl q1
      · exact absurd rfl q2))
theorem has4_x (c : UInt8) (hk : K (.bool (([49, 50, 105] : Str).contains c)) h) : X Tryz.prog 58 #[.string (bs [66]), .int .u8 c.toNat] h K := by
  have n49 : (49 : UInt8).toNat = 49 := rfl
  have n50 : (50 : UInt8).toNat = 50 := rfl
  have n105 : (105 : UInt8).toNat = 105 := rfl
  refine fnv (args := _) mixed [] [] [] Tryz.func58 rfl (by kernel_rfl) ?_; conv => whnf
  iterate 5 (refine seq_false (by decide) ?_; conv => whnf)
  refine seq_true (rfl) ?_; conv => whnf
  refine loop_step ?_; conv => whnf
  refine ch_intro (l := [49, 50, 105]) 49 (by decide) rfl ?_
  conv => whnf
  refine bsel_intro (fun q0 => ?_) (fun q0 => ?_) <;> try simp only [bsL] at q0
  · obtain rfl : c = 49 := UInt8.toNat_inj.1 (by omega)
    conv => whnf
    exact hk
  conv => whnf
  (first | refine ov_c (by simp only [loK, hiK]; omega) ?_ | refine ov_c (by decide) ?_); conv => whnf
  refine loop_step ?_; conv => whnf
  refine ch_intro (l := [49, 50, 105]) 50 (by decide) rfl ?_
  conv => whnf
  refine bsel_intro (fun q1 => ?_) (fun q1 => ?_) <;> try simp only [bsL] at q1
  · obtain rfl : c = 50 := UInt8.toNat_inj.1 (by omega)
    conv => whnf
    exact hk
  conv => whnf
  (first | refine ov_c (by simp only [loK, hiK]; omega) ?_ | refine ov_c (by decide) ?_); conv => whnf
  refine loop_step ?_; conv => whnf
  refine ch_intro (l := [49, 50, 105]) 105 (by decide) rfl ?_
  conv => whnf
  refine bsel_intro (fun q2 => ?_) (fun q2 => ?_) <;> try simp only [bsL] at q2
  · obtain rfl : c = 105 := UInt8.toNat_inj.1 (by omega)
    conv => whnf
    exact hk
  conv => whnf
  (first | refine ov_c (by simp only [loK, hiK]; omega) ?_ | refine ov_c (by decide) ?_); conv => whnf
  refine loop_step ?_; conv => whnf
  exact kq hk (bI (by
    cases hc : ([49, 50, 105] : Str).contains c with
    | false => rfl
    | true =>
      have hm := List.contains_iff_mem.1 hc
      simp only [List.mem_cons, List.not_mem_nil, or_false] at hm
      rcases hm with rfl | rfl | rfl
      · exact absurd rfl q0
      · exact absurd rfl q1
      · exact absurd rfl q2))
theorem has5_x (c : UInt8) (hk : K (.bool (([100, 105] : Str).contains c)) h) : X Tryz.prog 58 #[.string (bs [85]), .int .u8 c.toNat] h K := by
  have n100 : (100 : UInt8).toNat = 100 := rfl
  have n105 : (105 : UInt8).toNat = 105 := rfl
  refine fnv (args := _) mixed [] [] [] Tryz.func58 rfl (by kernel_rfl) ?_; conv => whnf
  iterate 6 (refine seq_false (by decide) ?_; conv => whnf)
  refine seq_true (rfl) ?_; conv => whnf
  refine loop_step ?_; conv => whnf
  refine ch_intro (l := [100, 105]) 100 (by decide) rfl ?_
  conv => whnf
  refine bsel_intro (fun q0 => ?_) (fun q0 => ?_) <;> try simp only [bsL] at q0
  · obtain rfl : c = 100 := UInt8.toNat_inj.1 (by omega)
    conv => whnf
    exact hk
  conv => whnf
  (first | refine ov_c (by simp only [loK, hiK]; omega) ?_ | refine ov_c (by decide) ?_); conv => whnf
  refine loop_step ?_; conv => whnf
  refine ch_intro (l := [100, 105]) 105 (by decide) rfl ?_
  conv => whnf
  refine bsel_intro (fun q1 => ?_) (fun q1 => ?_) <;> try simp only [bsL] at q1
  · obtain rfl : c = 105 := UInt8.toNat_inj.1 (by omega)
    conv => whnf
    exact hk
  conv => whnf
  (first | refine ov_c (by simp only [loK, hiK]; omega) ?_ | refine ov_c (by decide) ?_); conv => whnf
  refine loop_step ?_; conv => whnf
  exact kq hk (bI (by
    cases hc : ([100, 105] : Str).contains c with
    | false => rfl
    | true =>
      have hm := List.contains_iff_mem.1 hc
      simp only [List.mem_cons, List.not_mem_nil, or_false] at hm
      rcases hm with rfl | rfl
      · exact absurd rfl q0
      · exact absurd rfl q1))
theorem has6_x (c : UInt8) (hk : K (.bool (([100, 105] : Str).contains c)) h) : X Tryz.prog 58 #[.string (bs [74]), .int .u8 c.toNat] h K := by
  have n100 : (100 : UInt8).toNat = 100 := rfl
  have n105 : (105 : UInt8).toNat = 105 := rfl
  refine fnv (args := _) mixed [] [] [] Tryz.func58 rfl (by kernel_rfl) ?_; conv => whnf
  iterate 7 (refine seq_false (by decide) ?_; conv => whnf)
  refine seq_true (rfl) ?_; conv => whnf
  refine loop_step ?_; conv => whnf
  refine ch_intro (l := [100, 105]) 100 (by decide) rfl ?_
  conv => whnf
  refine bsel_intro (fun q0 => ?_) (fun q0 => ?_) <;> try simp only [bsL] at q0
  · obtain rfl : c = 100 := UInt8.toNat_inj.1 (by omega)
    conv => whnf
    exact hk
  conv => whnf
  (first | refine ov_c (by simp only [loK, hiK]; omega) ?_ | refine ov_c (by decide) ?_); conv => whnf
  refine loop_step ?_; conv => whnf
  refine ch_intro (l := [100, 105]) 105 (by decide) rfl ?_
  conv => whnf
  refine bsel_intro (fun q1 => ?_) (fun q1 => ?_) <;> try simp only [bsL] at q1
  · obtain rfl : c = 105 := UInt8.toNat_inj.1 (by omega)
    conv => whnf
    exact hk
  conv => whnf
  (first | refine ov_c (by simp only [loK, hiK]; omega) ?_ | refine ov_c (by decide) ?_); conv => whnf
  refine loop_step ?_; conv => whnf
  exact kq hk (bI (by
    cases hc : ([100, 105] : Str).contains c with
    | false => rfl
    | true =>
      have hm := List.contains_iff_mem.1 hc
      simp only [List.mem_cons, List.not_mem_nil, or_false] at hm
      rcases hm with rfl | rfl
      · exact absurd rfl q0
      · exact absurd rfl q1))
theorem has7_x (c : UInt8) (hk : K (.bool (([100, 49, 105] : Str).contains c)) h) : X Tryz.prog 58 #[.string (bs [83, 104, 105, 102, 116]), .int .u8 c.toNat] h K := by
  have n100 : (100 : UInt8).toNat = 100 := rfl
  have n49 : (49 : UInt8).toNat = 49 := rfl
  have n105 : (105 : UInt8).toNat = 105 := rfl
  refine fnv (args := _) mixed [] [] [] Tryz.func58 rfl (by kernel_rfl) ?_; conv => whnf
  iterate 2 (refine seq_false (by decide) ?_; conv => whnf)
  refine seq_true (rfl) ?_; conv => whnf
  refine loop_step ?_; conv => whnf
  refine ch_intro (l := [100, 49, 105]) 100 (by decide) rfl ?_
  conv => whnf
  refine bsel_intro (fun q0 => ?_) (fun q0 => ?_) <;> try simp only [bsL] at q0
  · obtain rfl : c = 100 := UInt8.toNat_inj.1 (by omega)
    conv => whnf
    exact hk
  conv => whnf
  (first | refine ov_c (by simp only [loK, hiK]; omega) ?_ | refine ov_c (by decide) ?_); conv => whnf
  refine loop_step ?_; conv => whnf
  refine ch_intro (l := [100, 49, 105]) 49 (by decide) rfl ?_
  conv => whnf
  refine bsel_intro (fun q1 => ?_) (fun q1 => ?_) <;> try simp only [bsL] at q1
  · obtain rfl : c = 49 := UInt8.toNat_inj.1 (by omega)
    conv => whnf
    exact hk
  conv => whnf
  (first | refine ov_c (by simp only [loK, hiK]; omega) ?_ | refine ov_c (by decide) ?_); conv => whnf
  refine loop_step ?_; conv => whnf
  refine ch_intro (l := [100, 49, 105]) 105 (by decide) rfl ?_
  conv => whnf
  refine bsel_intro (fun q2 => ?_) (fun q2 => ?_) <;> try simp only [bsL] at q2
  · obtain rfl : c = 105 := UInt8.toNat_inj.1 (by omega)
    conv => whnf
    exact hk
  conv => whnf
  (first | refine ov_c (by simp only [loK, hiK]; omega) ?_ | refine ov_c (by decide) ?_); conv => whnf
  refine loop_step ?_; conv => whnf
  exact kq hk (bI (by
    cases hc : ([100, 49, 105] : Str).contains c with
    | false => rfl
    | true =>
      have hm := List.contains_iff_mem.1 hc
      simp only [List.mem_cons, List.not_mem_nil, or_false] at hm
      rcases hm with rfl | rfl | rfl
      · exact absurd rfl q0
      · exact absurd rfl q1
      · exact absurd rfl q2))
theorem has8_x (c : UInt8) (hk : K (.bool (([100, 49, 105] : Str).contains c)) h) : X Tryz.prog 58 #[.string (bs [83, 104, 105, 102, 116, 87]), .int .u8 c.toNat] h K := by
  have n100 : (100 : UInt8).toNat = 100 := rfl
  have n49 : (49 : UInt8).toNat = 49 := rfl
  have n105 : (105 : UInt8).toNat = 105 := rfl
  refine fnv (args := _) mixed [] [] [] Tryz.func58 rfl (by kernel_rfl) ?_; conv => whnf
  iterate 3 (refine seq_false (by decide) ?_; conv => whnf)
  refine seq_true (rfl) ?_; conv => whnf
  refine loop_step ?_; conv => whnf
  refine ch_intro (l := [100, 49, 105]) 100 (by decide) rfl ?_
  conv => whnf
  refine bsel_intro (fun q0 => ?_) (fun q0 => ?_) <;> try simp only [bsL] at q0
  · obtain rfl : c = 100 := UInt8.toNat_inj.1 (by omega)
    conv => whnf
    exact hk
  conv => whnf
  (first | refine ov_c (by simp only [loK, hiK]; omega) ?_ | refine ov_c (by decide) ?_); conv => whnf
  refine loop_step ?_; conv => whnf
  refine ch_intro (l := [100, 49, 105]) 49 (by decide) rfl ?_
  conv => whnf
  refine bsel_intro (fun q1 => ?_) (fun q1 => ?_) <;> try simp only [bsL] at q1
  · obtain rfl : c = 49 := UInt8.toNat_inj.1 (by omega)
    conv => whnf
    exact hk
  conv => whnf
  (first | refine ov_c (by simp only [loK, hiK]; omega) ?_ | refine ov_c (by decide) ?_); conv => whnf
  refine loop_step ?_; conv => whnf
  refine ch_intro (l := [100, 49, 105]) 105 (by decide) rfl ?_
  conv => whnf
  refine bsel_intro (fun q2 => ?_) (fun q2 => ?_) <;> try simp only [bsL] at q2
  · obtain rfl : c = 105 := UInt8.toNat_inj.1 (by omega)
    conv => whnf
    exact hk
  conv => whnf
  (first | refine ov_c (by simp only [loK, hiK]; omega) ?_ | refine ov_c (by decide) ?_); conv => whnf
  refine loop_step ?_; conv => whnf
  exact kq hk (bI (by
    cases hc : ([100, 49, 105] : Str).contains c with
    | false => rfl
    | true =>
      have hm := List.contains_iff_mem.1 hc
      simp only [List.mem_cons, List.not_mem_nil, or_false] at hm
      rcases hm with rfl | rfl | rfl
      · exact absurd rfl q0
      · exact absurd rfl q1
      · exact absurd rfl q2))
theorem has9_x (c : UInt8) (hk : K (.bool (([100, 49, 99] : Str).contains c)) h) : X Tryz.prog 58 #[.string (bs [67, 115, 114]), .int .u8 c.toNat] h K := by
  have n100 : (100 : UInt8).toNat = 100 := rfl
  have n49 : (49 : UInt8).toNat = 49 := rfl
  have n99 : (99 : UInt8).toNat = 99 := rfl
  refine fnv (args := _) mixed [] [] [] Tryz.func58 rfl (by kernel_rfl) ?_; conv => whnf
  iterate 8 (refine seq_false (by decide) ?_; conv => whnf)
  refine seq_true (rfl) ?_; conv => whnf
  refine loop_step ?_; conv => whnf
  refine ch_intro (l := [100, 49, 99]) 100 (by decide) rfl ?_
  conv => whnf
  refine bsel_intro (fun q0 => ?_) (fun q0 => ?_) <;> try simp only [bsL] at q0
  · obtain rfl : c = 100 := UInt8.toNat_inj.1 (by omega)
    conv => whnf
    exact hk
  conv => whnf
  (first | refine ov_c (by simp only [loK, hiK]; omega) ?_ | refine ov_c (by decide) ?_); conv => whnf
  refine loop_step ?_; conv => whnf
  refine ch_intro (l := [100, 49, 99]) 49 (by decide) rfl ?_
  conv => whnf
  refine bsel_intro (fun q1 => ?_) (fun q1 => ?_) <;> try simp only [bsL] at q1
  · obtain rfl : c = 49 := UInt8.toNat_inj.1 (by omega)
    conv => whnf
    exact hk
  conv => whnf
  (first | refine ov_c (by simp only [loK, hiK]; omega) ?_ | refine ov_c (by decide) ?_); conv => whnf
  refine loop_step ?_; conv => whnf
  refine ch_intro (l := [100, 49, 99]) 99 (by decide) rfl ?_
  conv => whnf
  refine bsel_intro (fun q2 => ?_) (fun q2 => ?_) <;> try simp only [bsL] at q2
  · obtain rfl : c = 99 := UInt8.toNat_inj.1 (by omega)
    conv => whnf
    exact hk
  conv => whnf
  (first | refine ov_c (by simp only [loK, hiK]; omega) ?_ | refine ov_c (by decide) ?_); conv => whnf
  refine loop_step ?_; conv => whnf
  exact kq hk (bI (by
    cases hc : ([100, 49, 99] : Str).contains c with
    | false => rfl
    | true =>
      have hm := List.contains_iff_mem.1 hc
      simp only [List.mem_cons, List.not_mem_nil, or_false] at hm
      rcases hm with rfl | rfl | rfl
      · exact absurd rfl q0
      · exact absurd rfl q1
      · exact absurd rfl q2))
theorem has10_x (c : UInt8) (hk : K (.bool (([100, 49, 99] : Str).contains c)) h) : X Tryz.prog 58 #[.string (bs [67, 115, 114, 73]), .int .u8 c.toNat] h K := by
  have n100 : (100 : UInt8).toNat = 100 := rfl
  have n49 : (49 : UInt8).toNat = 49 := rfl
  have n99 : (99 : UInt8).toNat = 99 := rfl
  refine fnv (args := _) mixed [] [] [] Tryz.func58 rfl (by kernel_rfl) ?_; conv => whnf
  iterate 9 (refine seq_false (by decide) ?_; conv => whnf)
  refine seq_true (rfl) ?_; conv => whnf
  refine loop_step ?_; conv => whnf
  refine ch_intro (l := [100, 49, 99]) 100 (by decide) rfl ?_
  conv => whnf
  refine bsel_intro (fun q0 => ?_) (fun q0 => ?_) <;> try simp only [bsL] at q0
  · obtain rfl : c = 100 := UInt8.toNat_inj.1 (by omega)
    conv => whnf
    exact hk
  conv => whnf
  (first | refine ov_c (by simp only [loK, hiK]; omega) ?_ | refine ov_c (by decide) ?_); conv => whnf
  refine loop_step ?_; conv => whnf
  refine ch_intro (l := [100, 49, 99]) 49 (by decide) rfl ?_
  conv => whnf
  refine bsel_intro (fun q1 => ?_) (fun q1 => ?_) <;> try simp only [bsL] at q1
  · obtain rfl : c = 49 := UInt8.toNat_inj.1 (by omega)
    conv => whnf
    exact hk
  conv => whnf
  (first | refine ov_c (by simp only [loK, hiK]; omega) ?_ | refine ov_c (by decide) ?_); conv => whnf
  refine loop_step ?_; conv => whnf
  refine ch_intro (l := [100, 49, 99]) 99 (by decide) rfl ?_
  conv => whnf
  refine bsel_intro (fun q2 => ?_) (fun q2 => ?_) <;> try simp only [bsL] at q2
  · obtain rfl : c = 99 := UInt8.toNat_inj.1 (by omega)
    conv => whnf
    exact hk
  conv => whnf
  (first | refine ov_c (by simp only [loK, hiK]; omega) ?_ | refine ov_c (by decide) ?_); conv => whnf
  refine loop_step ?_; conv => whnf
  exact kq hk (bI (by
    cases hc : ([100, 49, 99] : Str).contains c with
    | false => rfl
    | true =>
      have hm := List.contains_iff_mem.1 hc
      simp only [List.mem_cons, List.not_mem_nil, or_false] at hm
      rcases hm with rfl | rfl | rfl
      · exact absurd rfl q0
      · exact absurd rfl q1
      · exact absurd rfl q2))
theorem has11_x (c : UInt8) (hk : K (.bool (([100, 49, 50, 113] : Str).contains c)) h) : X Tryz.prog 58 #[.string (bs [65]), .int .u8 c.toNat] h K := by
  have n100 : (100 : UInt8).toNat = 100 := rfl
  have n49 : (49 : UInt8).toNat = 49 := rfl
  have n50 : (50 : UInt8).toNat = 50 := rfl
  have n113 : (113 : UInt8).toNat = 113 := rfl
  refine fnv (args := _) mixed [] [] [] Tryz.func58 rfl (by kernel_rfl) ?_; conv => whnf
  iterate 10 (refine seq_false (by decide) ?_; conv => whnf)
  refine seq_true (rfl) ?_; conv => whnf
  refine loop_step ?_; conv => whnf
  refine ch_intro (l := [100, 49, 50, 113]) 100 (by decide) rfl ?_
  conv => whnf
  refine bsel_intro (fun q0 => ?_) (fun q0 => ?_) <;> try simp only [bsL] at q0
  · obtain rfl : c = 100 := UInt8.toNat_inj.1 (by omega)
    conv => whnf
    exact hk
  conv => whnf
  (first | refine ov_c (by simp only [loK, hiK]; omega) ?_ | refine ov_c (by decide) ?_); conv => whnf
  refine loop_step ?_; conv => whnf
  refine ch_intro (l := [100, 49, 50, 113]) 49 (by decide) rfl ?_
  conv => whnf
  refine bsel_intro (fun q1 => ?_) (fun q1 => ?_) <;> try simp only [bsL] at q1
  · obtain rfl : c = 49 := UInt8.toNat_inj.1 (by omega)
    conv => whnf
    exact hk
  conv => whnf
  (first | refine ov_c (by simp only [loK, hiK]; omega) ?_ | refine ov_c (by decide) ?_); conv => whnf
  refine loop_step ?_; conv => whnf
  refine ch_intro (l := [100, 49, 50, 113]) 50 (by decide) rfl ?_
  conv => whnf
  refine bsel_intro (fun q2 => ?_) (fun q2 => ?_) <;> try simp only [bsL] at q2
  · obtain rfl : c = 50 := UInt8.toNat_inj.1 (by omega)
    conv => whnf
    exact hk
  conv => whnf
  (first | refine ov_c (by simp only [loK, hiK]; omega) ?_ | refine ov_c (by decide) ?_); conv => whnf
  refine loop_step ?_; conv => whnf
  refine ch_intro (l := [100, 49, 50, 113]) 113 (by decide) rfl ?_
  conv => whnf
  refine bsel_intro (fun q3 => ?_) (fun q3 => ?_) <;> try simp only [bsL] at q3
  · obtain rfl : c = 113 := UInt8.toNat_inj.1 (by omega)
    conv => whnf
    exact hk
  conv => whnf
  (first | refine ov_c (by simp only [loK, hiK]; omega) ?_ | refine ov_c (by decide) ?_); conv => whnf
  refine loop_step ?_; conv => whnf
  exact kq hk (bI (by
    cases hc : ([100, 49, 50, 113] : Str).contains c with
    | false => rfl
    | true =>
      have hm := List.contains_iff_mem.1 hc
      simp only [List.mem_cons, List.not_mem_nil, or_false] at hm
      rcases hm with rfl | rfl | rfl | rfl
      · exact absurd rfl q0
      · exact absurd rfl q1
      · exact absurd rfl q2
      · exact absurd rfl q3))
theorem has12_x (c : UInt8) (hk : K (.bool (([100, 49, 113] : Str).contains c)) h) : X Tryz.prog 58 #[.string (bs [76, 114]), .int .u8 c.toNat] h K := by
  have n100 : (100 : UInt8).toNat = 100 := rfl
  have n49 : (49 : UInt8).toNat = 49 := rfl
  have n113 : (113 : UInt8).toNat = 113 := rfl
  refine fnv (args := _) mixed [] [] [] Tryz.func58 rfl (by kernel_rfl) ?_; conv => whnf
  iterate 11 (refine seq_false (by decide) ?_; conv => whnf)
  refine seq_true (rfl) ?_; conv => whnf
  refine loop_step ?_; conv => whnf
  refine ch_intro (l := [100, 49, 113]) 100 (by decide) rfl ?_
  conv => whnf
  refine bsel_intro (fun q0 => ?_) (fun q0 => ?_) <;> try simp only [bsL] at q0
  · obtain rfl : c = 100 := UInt8.toNat_inj.1 (by omega)
    conv => whnf
    exact hk
  conv => whnf
  (first | refine ov_c (by simp only [loK, hiK]; omega) ?_ | refine ov_c (by decide) ?_); conv => whnf
  refine loop_step ?_; conv => whnf
  refine ch_intro (l := [100, 49, 113]) 49 (by decide) rfl ?_
  conv => whnf
  refine bsel_intro (fun q1 => ?_) (fun q1 => ?_) <;> try simp only [bsL] at q1
  · obtain rfl : c = 49 := UInt8.toNat_inj.1 (by omega)
    conv => whnf
    exact hk
  conv => whnf
  (first | refine ov_c (by simp only [loK, hiK]; omega) ?_ | refine ov_c (by decide) ?_); conv => whnf
  refine loop_step ?_; conv => whnf
  refine ch_intro (l := [100, 49, 113]) 113 (by decide) rfl ?_
  conv => whnf
  refine bsel_intro (fun q2 => ?_) (fun q2 => ?_) <;> try simp only [bsL] at q2
  · obtain rfl : c = 113 := UInt8.toNat_inj.1 (by omega)
    conv => whnf
    exact hk
  conv => whnf
  (first | refine ov_c (by simp only [loK, hiK]; omega) ?_ | refine ov_c (by decide) ?_); conv => whnf
  refine loop_step ?_; conv => whnf
  exact kq hk (bI (by
    cases hc : ([100, 49, 113] : Str).contains c with
    | false => rfl
    | true =>
      have hm := List.contains_iff_mem.1 hc
      simp only [List.mem_cons, List.not_mem_nil, or_false] at hm
      rcases hm with rfl | rfl | rfl
      · exact absurd rfl q0
      · exact absurd rfl q1
      · exact absurd rfl q2))
theorem has13_x (c : UInt8) (hk : K (.bool (([] : Str).contains c)) h) : X Tryz.prog 58 #[.string (bs [66, 97, 114, 101]), .int .u8 c.toNat] h K := by
  refine fnv (args := _) mixed [] [] [] Tryz.func58 rfl (by kernel_rfl) ?_; conv => whnf
  iterate 13 (refine seq_false (by decide) ?_; conv => whnf)
  refine loop_step ?_; conv => whnf
  exact hk
theorem has14_x (c : UInt8) (hk : K (.bool (([49, 50] : Str).contains c)) h) : X Tryz.prog 58 #[.string (bs [83, 102, 101, 110, 99, 101]), .int .u8 c.toNat] h K := by
  have n49 : (49 : UInt8).toNat = 49 := rfl
  have n50 : (50 : UInt8).toNat = 50 := rfl
  refine fnv (args := _) mixed [] [] [] Tryz.func58 rfl (by kernel_rfl) ?_; conv => whnf
  iterate 12 (refine seq_false (by decide) ?_; conv => whnf)
  refine seq_true (rfl) ?_; conv => whnf
  refine loop_step ?_; conv => whnf
  refine ch_intro (l := [49, 50]) 49 (by decide) rfl ?_
  conv => whnf
  refine bsel_intro (fun q0 => ?_) (fun q0 => ?_) <;> try simp only [bsL] at q0
  · obtain rfl : c = 49 := UInt8.toNat_inj.1 (by omega)
    conv => whnf
    exact hk
  conv => whnf
  (first | refine ov_c (by simp only [loK, hiK]; omega) ?_ | refine ov_c (by decide) ?_); conv => whnf
  refine loop_step ?_; conv => whnf
  refine ch_intro (l := [49, 50]) 50 (by decide) rfl ?_
  conv => whnf
  refine bsel_intro (fun q1 => ?_) (fun q1 => ?_) <;> try simp only [bsL] at q1
  · obtain rfl : c = 50 := UInt8.toNat_inj.1 (by omega)
    conv => whnf
    exact hk
  conv => whnf
  (first | refine ov_c (by simp only [loK, hiK]; omega) ?_ | refine ov_c (by decide) ?_); conv => whnf
  refine loop_step ?_; conv => whnf
  exact kq hk (bI (by
    cases hc : ([49, 50] : Str).contains c with
    | false => rfl
    | true =>
      have hm := List.contains_iff_mem.1 hc
      simp only [List.mem_cons, List.not_mem_nil, or_false] at hm
      rcases hm with rfl | rfl
      · exact absurd rfl q0
      · exact absurd rfl q1))
theorem has_x (f : Nat) (hf : f < 15) (j : Nat) (hj : j < 6) (hk : K (.bool ((fieldsL.getD f []).getD j false)) h) : X Tryz.prog 58 #[.string (bs (fmtS.getD f [])), .int .u8 (([100, 49, 50, 105, 99, 113] : List Nat).getD j 0 : Nat)] h K := by
  match f, hf, j, hj, hk with
  | 0, _, 0, _, hk => exact has0_x 100 hk
  | 0, _, 1, _, hk => exact has0_x 49 hk
  | 0, _, 2, _, hk => exact has0_x 50 hk
  | 0, _, 3, _, hk => exact has0_x 105 hk
  | 0, _, 4, _, hk => exact has0_x 99 hk
  | 0, _, 5, _, hk => exact has0_x 113 hk
  | 1, _, 0, _, hk => exact has1_x 100 hk
  | 1, _, 1, _, hk => exact has1_x 49 hk
  | 1, _, 2, _, hk => exact has1_x 50 hk
  | 1, _, 3, _, hk => exact has1_x 105 hk
  | 1, _, 4, _, hk => exact has1_x 99 hk
  | 1, _, 5, _, hk => exact has1_x 113 hk
  | 2, _, 0, _, hk => exact has2_x 100 hk
  | 2, _, 1, _, hk => exact has2_x 49 hk
  | 2, _, 2, _, hk => exact has2_x 50 hk
  | 2, _, 3, _, hk => exact has2_x 105 hk
  | 2, _, 4, _, hk => exact has2_x 99 hk
  | 2, _, 5, _, hk => exact has2_x 113 hk
  | 3, _, 0, _, hk => exact has3_x 100 hk
  | 3, _, 1, _, hk => exact has3_x 49 hk
  | 3, _, 2, _, hk => exact has3_x 50 hk
  | 3, _, 3, _, hk => exact has3_x 105 hk
  | 3, _, 4, _, hk => exact has3_x 99 hk
  | 3, _, 5, _, hk => exact has3_x 113 hk
  | 4, _, 0, _, hk => exact has4_x 100 hk
  | 4, _, 1, _, hk => exact has4_x 49 hk
  | 4, _, 2, _, hk => exact has4_x 50 hk
  | 4, _, 3, _, hk => exact has4_x 105 hk
  | 4, _, 4, _, hk => exact has4_x 99 hk
  | 4, _, 5, _, hk => exact has4_x 113 hk
  | 5, _, 0, _, hk => exact has5_x 100 hk
  | 5, _, 1, _, hk => exact has5_x 49 hk
  | 5, _, 2, _, hk => exact has5_x 50 hk
  | 5, _, 3, _, hk => exact has5_x 105 hk
  | 5, _, 4, _, hk => exact has5_x 99 hk
  | 5, _, 5, _, hk => exact has5_x 113 hk
  | 6, _, 0, _, hk => exact has6_x 100 hk
  | 6, _, 1, _, hk => exact has6_x 49 hk
  | 6, _, 2, _, hk => exact has6_x 50 hk
  | 6, _, 3, _, hk => exact has6_x 105 hk
  | 6, _, 4, _, hk => exact has6_x 99 hk
  | 6, _, 5, _, hk => exact has6_x 113 hk
  | 7, _, 0, _, hk => exact has7_x 100 hk
  | 7, _, 1, _, hk => exact has7_x 49 hk
  | 7, _, 2, _, hk => exact has7_x 50 hk
  | 7, _, 3, _, hk => exact has7_x 105 hk
  | 7, _, 4, _, hk => exact has7_x 99 hk
  | 7, _, 5, _, hk => exact has7_x 113 hk
  | 8, _, 0, _, hk => exact has8_x 100 hk
  | 8, _, 1, _, hk => exact has8_x 49 hk
  | 8, _, 2, _, hk => exact has8_x 50 hk
  | 8, _, 3, _, hk => exact has8_x 105 hk
  | 8, _, 4, _, hk => exact has8_x 99 hk
  | 8, _, 5, _, hk => exact has8_x 113 hk
  | 9, _, 0, _, hk => exact has9_x 100 hk
  | 9, _, 1, _, hk => exact has9_x 49 hk
  | 9, _, 2, _, hk => exact has9_x 50 hk
  | 9, _, 3, _, hk => exact has9_x 105 hk
  | 9, _, 4, _, hk => exact has9_x 99 hk
  | 9, _, 5, _, hk => exact has9_x 113 hk
  | 10, _, 0, _, hk => exact has10_x 100 hk
  | 10, _, 1, _, hk => exact has10_x 49 hk
  | 10, _, 2, _, hk => exact has10_x 50 hk
  | 10, _, 3, _, hk => exact has10_x 105 hk
  | 10, _, 4, _, hk => exact has10_x 99 hk
  | 10, _, 5, _, hk => exact has10_x 113 hk
  | 11, _, 0, _, hk => exact has11_x 100 hk
  | 11, _, 1, _, hk => exact has11_x 49 hk
  | 11, _, 2, _, hk => exact has11_x 50 hk
  | 11, _, 3, _, hk => exact has11_x 105 hk
  | 11, _, 4, _, hk => exact has11_x 99 hk
  | 11, _, 5, _, hk => exact has11_x 113 hk
  | 12, _, 0, _, hk => exact has12_x 100 hk
  | 12, _, 1, _, hk => exact has12_x 49 hk
  | 12, _, 2, _, hk => exact has12_x 50 hk
  | 12, _, 3, _, hk => exact has12_x 105 hk
  | 12, _, 4, _, hk => exact has12_x 99 hk
  | 12, _, 5, _, hk => exact has12_x 113 hk
  | 13, _, 0, _, hk => exact has13_x 100 hk
  | 13, _, 1, _, hk => exact has13_x 49 hk
  | 13, _, 2, _, hk => exact has13_x 50 hk
  | 13, _, 3, _, hk => exact has13_x 105 hk
  | 13, _, 4, _, hk => exact has13_x 99 hk
  | 13, _, 5, _, hk => exact has13_x 113 hk
  | 14, _, 0, _, hk => exact has14_x 100 hk
  | 14, _, 1, _, hk => exact has14_x 49 hk
  | 14, _, 2, _, hk => exact has14_x 50 hk
  | 14, _, 3, _, hk => exact has14_x 105 hk
  | 14, _, 4, _, hk => exact has14_x 99 hk
  | 14, _, 5, _, hk => exact has14_x 113 hk
  | f + 15, hf, _, _, _ => exact absurd hf (by omega)
  | _, _, j + 6, hj, _ => exact absurd hj (by omega)
end
end Go.Proofs.YtlobclgbbhoeiaaGreatDoor
