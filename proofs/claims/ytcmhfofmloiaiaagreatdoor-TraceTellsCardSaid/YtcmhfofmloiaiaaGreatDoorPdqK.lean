/-
  Heats compared.
-/
import Derived.Test.YtcmhfofmloiaiaaGreatDoorMidZ
import Derived.Test.YtcmhfofmloiaiaaGreatDoorLib0
namespace Go.Proofs.YtcmhfofmloiaiaaGreatDoor
set_option linter.unusedSimpArgs false
set_option linter.unusedVariables false
open Go Go.Mid Go.RowKit
attribute [local irreducible] mid
section
set_option maxHeartbeats 8000000
set_option maxRecDepth 10000
variable {h : Hp} {K : Value → Hp → Prop}
def cmpI (a b : Int) : Int := if a < b then -1 else if a > b then 1 else 0
theorem cmpInt_x (a b : Int) (hk : K (.int .i64 (cmpI a b)) h) : X Tryz.prog 24 #[.int .i64 a, .int .i64 b] h K := by
  have nan : ∀ (x : Int) (K : Value → Hp → Prop), K (.bool false) h → X Tryz.prog 48 #[.int .i64 x] h K := fun x K hk => by
    refine fnv (args := _) mixed [] [] [] Tryz.func48 rfl (by kernel_rfl) ?_
    conv => whnf
    exact kq hk (bI (by simp))
  unfold cmpI at hk
  refine fnv (args := _) mixed [] [] [] Tryz.func24 rfl (by kernel_rfl) ?_
  conv => whnf
  refine nan a _ ?_
  conv => whnf
  refine nan b _ ?_
  conv => whnf
  refine bsel_intro (fun q1 => ?_) (fun q1 => ?_) <;> try simp only [decide_eq_true_eq, decide_eq_false_iff_not, beq_iff_eq, beq_eq_false_iff_ne, ne_eq, Bool.not_eq_true', Bool.not_eq_false', bne_iff_ne, bne_eq_false_iff_eq, Bool.not_eq_true, Bool.not_eq_false, Bool.and_eq_true, Bool.or_eq_true, bs_size] at q1
  · rw [if_pos q1] at hk
    conv => whnf
    exact hk
  · rw [if_neg q1] at hk
    conv => whnf
    refine bsel_intro (fun q2 => ?_) (fun q2 => ?_) <;> try simp only [decide_eq_true_eq, decide_eq_false_iff_not, beq_iff_eq, beq_eq_false_iff_ne, ne_eq, Bool.not_eq_true', Bool.not_eq_false', bne_iff_ne, bne_eq_false_iff_eq, Bool.not_eq_true, Bool.not_eq_false, Bool.and_eq_true, Bool.or_eq_true, bs_size] at q2
    · rw [if_pos (by omega)] at hk
      conv => whnf
      exact hk
    · rw [if_neg (by omega)] at hk
      conv => whnf
      exact hk
theorem cmpU_x (a b : Int) (hk : K (.int .i64 (cmpI a b)) h) : X Tryz.prog 25 #[.int .u64 a, .int .u64 b] h K := by
  have nan : ∀ (x : Int) (K : Value → Hp → Prop), K (.bool false) h → X Tryz.prog 49 #[.int .u64 x] h K := fun x K hk => by
    refine fnv (args := _) mixed [] [] [] Tryz.func49 rfl (by kernel_rfl) ?_
    conv => whnf
    exact kq hk (bI (by simp))
  unfold cmpI at hk
  refine fnv (args := _) mixed [] [] [] Tryz.func25 rfl (by kernel_rfl) ?_
  conv => whnf
  refine nan a _ ?_
  conv => whnf
  refine nan b _ ?_
  conv => whnf
  refine bsel_intro (fun q1 => ?_) (fun q1 => ?_) <;> try simp only [decide_eq_true_eq, decide_eq_false_iff_not, beq_iff_eq, beq_eq_false_iff_ne, ne_eq, Bool.not_eq_true', Bool.not_eq_false', bne_iff_ne, bne_eq_false_iff_eq, Bool.not_eq_true, Bool.not_eq_false, Bool.and_eq_true, Bool.or_eq_true, bs_size] at q1
  · rw [if_pos q1] at hk
    conv => whnf
    exact hk
  · rw [if_neg q1] at hk
    conv => whnf
    refine bsel_intro (fun q2 => ?_) (fun q2 => ?_) <;> try simp only [decide_eq_true_eq, decide_eq_false_iff_not, beq_iff_eq, beq_eq_false_iff_ne, ne_eq, Bool.not_eq_true', Bool.not_eq_false', bne_iff_ne, bne_eq_false_iff_eq, Bool.not_eq_true, Bool.not_eq_false, Bool.and_eq_true, Bool.or_eq_true, bs_size] at q2
    · rw [if_pos (by omega)] at hk
      conv => whnf
      exact hk
    · rw [if_neg (by omega)] at hk
      conv => whnf
      exact hk
theorem aggIn3 : isAggT Tryz.prog 3 = some false := by kernel_rfl
theorem cmpOr_x {y : Nat} (a b : Int) (hy : h y = some (rowO 3 [.int .i64 a, .int .i64 b])) (hk : K (.int .i64 (if a ≠ 0 then a else b)) h) : X Tryz.prog 23 #[.slice (some ⟨y, 0, none⟩) 2 2] h K := by
  refine fnv (args := _) mixed [] [] [] Tryz.func23 rfl (by kernel_rfl) ?_
  conv => whnf
  refine loop_step ?_
  conv => whnf
  refine ⟨_, loadC1 (i := 0) aggIn3 hy rfl, ?_⟩
  conv => whnf
  refine bsel_intro (fun q1 => ?_) (fun q1 => ?_) <;> try simp only [decide_eq_true_eq, decide_eq_false_iff_not, beq_iff_eq, beq_eq_false_iff_ne, ne_eq, Bool.not_eq_true', Bool.not_eq_false', bne_iff_ne, bne_eq_false_iff_eq, Bool.not_eq_true, Bool.not_eq_false, Bool.and_eq_true, Bool.or_eq_true, bs_size] at q1
  · rw [if_pos q1] at hk
    conv => whnf
    exact hk
  · rw [if_neg (fun hh => hh q1)] at hk
    conv => whnf
    first | refine ov_i64 (by omega) ?_ | refine ov_u64 (by omega) ?_ | refine ov_i64 (by decide) ?_ | refine ov_u64 (by decide) ?_ | refine ov_u8 (by omega) ?_ | refine ov_i32 (by omega) ?_ | refine ov_u32 (by omega) ?_
    conv => whnf
    refine loop_step ?_
    conv => whnf
    refine ⟨_, loadC1 (i := 1) aggIn3 hy rfl, ?_⟩
    conv => whnf
    refine bsel_intro (fun q2 => ?_) (fun q2 => ?_) <;> try simp only [decide_eq_true_eq, decide_eq_false_iff_not, beq_iff_eq, beq_eq_false_iff_ne, ne_eq, Bool.not_eq_true', Bool.not_eq_false', bne_iff_ne, bne_eq_false_iff_eq, Bool.not_eq_true, Bool.not_eq_false, Bool.and_eq_true, Bool.or_eq_true, bs_size] at q2
    · conv => whnf
      exact hk
    · have : b = 0 := by simpa using q2
      subst this
      conv => whnf
      first | refine ov_i64 (by omega) ?_ | refine ov_u64 (by omega) ?_ | refine ov_i64 (by decide) ?_ | refine ov_u64 (by decide) ?_ | refine ov_u8 (by omega) ?_ | refine ov_i32 (by omega) ?_ | refine ov_u32 (by omega) ?_
      conv => whnf
      refine loop_step ?_
      conv => whnf
      exact hk
end
end Go.Proofs.YtcmhfofmloiaiaaGreatDoor
