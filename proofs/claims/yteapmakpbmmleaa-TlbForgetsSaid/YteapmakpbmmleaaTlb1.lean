/-
  Pages and bits: of the program and as the document tells them.
-/
import Derived.Test.YteapmakpbmmleaaMidQ
import Derived.Test.YteapmakpbmmleaaProg
import Derived.KernelRfl
import Derived.IntWalk
namespace Go.Proofs.Yteapmakpbmmleaa
set_option linter.unusedSimpArgs false
set_option linter.unusedVariables false
open Go Go.Mid Go.RowKit
attribute [local irreducible] mid structOk
theorem mixed : Try.prog.follows .mixedOrders = true := by kernel_rfl
theorem kq {K : Value → Hp → Prop} {v v' : Value} {h : Hp} (hk : K v h) (e : v' = v) : K v' h := e ▸ hk
theorem bI {a b : Bool} (h : a = b) : Value.bool a = Value.bool b := by rw [h]
theorem iI {k : IntKind} {a b : Int} (h : a = b) : Value.int k a = Value.int k b := by rw [h]
def thereI (l : Int) : Bool := decide (0 ≤ l ∧ l ≤ 2)
def sizeI (l : Int) : Int := if l = 0 then 4096 else if l = 1 then 2097152 else if l = 2 then 1073741824 else 0
def pageI (va l : Int) : Int := if 0 ≤ l ∧ l ≤ 2 then va / sizeI l * sizeI l else va
def globI (p : Int) : Bool := decide (p / 32 % 2 = 1)
theorem andNot_low (k : Nat) (hk : k ≤ 63) (va : Int) (hva : 0 ≤ va ∧ va < 2 ^ 64) : IntKind.u64.wrap (BitVec.ofInt IntKind.u64.bits va &&& ~~~BitVec.ofInt IntKind.u64.bits (2 ^ k - 1)).toNat = va / 2 ^ k * 2 ^ k := by
  obtain ⟨n, rfl⟩ : ∃ n : Nat, va = n := ⟨va.toNat, by omega⟩
  have hn : n < 2 ^ 64 := by omega
  have e1 : (BitVec.ofInt IntKind.u64.bits (n : Int) &&& ~~~BitVec.ofInt IntKind.u64.bits (2 ^ k - 1)).toNat = n / 2 ^ k * 2 ^ k := by
    show (BitVec.ofInt 64 (n : Int) &&& ~~~BitVec.ofInt 64 (2 ^ k - 1)).toNat = _
    have h1 : BitVec.ofInt 64 (n : Int) = BitVec.ofNat 64 n := by apply BitVec.eq_of_toNat_eq; simp
    have hp : 1 ≤ 2 ^ k := Nat.one_le_two_pow
    have h2 : BitVec.ofInt 64 (2 ^ k - 1) = BitVec.ofNat 64 (2 ^ k - 1) := by
      have : ((2 : Int) ^ k - 1) = ((2 ^ k - 1 : Nat) : Int) := by rw [Int.natCast_sub hp]; simp
      rw [this]
      apply BitVec.eq_of_toNat_eq; simp
    rw [h1, h2]
    have h3 : n / 2 ^ k * 2 ^ k = (BitVec.ofNat 64 n >>> k <<< k).toNat := by
      simp only [BitVec.toNat_shiftLeft, BitVec.toNat_ushiftRight, BitVec.toNat_ofNat, Nat.shiftRight_eq_div_pow, Nat.shiftLeft_eq]
      rw [Nat.mod_eq_of_lt hn, Nat.mod_eq_of_lt]
      exact Nat.lt_of_le_of_lt (Nat.div_mul_le_self _ _) hn
    rw [h3]
    congr 1
    apply BitVec.eq_of_getLsbD_eq
    intro i hi
    simp only [BitVec.getLsbD_and, BitVec.getLsbD_not, BitVec.getLsbD_shiftLeft, BitVec.getLsbD_ushiftRight, BitVec.getLsbD_ofNat, Nat.testBit_two_pow_sub_one, hi, decide_true, Bool.true_and]
    by_cases hik : i < k
    · simp [hik]
    · simp [hik]
      rw [show k + (i - k) = i by omega]; simp [hi]
  rw [e1]
  have h2 : n / 2 ^ k * 2 ^ k < 2 ^ 64 := Nat.lt_of_le_of_lt (Nat.div_mul_le_self _ _) hn
  rw [IntWalk.u64_in _ (by omega)]
  simp
theorem pageI_u {va l : Int} (hva : 0 ≤ va ∧ va < 2 ^ 64) : 0 ≤ pageI va l ∧ pageI va l < 2 ^ 64 := by
  unfold pageI sizeI
  split
  · repeat' split
    all_goals omega
  · exact hva
theorem pageI_page (va l : Int) : pageI (pageI va l) l = pageI va l := by
  unfold pageI sizeI
  split
  · repeat' split
    all_goals omega
  · rfl
section
set_option maxRecDepth 10000
variable {h : Hp} {K : Value → Hp → Prop}
theorem there_x (l : Int) (hk : K (.bool (thereI l)) h) : X Try.prog 33 #[.int .i64 l] h K := by
  refine fnv (args := _) mixed [] [] [] Try.func33 rfl (by kernel_rfl) ?_
  conv => whnf
  refine bsel_intro (fun h1 => ?_) (fun h1 => ?_) <;> try simp only [decide_eq_true_eq, decide_eq_false_iff_not, beq_iff_eq, beq_eq_false_iff_ne, ne_eq, Bool.not_eq_true', Bool.not_eq_false', bne_iff_ne, bne_eq_false_iff_eq, Bool.not_eq_true, Bool.not_eq_false, Bool.and_eq_true, Bool.or_eq_true] at h1
  · conv => whnf
    exact kq hk (bI (by unfold thereI; simp [h1]))
  · conv => whnf
    exact kq hk (bI (by unfold thereI; simp; omega))
theorem vsize_x (l : Int) (hl : 0 ≤ l ∧ l ≤ 2) (hk : K (.int .u64 (sizeI l)) h) : X Try.prog 34 #[.int .i64 l] h K := by
  have hc : l = 0 ∨ l = 1 ∨ l = 2 := by omega
  rcases hc with rfl | rfl | rfl
  all_goals
    refine fnv (args := _) mixed [] [] [] Try.func34 rfl (by kernel_rfl) ?_
    conv => whnf
    refine there_x _ ?_
    conv => whnf
    refine fnv (args := _) mixed [] [] [] Try.func43 rfl (by kernel_rfl) ?_
    conv => whnf
    first | refine ov_i64 (by omega) ?_ | refine ov_u64 (by omega) ?_ | refine ov_i64 (by decide) ?_ | refine ov_u64 (by decide) ?_ | refine ov_u8 (by omega) ?_ | refine ov_i32 (by omega) ?_ | refine ov_u32 (by omega) ?_
    conv => whnf
    first | refine ov_i64 (by omega) ?_ | refine ov_u64 (by omega) ?_ | refine ov_i64 (by decide) ?_ | refine ov_u64 (by decide) ?_ | refine ov_u8 (by omega) ?_ | refine ov_i32 (by omega) ?_ | refine ov_u32 (by omega) ?_
    conv => whnf
    first | refine ov_i64 (by omega) ?_ | refine ov_u64 (by omega) ?_ | refine ov_i64 (by decide) ?_ | refine ov_u64 (by decide) ?_ | refine ov_u8 (by omega) ?_ | refine ov_i32 (by omega) ?_ | refine ov_u32 (by omega) ?_
    conv => whnf
    first | refine ov_i64 (by omega) ?_ | refine ov_u64 (by omega) ?_ | refine ov_i64 (by decide) ?_ | refine ov_u64 (by decide) ?_ | refine ov_u8 (by omega) ?_ | refine ov_i32 (by omega) ?_ | refine ov_u32 (by omega) ?_
    conv => whnf
    exact hk
theorem page_x (va l : Int) (hva : 0 ≤ va ∧ va < 2 ^ 64) (hk : K (.int .u64 (pageI va l)) h) : X Try.prog 18 #[.int .u64 va, .int .i64 l] h K := by
  refine fnv (args := _) mixed [] [] [] Try.func18 rfl (by kernel_rfl) ?_
  conv => whnf
  refine there_x _ ?_
  conv => whnf
  unfold pageI at hk
  unfold thereI
  refine bsel_intro (fun h1 => ?_) (fun h1 => ?_) <;> try simp only [decide_eq_true_eq, decide_eq_false_iff_not, beq_iff_eq, beq_eq_false_iff_ne, ne_eq, Bool.not_eq_true', Bool.not_eq_false', bne_iff_ne, bne_eq_false_iff_eq, Bool.not_eq_true, Bool.not_eq_false, Bool.and_eq_true, Bool.or_eq_true] at h1
  · rw [if_neg h1] at hk
    conv => whnf
    exact hk
  · rw [if_pos h1] at hk
    conv => whnf
    refine vsize_x _ h1 ?_
    conv => whnf
    have hc : l = 0 ∨ l = 1 ∨ l = 2 := by omega
    rcases hc with rfl | rfl | rfl
    · first | refine ov_i64 (by omega) ?_ | refine ov_u64 (by omega) ?_ | refine ov_i64 (by decide) ?_ | refine ov_u64 (by decide) ?_ | refine ov_u8 (by omega) ?_ | refine ov_i32 (by omega) ?_ | refine ov_u32 (by omega) ?_
      conv => whnf
      exact kq hk (iI (andNot_low 12 (by decide) va hva))
    · first | refine ov_i64 (by omega) ?_ | refine ov_u64 (by omega) ?_ | refine ov_i64 (by decide) ?_ | refine ov_u64 (by decide) ?_ | refine ov_u8 (by omega) ?_ | refine ov_i32 (by omega) ?_ | refine ov_u32 (by omega) ?_
      conv => whnf
      exact kq hk (iI (andNot_low 21 (by decide) va hva))
    · first | refine ov_i64 (by omega) ?_ | refine ov_u64 (by omega) ?_ | refine ov_i64 (by decide) ?_ | refine ov_u64 (by decide) ?_ | refine ov_u8 (by omega) ?_ | refine ov_i32 (by omega) ?_ | refine ov_u32 (by omega) ?_
      conv => whnf
      exact kq hk (iI (andNot_low 30 (by decide) va hva))
end
end Go.Proofs.Yteapmakpbmmleaa
