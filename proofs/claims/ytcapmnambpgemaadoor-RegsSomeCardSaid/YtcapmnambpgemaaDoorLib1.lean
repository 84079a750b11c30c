/-
  Go's library: strings.Trim by a set of ASCII letters.
-/
import Derived.Test.YtcapmnambpgemaaDoorMidT
import Derived.Test.YtcapmnambpgemaaDoorProg
import Derived.KernelRfl
namespace Go.Proofs.YtcapmnambpgemaaDoor
set_option linter.unusedSimpArgs false
set_option linter.unusedVariables false
open Go Go.Mid Go.RowKit
theorem mixed : Tryd.prog.follows .mixedOrders = true := by kernel_rfl
abbrev Str := List UInt8
section
set_option maxHeartbeats 8000000
set_option maxRecDepth 10000
/-- The letters of a string, as a set. -/
def has (c : Str) (i : Nat) : Bool := c.any fun b => b.toNat == i
def asC (c : Str) : List Value := (List.range 256).map fun i => .bool (has c i)
theorem asC_length (c : Str) : (asC c).length = 256 := by simp [asC]
theorem asC_get (c : Str) {i : Nat} (hi : i < 256) : (asC c)[i]? = some (.bool (has c i)) := by simp [asC, hi]
theorem asC_set (c : Str) (b : UInt8) : (asC c).set b.toNat (.bool true) = asC (c ++ [b]) := by
  apply List.ext_getElem?
  intro i
  have hb := b.toNat_lt
  rw [List.getElem?_set]
  by_cases hi : i < 256
  · rw [asC_get _ hi]
    by_cases e : b.toNat = i
    · subst e; rw [if_pos rfl, asC_length, if_pos hi, asC_get _ hi]; simp [has]
    · rw [if_neg e, asC_get _ hi]; simp [has, e]
  · rw [if_neg (by omega), List.getElem?_eq_none (by rw [asC_length]; omega), List.getElem?_eq_none (by rw [asC_length]; omega)]
theorem asC_one (c : Str) : (asC c).all Value.oneCell' = true := by simp [asC, Value.oneCell']
theorem asC_nil : asC [] = List.replicate 256 (.bool false) := by
  apply List.ext_getElem?
  intro i
  by_cases hi : i < 256
  · rw [asC_get _ hi, List.getElem?_replicate, if_pos hi]; rfl
  · rw [List.getElem?_eq_none (by rw [asC_length]; omega), List.getElem?_eq_none (by simp; omega)]
attribute [local irreducible] asC
theorem makeSet_x (c : Str) (hc : ∀ b ∈ c, b.toNat < 128) (hl : c.length ≤ 2 ^ 40) (h : Hp) (K : Value → Hp → Prop) (hk : K (.tuple #[.agg (asC c).toArray, .bool true]) h) : X Tryd.prog 35 #[.string (bs c)] h K := by
  refine fnv (args := _) mixed [(2, 2), (19, 2)] [] [] Tryd.func35 rfl (by kernel_rfl) ?_
  conv => whnf
  refine loop_at [4] [2] (fun r vs cs h' => h' = h ∧ ∃ j : Nat, j ≤ c.length ∧ r = c.length - j ∧ vs = [.v (.int .i64 j)] ∧ cs = [some (asC (c.take j))]) c.length ⟨rfl, 0, by omega, by omega, rfl, ?_⟩ ?_
  · rw [List.take_zero, asC_nil]; rfl
  rintro r vs cs mm bx _ ⟨rfl, j, hj, rfl, rfl, rfl⟩
  conv => whnf
  refine bsel_intro (fun q1 => ?_) (fun q1 => ?_) <;> try simp only [decide_eq_true_eq, decide_eq_false_iff_not, beq_iff_eq, beq_eq_false_iff_ne, ne_eq, Bool.not_eq_true', Bool.not_eq_false', bne_iff_ne, bne_eq_false_iff_eq, Bool.not_eq_true, Bool.not_eq_false, Bool.and_eq_true, Bool.or_eq_true, bs_size] at q1
  · have hjl : j < c.length := by omega
    have hm : c[j] ∈ c := List.getElem_mem hjl
    have hlt := hc _ hm
    conv => whnf
    refine ch_intro c[j] (by omega) (by simp) ?_
    conv => whnf
    refine bsel_false ?_ ?_
    · simp; omega
    conv => whnf
    refine need_intro (by omega) ?_
    conv => whnf
    refine need_intro (by rw [asC_length]; show 0 + (c[j].toNat : Int).toNat * 1 + 1 ≤ 256; omega) ?_
    conv => whnf
    refine ov_i64 (by omega) ?_
    conv => whnf
    refine ⟨c.length - (j + 1), by omega, rfl, j + 1, by omega, rfl, rfl, ?_⟩
    show [some ((asC (c.take j)).set (0 + (c[j].toNat : Int).toNat * 1) (.bool true))] = _
    rw [show 0 + (c[j].toNat : Int).toNat * 1 = c[j].toNat by omega, asC_set, List.take_append_getElem hjl]
  · obtain rfl : j = c.length := by omega
    rw [List.take_length]
    conv => whnf
    refine need_intro (by rw [asC_length]; decide) ?_
    have e : ((asC c).drop 0).take Tryd.prog.types[63].size = asC c := by rw [List.drop_zero, List.take_of_length_le (by rw [asC_length]; decide)]
    rw [e]
    conv => whnf
    refine bsel_true (by
      have h1 : (Value.agg (asC c).toArray).cells.size = 256 := by show (asC c).toArray.size = 256; simp [asC_length]
      have h2 : (Value.agg (asC c).toArray).cells.toList.all Value.oneCell' = true := asC_one c
      rw [h1, h2]; rfl) ?_
    conv => whnf
    refine need_intro (by rw [asC_length]; decide) ?_
    rw [show setL (asC c) 0 (Value.agg (asC c).toArray).cells.toList = asC c from setL_all rfl]
    conv => whnf
    refine need_intro (by rw [asC_length]; decide) ?_
    rw [e]
    conv => whnf
    exact hk
end
end Go.Proofs.YtcapmnambpgemaaDoor
