/-
  Go's library: strings.Trim by a set of ASCII letters.
-/
import Derived.Test.YtjipfibbkmmfbaaGreatDoorMidT
import Derived.Test.YtjipfibbkmmfbaaGreatDoorProg
import Derived.KernelRfl
/-! Go's library: strings.Trim by a set of ASCII letters. -/
namespace Go.Proofs.YtjipfibbkmmfbaaGreatDoor.Rg
set_option linter.unusedSimpArgs false
set_option linter.unusedVariables false
open Go Go.Mid Go.RowKit
theorem mixed : Tryz.prog.follows .mixedOrders = true := by kernel_rfl
abbrev Str := List UInt8
section
set_option maxHeartbeats 8000000
set_option maxRecDepth 10000
/-- The letters of a string, as a set. -/
def has (c : Str) (i : Nat) : Bool := c.any fun b => b.toNat == i
def asC (c : Str) : List Value := (List.range 256).map fun i => .bool (has c i)
theorem asC_length (c : Str) : (asC c).length = 256 := by simp [asC]
theorem asC_get (c : Str) {i : Nat} (hi : i < 256) : (asC c)[i]? = some (.bool (has c i)) := by simp [asC, hi]
theorem asC_set (c : Str) (b : UInt8) : (asC c).set b.toNat (.bool true) = asC (c ++ [b]) := by
  apply List.ext_getElem?
  intro i
  have hb := b.toNat_lt
  rw [List.getElem?_set]
  by_cases hi : i < 256
  · rw [asC_get _ hi]
    by_cases e : b.toNat = i
    · subst e; rw [if_pos rfl, asC_length, if_pos hi, asC_get _ hi]; simp [has]
    · rw [if_neg e, asC_get _ hi]; simp [has, e]
  · rw [if_neg (by omega), List.getElem?_eq_none (by rw [asC_length]; omega), List.getElem?_eq_none (by rw [asC_length]; omega)]
theorem asC_one (c : Str) : (asC c).all Value.oneCell' = true := by simp [asC, Value.oneCell']
theorem asC_nil : asC [] = List.replicate 256 (.bool false) := by
  apply List.ext_getElem?
  intro i
  by_cases hi : i < 256
  · rw [asC_get _ hi, List.getElem?_replicate, if_pos hi]; rfl
  · rw [List.getElem?_eq_none (by rw [asC_length]; omega), List.getElem?_eq_none (by simp; omega)]
attribute [local irreducible] asC
theorem makeSet_x (c : Str) (hc : ∀ b ∈ c, b.toNat < 128) (hl : c.length ≤ 2 ^ 40) (h : Hp) (K : Value → Hp → Prop) (hk : K (.tuple #[.agg (asC c).toArray, .bool true]) h) : X Tryz.prog 87 #[.string (bs c)] h K := by
  refine fnv (args := _) mixed [(2, 2), (19, 2)] [] [] Tryz.func87 rfl (by kernel_rfl) ?_; conv => whnf
  refine loop_at [4] [2] (fun r vs cs h' => h' = h ∧ ∃ j : Nat, j ≤ c.length ∧ r = c.length - j ∧ vs = [.v (.int .i64 j)] ∧ cs = [some (asC (c.take j))]) c.length ⟨rfl, 0, by omega, by omega, rfl, ?_⟩ ?_
  · rw [List.take_zero, asC_nil]; rfl
  rintro r vs cs mm bx _ ⟨rfl, j, hj, rfl, rfl, rfl⟩
  conv => whnf
  refine bsel_intro (fun q1 => ?_) (fun q1 => ?_) <;> try simp only [bsL] at q1
  · have hjl : j < c.length := by omega
    have hm : c[j] ∈ c := List.getElem_mem hjl
    have hlt := hc _ hm
    conv => whnf
    refine ch_intro c[j] (by omega) (by simp) ?_
    conv => whnf
    refine bsel_false (by simp; omega) ?_; conv => whnf
    refine need_intro (by omega) ?_
    conv => whnf
    refine need_intro (by rw [asC_length]; show 0 + (c[j].toNat : Int).toNat * 1 + 1 ≤ 256; omega) ?_
    conv => whnf
    refine ov_i64 (by omega) ?_
    conv => whnf
    refine ⟨c.length - (j + 1), by omega, rfl, j + 1, by omega, rfl, rfl, ?_⟩
    show [some ((asC (c.take j)).set (0 + (c[j].toNat : Int).toNat * 1) (.bool true))] = _
    rw [show 0 + (c[j].toNat : Int).toNat * 1 = c[j].toNat by omega, asC_set, List.take_append_getElem hjl]
  · obtain rfl : j = c.length := by omega
    rw [List.take_length]
    conv => whnf
    refine need_intro (by rw [asC_length]; decide) ?_
    have e : ((asC c).drop 0).take Tryz.prog.types[133].size = asC c := by rw [List.drop_zero, List.take_of_length_le (by rw [asC_length]; decide)]
    rw [e]
    conv => whnf
    refine bsel_true (by
      have h1 : (Value.agg (asC c).toArray).cells.size = 256 := by show (asC c).toArray.size = 256; simp [asC_length]
      have h2 : (Value.agg (asC c).toArray).cells.toList.all Value.oneCell' = true := asC_one c
      rw [h1, h2]; rfl) ?_
    conv => whnf
    refine need_intro (by rw [asC_length]; decide) ?_
    rw [show setL (asC c) 0 (Value.agg (asC c).toArray).cells.toList = asC c from setL_all rfl]
    conv => whnf
    refine need_intro (by rw [asC_length]; decide) ?_
    rw [e]
    conv => whnf
    exact hk
end
end Go.Proofs.YtjipfibbkmmfbaaGreatDoor.Rg
/-! Go's library: strings.Trim by a set of ASCII letters; strconv.Atoi of digits; strconv.Itoa below 100. -/
namespace Go.Proofs.YtjipfibbkmmfbaaGreatDoor.Rg
set_option linter.unusedSimpArgs false
set_option linter.unusedVariables false
open Go Go.Mid Go.RowKit
attribute [local irreducible] asC mid
section
set_option maxHeartbeats 8000000
set_option maxRecDepth 10000
variable {h : Hp} {K : Value → Hp → Prop}
/-- Is a byte one of them? -/
def isOf (c : Str) (b : UInt8) : Bool := has c b.toNat
theorem aggBool : isAggT Tryz.prog 4 = some false := by kernel_rfl
theorem aggStr : isAggT Tryz.prog 9 = some false := by kernel_rfl
theorem aggInt : isAggT Tryz.prog 3 = some false := by kernel_rfl
theorem aggU8 : isAggT Tryz.prog 5 = some false := by kernel_rfl
theorem contains_x {a : Nat} {c : Str} (b : UInt8) (ha : h a = some (rowO 133 (asC c))) (hk : K (.bool (isOf c b)) h) : X Tryz.prog 103 #[.pointer (some ⟨a, 0, none⟩), .int .u8 b.toNat] h K := by
  have hb := b.toNat_lt
  refine fnv (args := _) mixed [] [] [] Tryz.func103 rfl (by kernel_rfl) ?_; conv => whnf
  refine need_intro (by omega) ?_
  conv => whnf
  refine ⟨_, loadC1 (i := b.toNat) aggBool ha (asC_get c (by omega)), ?_⟩; conv => whnf
  exact hk
theorem trimL_x {a : Nat} {c : Str} (ha : h a = some (rowO 133 (asC c))) (l : Str) (hl : l.length ≤ 2 ^ 62) (hk : K (.string (bs (l.dropWhile (isOf c)))) h) : X Tryz.prog 88 #[.string (bs l), .pointer (some ⟨a, 0, none⟩)] h K := by
  refine fnv (args := _) mixed [] [] [] Tryz.func88 rfl (by kernel_rfl) ?_; conv => whnf
  refine loop_at [0] [] (fun r vs _ h' => h' = h ∧ ∃ m : Str, m.length ≤ 2 ^ 62 ∧ r = m.length ∧ m.dropWhile (isOf c) = l.dropWhile (isOf c) ∧ vs = [.v (.string (bs m))]) l.length ⟨rfl, l, hl, rfl, rfl, rfl⟩ ?_
  rintro r vs cs mm bx _ ⟨rfl, m, hm, rfl, he, rfl⟩
  conv => whnf
  refine bsel_intro (fun q1 => ?_) (fun q1 => ?_) <;> try simp only [bsL] at q1
  · obtain ⟨b, m, rfl⟩ : ∃ b m', m = b :: m' := by
      cases m with
      | nil => simp at q1
      | cons b m' => exact ⟨b, m', rfl⟩
    conv => whnf
    refine ch_intro (b) (by omega) (by rfl) ?_; conv => whnf
    refine contains_x b ha ?_
    conv => whnf
    rw [List.dropWhile_cons] at he
    refine bsel_intro (fun q2 => ?_) (fun q2 => ?_) <;> try simp only [bsL] at q2
    · conv => whnf
      rw [if_neg (by simp [q2])] at he
      exact kq hk (sI he)
    · conv => whnf
      refine need_intro (by rw [bs_size, List.length_cons]; omega) ?_
      conv => whnf
      refine sub_from (rfl) ?_; conv => whnf
      rw [if_pos q2] at he
      exact ⟨m.length, by rw [List.length_cons]; omega, rfl, m, by rw [List.length_cons] at hm; omega, rfl, he, rfl⟩
  · conv => whnf
    cases m with
    | nil => exact kq hk (sI he)
    | cons b m' => exfalso; rw [List.length_cons] at q1; omega
/-- Without those behind. -/
def trimB (p : UInt8 → Bool) (l : Str) : Str := (l.reverse.dropWhile p).reverse
theorem trimB_snoc (p : UInt8 → Bool) (l : Str) (b : UInt8) : trimB p (l ++ [b]) = if p b = true then trimB p l else l ++ [b] := by
  unfold trimB
  rw [List.reverse_append, List.reverse_singleton, List.singleton_append, List.dropWhile_cons]
  by_cases h : p b = true <;> simp [h]
theorem trimR_x {a : Nat} {c : Str} (ha : h a = some (rowO 133 (asC c))) (l : Str) (hl : l.length ≤ 2 ^ 62) (hk : K (.string (bs (trimB (isOf c) l))) h) : X Tryz.prog 89 #[.string (bs l), .pointer (some ⟨a, 0, none⟩)] h K := by
  refine fnv (args := _) mixed [] [] [] Tryz.func89 rfl (by kernel_rfl) ?_; conv => whnf
  refine loop_at [0] [] (fun r vs _ h' => h' = h ∧ ∃ m : Str, m.length ≤ 2 ^ 62 ∧ r = m.length ∧ trimB (isOf c) m = trimB (isOf c) l ∧ vs = [.v (.string (bs m))]) l.length ⟨rfl, l, hl, rfl, rfl, rfl⟩ ?_
  rintro r vs cs mm bx _ ⟨rfl, m, hm, rfl, he, rfl⟩
  conv => whnf
  refine bsel_intro (fun q1 => ?_) (fun q1 => ?_) <;> try simp only [bsL] at q1
  · obtain ⟨m, b, rfl⟩ : ∃ m' b, m = m' ++ [b] := ⟨m.dropLast, m.getLast (fun e => by subst e; simp at q1), (List.dropLast_concat_getLast _).symm⟩
    have hsz : (bs (m ++ [b])).size = m.length + 1 := by rw [bs_size]; simp
    rw [List.length_append, List.length_singleton] at hm
    conv => whnf
    refine ov_i64 (by rw [hsz]; omega) ?_
    conv => whnf
    refine ch_intro b (by rw [hsz]; omega) (by rw [hsz, show (((m.length + 1 : Nat) : Int) - 1).toNat = m.length by omega]; simp) ?_
    conv => whnf
    refine contains_x b ha ?_
    conv => whnf
    rw [trimB_snoc] at he
    refine bsel_intro (fun q2 => ?_) (fun q2 => ?_) <;> try simp only [bsL] at q2
    · conv => whnf
      rw [if_neg (by simp [q2])] at he
      exact kq hk (sI he)
    · conv => whnf
      refine ov_i64 (by rw [hsz]; omega) ?_
      conv => whnf
      refine need_intro (by rw [hsz]; omega) ?_
      conv => whnf
      refine sub_by (m := m) (by rw [hsz, show (((m.length + 1 : Nat) : Int) - 1).toNat = m.length by omega, List.drop_zero, List.take_left']; rfl) ?_
      conv => whnf
      rw [if_pos q2] at he
      exact ⟨m.length, by rw [List.length_append, List.length_singleton]; omega, rfl, m, by omega, rfl, he, rfl⟩
  · conv => whnf
    cases m with
    | nil => exact kq hk (sI he)
    | cons b m' => exfalso; rw [List.length_cons] at q1; omega
/-- **strings.Trim**, by ASCII letters. -/
theorem trim_x (l c : Str) (hl : l.length ≤ 2 ^ 61) (hc : ∀ b ∈ c, b.toNat < 128) (hc1 : 1 < c.length) (hc2 : c.length ≤ 2 ^ 40) (hk : K (.string (bs ((trimB (isOf c) l).dropWhile (isOf c)))) h) : X Tryz.prog 71 #[.string (bs l), .string (bs c)] h K := by
  refine X.forget ?_
  refine fnv (args := _) mixed [] [] [] Tryz.func71 rfl (by kernel_rfl) ?_; conv => whnf
  refine seq_intro ?_; conv => whnf
  refine bsel_intro (fun q1 => ?_) (fun q1 => ?_) <;> try simp only [bsL] at q1
  · conv => whnf
    subst q1
    exact ⟨h, Hp.le_refl _, hk⟩
  conv => whnf
  refine seq_false (fun e => by subst e; simp at hc1) ?_; conv => whnf
  refine bsel_false (by rw [bs_size]; simp; omega) ?_; conv => whnf
  refine makeSet_x c hc hc2 _ _ ?_
  conv => whnf
  refine new_intro (o := rowO 133 (List.replicate 256 (.bool false))) (fun a H0 n_a le_a at_a ot_a => ?_); conv => whnf
  refine wr_intro (by exact storeA0 (z := .agg (asC c).toArray) (by kernel_rfl) at_a rfl (asC_length c) (asC_one c)) (fun H at_H ot_H => ?_)
  try (conv => whnf)
  have hle := Hp.le_st n_a le_a ot_H
  refine trimR_x at_H l (by omega) ?_
  conv => whnf
  refine trimL_x at_H _ (by have := (List.dropWhile_sublist (isOf c) (l := l.reverse)).length_le; rw [List.length_reverse] at this; show (trimB _ _).length ≤ _; unfold trimB; rw [List.length_reverse]; omega) ?_
  conv => whnf
  exact ⟨h, hle, hk⟩
end
end Go.Proofs.YtjipfibbkmmfbaaGreatDoor.Rg
