/-
  Go's library: strings.Trim by a set of ASCII letters.
-/
import Derived.Test.YtlobclgbbhoeiaaGreatDoorMidT
import Derived.Test.YtlobclgbbhoeiaaGreatDoorProg
import Derived.KernelRfl
/-! Go's library: strings.Trim by a set of ASCII letters. -/
namespace Go.Proofs.YtlobclgbbhoeiaaGreatDoor.Rg
set_option linter.unusedSimpArgs false
set_option linter.unusedVariables false
open Go Go.Mid Go.RowKit
theorem mixed : Tryz.prog.follows .mixedOrders = true := by kernel_rfl
abbrev Str := List UInt8
section
set_option maxHeartbeats 8000000
set_option maxRecDepth 10000
/-- The letters of a string, as a set. -/
def has (c : Str) (i : Nat) : Bool := c.any fun b => b.toNat == i
def asC (c : Str) : List Value := (List.range 256).map fun i => .bool (has c i)
theorem asC_length (c : Str) : (asC c).length = 256 := by simp [asC]
theorem asC_get (c : Str) {i : Nat} (hi : i < 256) : (asC c)[i]? = some (.bool (has c i)) := by simp [asC, hi]
theorem asC_set (c : Str) (b : UInt8) : (asC c).set b.toNat (.bool true) = asC (c ++ [b]) := by
  apply List.ext_getElem?
  intro i
  have hb := b.toNat_lt
  rw [List.getElem?_set]
  by_cases hi : i < 256
  · rw [asC_get _ hi]
    by_cases e : b.toNat = i
    · subst e; rw [if_pos rfl, asC_length, if_pos hi, asC_get _ hi]; simp [has]
    · rw [if_neg e, asC_get _ hi]; simp [has, e]
  · rw [if_neg (by omega), List.getElem?_eq_none (by rw [asC_length]; omega), List.getElem?_eq_none (by rw [asC_length]; omega)]
theorem asC_one (c : Str) : (asC c).all Value.oneCell' = true := by simp [asC, Value.oneCell']
theorem asC_nil : asC [] = List.replicate 256 (.bool false) := by
  apply List.ext_getElem?
  intro i
  by_cases hi : i < 256
  · rw [asC_get _ hi, List.getElem?_replicate, if_pos hi]; rfl
  · rw [List.getElem?_eq_none (by rw [asC_length]; omega), List.getElem?_eq_none (by simp; omega)]
attribute [local irreducible] asC
theorem makeSet_x (c : Str) (hc : ∀ b ∈ c, b.toNat < 128) (hl : c.length ≤ 2 ^ 40) (h : Hp) (K : Value → Hp → Prop) (hk : K (.tuple #[.agg (asC c).toArray, .bool true]) h) : X Tryz.prog 137 #[.string (bs c)] h K := by
  refine fnv (args := _) mixed [(2, 2), (19, 2)] [] [] Tryz.func137 rfl (by kernel_rfl) ?_; conv => whnf
  refine loop_at [4] [2] (fun r vs cs h' => h' = h ∧ ∃ j : Nat, j ≤ c.length ∧ r = c.length - j ∧ vs = [.v (.int .i64 j)] ∧ cs = [some (asC (c.take j))]) c.length ⟨rfl, 0, by omega, by omega, rfl, ?_⟩ ?_
  · rw [List.take_zero, asC_nil]; rfl
  rintro r vs cs mm bx _ ⟨rfl, j, hj, rfl, rfl, rfl⟩
  conv => whnf
  refine bsel_intro (fun q1 => ?_) (fun q1 => ?_) <;> try simp only [bsL] at q1
  · have hjl : j < c.length := by omega
    have hm : c[j] ∈ c := List.getElem_mem hjl
    have hlt := hc _ hm
    conv => whnf
    refine ch_intro c[j] (by omega) (by simp) ?_
    conv => whnf
    refine bsel_false (by simp; omega) ?_; conv => whnf
    refine need_intro (by omega) ?_
    conv => whnf
    refine need_intro (by rw [asC_length]; show 0 + (c[j].toNat : Int).toNat * 1 + 1 ≤ 256; omega) ?_
    conv => whnf
    refine ov_i64 (by omega) ?_
    conv => whnf
    refine ⟨c.length - (j + 1), by omega, rfl, j + 1, by omega, rfl, rfl, ?_⟩
    show [some ((asC (c.take j)).set (0 + (c[j].toNat : Int).toNat * 1) (.bool true))] = _
    rw [show 0 + (c[j].toNat : Int).toNat * 1 = c[j].toNat by omega, asC_set, List.take_append_getElem hjl]
  · obtain rfl : j = c.length := by omega
    rw [List.take_length]
    conv => whnf
    refine need_intro (by rw [asC_length]; decide) ?_
    have e : ((asC c).drop 0).take Tryz.prog.types[177].size = asC c := by rw [List.drop_zero, List.take_of_length_le (by rw [asC_length]; decide)]
    rw [e]
    conv => whnf
    refine bsel_true (by
      have h1 : (Value.agg (asC c).toArray).cells.size = 256 := by show (asC c).toArray.size = 256; simp [asC_length]
      have h2 : (Value.agg (asC c).toArray).cells.toList.all Value.oneCell' = true := asC_one c
      rw [h1, h2]; rfl) ?_
    conv => whnf
    refine need_intro (by rw [asC_length]; decide) ?_
    rw [show setL (asC c) 0 (Value.agg (asC c).toArray).cells.toList = asC c from setL_all rfl]
    conv => whnf
    refine need_intro (by rw [asC_length]; decide) ?_
    rw [e]
    conv => whnf
    exact hk
end
end Go.Proofs.YtlobclgbbhoeiaaGreatDoor.Rg
/-! Go's library: strings.Trim by a set of ASCII letters; strconv.Atoi of digits; strconv.Itoa below 100. -/
namespace Go.Proofs.YtlobclgbbhoeiaaGreatDoor.Rg
set_option linter.unusedSimpArgs false
set_option linter.unusedVariables false
open Go Go.Mid Go.RowKit
attribute [local irreducible] asC mid
section
set_option maxHeartbeats 8000000
set_option maxRecDepth 10000
variable {h : Hp} {K : Value → Hp → Prop}
/-- Is a byte one of them? -/
def isOf (c : Str) (b : UInt8) : Bool := has c b.toNat
theorem aggBool : isAggT Tryz.prog 4 = some false := by kernel_rfl
theorem aggStr : isAggT Tryz.prog 9 = some false := by kernel_rfl
theorem aggInt : isAggT Tryz.prog 3 = some false := by kernel_rfl
theorem aggU8 : isAggT Tryz.prog 5 = some false := by kernel_rfl
theorem contains_x {a : Nat} {c : Str} (b : UInt8) (ha : h a = some (rowO 177 (asC c))) (hk : K (.bool (isOf c b)) h) : X Tryz.prog 156 #[.pointer (some ⟨a, 0, none⟩), .int .u8 b.toNat] h K := by
  have hb := b.toNat_lt
  refine fnv (args := _) mixed [] [] [] Tryz.func156 rfl (by kernel_rfl) ?_; conv => whnf
  refine need_intro (by omega) ?_
  conv => whnf
  refine ⟨_, loadC1 (i := b.toNat) aggBool ha (asC_get c (by omega)), ?_⟩; conv => whnf
  exact hk
theorem trimL_x {a : Nat} {c : Str} (ha : h a = some (rowO 177 (asC c))) (l : Str) (hl : l.length ≤ 2 ^ 62) (hk : K (.string (bs (l.dropWhile (isOf c)))) h) : X Tryz.prog 138 #[.string (bs l), .pointer (some ⟨a, 0, none⟩)] h K := by
  refine fnv (args := _) mixed [] [] [] Tryz.func138 rfl (by kernel_rfl) ?_; conv => whnf
  refine loop_at [0] [] (fun r vs _ h' => h' = h ∧ ∃ m : Str, m.length ≤ 2 ^ 62 ∧ r = m.length ∧ m.dropWhile (isOf c) = l.dropWhile (isOf c) ∧ vs = [.v (.string (bs m))]) l.length ⟨rfl, l, hl, rfl, rfl, rfl⟩ ?_
  rintro r vs cs mm bx _ ⟨rfl, m, hm, rfl, he, rfl⟩
  conv => whnf
  refine bsel_intro (fun q1 => ?_) (fun q1 => ?_) <;> try simp only [bsL] at q1
  · obtain ⟨b, m, rfl⟩ : ∃ b m', m = b :: m' := by
      cases m with
      | nil => simp at q1
      | cons b m' => exact ⟨b, m', rfl⟩
    conv => whnf
    refine ch_intro (b) (by omega) (by rfl) ?_; conv => whnf
    refine contains_x b ha ?_
    conv => whnf
    rw [List.dropWhile_cons] at he
    refine bsel_intro (fun q2 => ?_) (fun q2 => ?_) <;> try simp only [bsL] at q2
    · conv => whnf
      rw [if_neg (by simp [q2])] at he
      exact kq hk (sI he)
    · conv => whnf
      refine need_intro (by rw [bs_size, List.length_cons]; omega) ?_
      conv => whnf
      refine sub_from (rfl) ?_; conv => whnf
      rw [if_pos q2] at he
      exact ⟨m.length, by rw [List.length_cons]; omega, rfl, m, by rw [List.length_cons] at hm; omega, rfl, he, rfl⟩
  · conv => whnf
    cases m with
    | nil => exact kq hk (sI he)
    | cons b m' => exfalso; rw [List.length_cons] at q1; omega
/-- Without those behind. -/
def trimB (p : UInt8 → Bool) (l : Str) : Str := (l.reverse.dropWhile p).reverse
theorem trimB_snoc (p : UInt8 → Bool) (l : Str) (b : UInt8) : trimB p (l ++ [b]) = if p b = true then trimB p l else l ++ [b] := by
  unfold trimB
  rw [List.reverse_append, List.reverse_singleton, List.singleton_append, List.dropWhile_cons]
  by_cases h : p b = true <;> simp [h]
theorem trimR_x {a : Nat} {c : Str} (ha : h a = some (rowO 177 (asC c))) (l : Str) (hl : l.length ≤ 2 ^ 62) (hk : K (.string (bs (trimB (isOf c) l))) h) : X Tryz.prog 139 #[.string (bs l), .pointer (some ⟨a, 0, none⟩)] h K := by
  refine fnv (args := _) mixed [] [] [] Tryz.func139 rfl (by kernel_rfl) ?_; conv => whnf
  refine loop_at [0] [] (fun r vs _ h' => h' = h ∧ ∃ m : Str, m.length ≤ 2 ^ 62 ∧ r = m.length ∧ trimB (isOf c) m = trimB (isOf c) l ∧ vs = [.v (.string (bs m))]) l.length ⟨rfl, l, hl, rfl, rfl, rfl⟩ ?_
  rintro r vs cs mm bx _ ⟨rfl, m, hm, rfl, he, rfl⟩
  conv => whnf
  refine bsel_intro (fun q1 => ?_) (fun q1 => ?_) <;> try simp only [bsL] at q1
  · obtain ⟨m, b, rfl⟩ : ∃ m' b, m = m' ++ [b] := ⟨m.dropLast, m.getLast (fun e => by subst e; simp at q1), (List.dropLast_concat_getLast _).symm⟩
    have hsz : (bs (m ++ [b])).size = m.length + 1 := by rw [bs_size]; simp
    rw [List.length_append, List.length_singleton] at hm
    conv => whnf
    refine ov_i64 (by rw [hsz]; omega) ?_
    conv => whnf
    refine ch_intro b (by rw [hsz]; omega) (by rw [hsz, show (((m.length + 1 : Nat) : Int) - 1).toNat = m.length by omega]; simp) ?_
    conv => whnf
    refine contains_x b ha ?_
    conv => whnf
    rw [trimB_snoc] at he
    refine bsel_intro (fun q2 => ?_) (fun q2 => ?_) <;> try simp only [bsL] at q2
    · conv => whnf
      rw [if_neg (by simp [q2])] at he
      exact kq hk (sI he)
    · conv => whnf
      refine ov_i64 (by rw [hsz]; omega) ?_
      conv => whnf
      refine need_intro (by rw [hsz]; omega) ?_
      conv => whnf
      refine sub_by (m := m) (by rw [hsz, show (((m.length + 1 : Nat) : Int) - 1).toNat = m.length by omega, List.drop_zero, List.take_left']; rfl) ?_
      conv => whnf
      rw [if_pos q2] at he
      exact ⟨m.length, by rw [List.length_append, List.length_singleton]; omega, rfl, m, by omega, rfl, he, rfl⟩
  · conv => whnf
    cases m with
    | nil => exact kq hk (sI he)
    | cons b m' => exfalso; rw [List.length_cons] at q1; omega
/-- **strings.Trim**, by ASCII letters. -/
theorem trim_x (l c : Str) (hl : l.length ≤ 2 ^ 61) (hc : ∀ b ∈ c, b.toNat < 128) (hc1 : 1 < c.length) (hc2 : c.length ≤ 2 ^ 40) (hk : K (.string (bs ((trimB (isOf c) l).dropWhile (isOf c)))) h) : X Tryz.prog 111 #[.string (bs l), .string (bs c)] h K := by
  refine X.forget ?_
  refine fnv (args := _) mixed [] [] [] Tryz.func111 rfl (by kernel_rfl) ?_; conv => whnf
  refine seq_intro ?_; conv => whnf
  refine bsel_intro (fun q1 => ?_) (fun q1 => ?_) <;> try simp only [bsL] at q1
  · conv => whnf
    subst q1
    exact ⟨h, Hp.le_refl _, hk⟩
  conv => whnf
  refine seq_false (fun e => by subst e; simp at hc1) ?_; conv => whnf
  refine bsel_false (by rw [bs_size]; simp; omega) ?_; conv => whnf
  refine makeSet_x c hc hc2 _ _ ?_
  conv => whnf
  refine new_intro (o := rowO 177 (List.replicate 256 (.bool false))) (fun a H0 n_a le_a at_a ot_a => ?_); conv => whnf
  refine wr_intro (by exact storeA0 (z := .agg (asC c).toArray) (by kernel_rfl) at_a rfl (asC_length c) (asC_one c)) (fun H at_H ot_H => ?_)
  try (conv => whnf)
  have hle := Hp.le_st n_a le_a ot_H
  refine trimR_x at_H l (by omega) ?_
  conv => whnf
  refine trimL_x at_H _ (by have := (List.dropWhile_sublist (isOf c) (l := l.reverse)).length_le; rw [List.length_reverse] at this; show (trimB _ _).length ≤ _; unfold trimB; rw [List.length_reverse]; omega) ?_
  conv => whnf
  exact ⟨h, hle, hk⟩
theorem valL_take (l : Str) {j : Nat} (hj : j < l.length) : valL (l.take (j + 1)) = valL (l.take j) * 10 + ((l[j].toNat : Int) - 48) := by
  rw [List.take_succ_eq_append_getElem hj, valL_snoc]
/-- **Digits are read.** -/
theorem atoi0_x (l : Str) (hd : ∀ b ∈ l, dig b = true) (h0 : 0 < l.length) (hl : l.length < 19) (hk : K (.tuple #[.int .i64 (valL l), .nilIface]) h) : X Tryz.prog 142 #[.string (bs l)] h K := by
  have hdig : ∀ j (hj : j < l.length), 48 ≤ (l[j].toNat : Int) ∧ (l[j].toNat : Int) ≤ 57 := fun j hj => by
    have := hd _ (List.getElem_mem hj)
    unfold dig at this
    simp only [decide_eq_true_eq] at this
    omega
  have hval : ∀ j, j ≤ 18 → 0 ≤ valL (l.take j) ∧ valL (l.take j) < 10 ^ 18 := fun j hj => by
    have h1 := valL_le (l.take j) fun b hb => hd b (List.mem_of_mem_take hb)
    have h2 : (10 : Int) ^ (l.take j).length ≤ 10 ^ 18 := by
      have : (10 : Nat) ^ (l.take j).length ≤ 10 ^ 18 := Nat.pow_le_pow_right (by decide) (by rw [List.length_take]; omega)
      exact_mod_cast this
    omega
  have hg0 : l[0]? = some l[0] := List.getElem?_eq_getElem h0
  refine X.forget ?_
  refine fnv (args := _) mixed [] [] [] Tryz.func142 rfl (by kernel_rfl) ?_; conv => whnf
  refine bsel_true (by rw [bs_size]; simp; omega) ?_; conv => whnf
  refine bsel_true (by rw [bs_size]; simp; omega) ?_; conv => whnf
  refine ch_intro l[0] (by omega) hg0 ?_
  conv => whnf
  refine bsel_false (by have := hdig 0 h0; simp; omega) ?_; conv => whnf
  refine ch_intro l[0] (by omega) hg0 ?_
  conv => whnf
  refine bsel_false (by have := hdig 0 h0; simp; omega) ?_; conv => whnf
  refine toBytes (l := l) rfl rfl rfl rfl rfl (fun b cap h1 hn hle ho hc => ?_)
  conv => whnf
  refine loop_at [49, 6] [] (fun r vs _ h' => h' = h1 ∧ ∃ j : Nat, j ≤ l.length ∧ r = l.length - j ∧ vs = [.v (.int .i64 j), .v (.int .i64 (valL (l.take j)))]) l.length ⟨rfl, 0, by omega, by omega, rfl⟩ ?_
  rintro r vs cs mm bx _ ⟨rfl, j, hj, rfl, rfl⟩
  conv => whnf
  refine bsel_intro (fun q1 => ?_) (fun q1 => ?_) <;> try simp only [bsL] at q1
  · have hjl : j < l.length := by omega
    have hv := hval j (by omega)
    have hv2 := hval (j + 1) (by omega)
    rw [valL_take l hjl] at hv2
    have hdj := hdig j hjl
    have hcj := hc j _ (List.getElem?_eq_getElem hjl)
    conv => whnf
    refine need_intro (by omega) ?_
    conv => whnf
    refine ⟨_, (by rw [loadH_cell aggU8, addr_add, Nat.zero_add, Nat.mul_one]; exact hcj : loadH Tryz.prog 5 _ ((⟨b, 0, none⟩ : Addr).add (j * 1)) = some (byV l[j])), ?_⟩; conv => whnf
    refine ov_u8 (by omega) ?_
    conv => whnf
    refine bsel_false (by simp; omega) ?_; conv => whnf
    refine ov_i64 (by omega) ?_
    conv => whnf
    refine ov_i64 (by omega) ?_
    conv => whnf
    refine ov_i64 (by omega) ?_
    conv => whnf
    refine ov_i64 (by omega) ?_
    conv => whnf
    refine ⟨l.length - (j + 1), by omega, rfl, j + 1, by omega, rfl, ?_⟩
    rw [valL_take l hjl]
    rfl
  · obtain rfl : j = l.length := by omega
    rw [List.take_length]
    conv => whnf
    refine ch_intro l[0] (by omega) hg0 ?_
    conv => whnf
    refine bsel_false (by have := hdig 0 h0; simp; omega) ?_; conv => whnf
    exact ⟨h, hle, hk⟩
theorem atoi_x (l : Str) (hd : ∀ b ∈ l, dig b = true) (h0 : 0 < l.length) (hl : l.length < 19) (hk : K (.tuple #[.int .i64 (valL l), .nilIface]) h) : X Tryz.prog 112 #[.string (bs l)] h K := by
  refine fnv (args := _) mixed [] [] [] Tryz.func112 rfl (by kernel_rfl) ?_; conv => whnf
  refine atoi0_x l hd h0 hl ?_
  conv => whnf
  exact hk
/-- The digits of a number below 100. -/
def dgt (n : Nat) : UInt8 := UInt8.ofNat (48 + n)
def digN (n : Nat) : Str := if n < 10 then [dgt n] else [dgt (n / 10), dgt (n % 10)]
theorem small1 : ∀ n : Nat, n < 10 → (([48, 49, 50, 51, 52, 53, 54, 55, 56, 57, 97, 98, 99, 100, 101, 102, 103, 104, 105, 106, 107, 108, 109, 110, 111, 112, 113, 114, 115, 116, 117, 118, 119, 120, 121, 122] : Str).take ((n : Int) + 1).toNat).drop (n : Int).toNat = digN n := by decide +kernel
def smalls : Str := (List.range 100).flatMap fun n => [dgt (n / 10), dgt (n % 10)]
theorem small2 : ∀ n : Nat, n < 100 → 10 ≤ n → (smalls.take ((n : Int) * 2 + 2).toNat).drop ((n : Int) * 2).toNat = digN n := by decide +kernel
theorem small_x (n : Nat) (hn : n < 100) (hk : K (.string (bs (digN n))) h) : X Tryz.prog 96 #[.int .i64 n] h K := by
  refine fnv (args := _) mixed [] [] [] Tryz.func96 rfl (by kernel_rfl) ?_; conv => whnf
  refine bsel_intro (fun q1 => ?_) (fun q1 => ?_) <;> try simp only [bsL] at q1
  · have hn : n < 10 := by omega
    conv => whnf
    (first | refine ov_c (by simp only [loK, hiK]; omega) ?_ | refine ov_c (by decide) ?_); conv => whnf
    refine need_intro ⟨by omega, by show _ ≤ ((36 : Nat) : Int); omega⟩ ?_
    conv => whnf
    refine need_intro (by omega) ?_
    conv => whnf
    refine sub_by (small1 n hn) ?_; conv => whnf
    exact hk
  · conv => whnf
    (first | refine ov_c (by simp only [loK, hiK]; omega) ?_ | refine ov_c (by decide) ?_); conv => whnf
    (first | refine ov_c (by simp only [loK, hiK]; omega) ?_ | refine ov_c (by decide) ?_); conv => whnf
    (first | refine ov_c (by simp only [loK, hiK]; omega) ?_ | refine ov_c (by decide) ?_); conv => whnf
    refine need_intro ⟨by omega, by show _ ≤ ((200 : Nat) : Int); omega⟩ ?_
    conv => whnf
    refine need_intro (by omega) ?_
    conv => whnf
    refine sub_by (m := digN n) ?_ ?_
    · exact small2 n hn (by omega)
    conv => whnf
    exact hk
theorem format_x (n : Nat) (hn : n < 100) (hk : K (.string (bs (digN n))) h) : X Tryz.prog 66 #[.int .i64 n, .int .i64 10] h K := by
  refine fnv (args := _) mixed [] [] [] Tryz.func66 rfl (by kernel_rfl) ?_; conv => whnf
  refine bsel_true (by simp; omega) ?_; conv => whnf
  refine small_x n hn ?_
  conv => whnf
  exact hk
theorem itoa0_x (n : Nat) (hn : n < 100) (hk : K (.string (bs (digN n))) h) : X Tryz.prog 67 #[.int .i64 n] h K := by
  refine fnv (args := _) mixed [] [] [] Tryz.func67 rfl (by kernel_rfl) ?_; conv => whnf
  refine format_x n hn ?_
  conv => whnf
  exact hk
theorem itoa_x (n : Nat) (hn : n < 100) (hk : K (.string (bs (digN n))) h) : X Tryz.prog 28 #[.int .i64 n] h K := by
  refine fnv (args := _) mixed [] [] [] Tryz.func28 rfl (by kernel_rfl) ?_; conv => whnf
  refine itoa0_x n hn ?_
  conv => whnf
  exact hk
end
end Go.Proofs.YtlobclgbbhoeiaaGreatDoor.Rg
/-! The names of registers: the plain law. -/
namespace Go.Proofs.YtlobclgbbhoeiaaGreatDoor.Rg
set_option linter.unusedSimpArgs false
set_option linter.unusedVariables false
open Go Go.Mid Go.RowKit
/-- A number in digits, without a nought ahead, up to most. -/
def numI (l : Str) (most : Int) : Option Int :=
  if l = [] ∨ 2 < l.length ∨ (l.head? = some 48 ∧ l ≠ [48]) ∨ ¬ (∀ b ∈ l, dig b = true) then none else if valL l > most then none else some (valL l)
def sZero : Str := [122, 101, 114, 111]
def sRa : Str := [114, 97]
def sSp : Str := [115, 112]
def sGp : Str := [103, 112]
def sTp : Str := [116, 112]
def sFp : Str := [102, 112]
def ofX (k : Int) : Int := k
def ofA (k : Int) : Int := 10 + k
def ofS (k : Int) : Int := if k < 2 then 8 + k else 16 + k
def ofT (k : Int) : Int := if k < 3 then 5 + k else 25 + k
def findI (l : Str) : Option Int :=
  if l = sZero then some 0 else if l = sRa then some 1 else if l = sSp then some 2 else if l = sGp then some 3 else if l = sTp then some 4 else if l = sFp then some 8 else
  match l with
  | [] => none
  | c :: r => if c = 120 then (numI r 31).map ofX else if c = 97 then (numI r 7).map ofA else if c = 115 then (numI r 11).map ofS else if c = 116 then (numI r 6).map ofT else none
def nameN (i : Nat) : Str :=
  if i < 5 then [sZero, sRa, sSp, sGp, sTp].getD i [] else if i < 8 then 116 :: digN (i - 5) else if i < 10 then 115 :: digN (i - 8) else if i < 18 then 97 :: digN (i - 10) else if i < 28 then 115 :: digN (i - 16) else 116 :: digN (i - 25)
/-- All that is told by a number. -/
def keys (i : Nat) : List Str := [nameN i, 120 :: digN i] ++ if i = 8 then [sFp] else []
/-- The document's. -/
def refI (l : Str) : Option Nat := (List.range 32).find? fun i => decide (l ∈ keys i)
theorem dig_num {b : UInt8} (h : dig b = true) : ∃ n, n < 10 ∧ b = dgt n ∧ ((b.toNat : Int) - 48) = n := by
  unfold dig at h
  simp only [decide_eq_true_eq] at h
  refine ⟨b.toNat - 48, by omega, ?_, by omega⟩
  unfold dgt
  rw [show 48 + (b.toNat - 48) = b.toNat by omega]
  simp
theorem numI_some {l : Str} {m n : Int} (h : numI l m = some n) : ∃ k : Nat, k < 100 ∧ n = k ∧ n ≤ m ∧ l = digN k := by
  unfold numI at h
  split at h
  · cases h
  rename_i hc
  split at h
  · cases h
  rename_i hm
  cases h
  match l with
  | [] => exact absurd (.inl rfl) hc
  | [a] =>
    have hd : ∀ b ∈ [a], dig b = true := Classical.byContradiction fun hx => hc (.inr (.inr (.inr hx)))
    obtain ⟨x, hx, ha, hv⟩ := dig_num (hd a (by simp))
    have e : valL [a] = x := by unfold valL; simp only [List.foldl_cons, List.foldl_nil]; omega
    refine ⟨x, by omega, e, by omega, ?_⟩
    unfold digN; rw [if_pos hx, ha]
  | [a, b] =>
    have hd : ∀ y ∈ [a, b], dig y = true := Classical.byContradiction fun hx => hc (.inr (.inr (.inr hx)))
    obtain ⟨x, hx, ha, hv⟩ := dig_num (hd a (by simp))
    obtain ⟨y, hy, hb, hw⟩ := dig_num (hd b (by simp))
    have h0 : x ≠ 0 := fun h0 => by
      subst h0
      exact hc (.inr (.inr (.inl ⟨by rw [ha]; rfl, by simp⟩)))
    have e : valL [a, b] = 10 * x + y := by unfold valL; simp only [List.foldl_cons, List.foldl_nil]; omega
    refine ⟨10 * x + y, by omega, by rw [e]; omega, by omega, ?_⟩
    unfold digN
    rw [if_neg (by omega), show (10 * x + y) / 10 = x by omega, show (10 * x + y) % 10 = y by omega, ha, hb]
  | a :: b :: c :: r => exact absurd (.inr (.inl (by simp only [List.length_cons]; omega))) hc
set_option maxRecDepth 100000 in
theorem refX : ∀ k : Nat, k < 100 → (k : Int) ≤ 31 → refI (120 :: digN k) = some k := by decide +kernel
set_option maxRecDepth 100000 in
theorem refA : ∀ k : Nat, k < 100 → (k : Int) ≤ 7 → refI (97 :: digN k) = some (10 + k) := by decide +kernel
set_option maxRecDepth 100000 in
theorem refS : ∀ k : Nat, k < 100 → (k : Int) ≤ 11 → refI (115 :: digN k) = some (if k < 2 then 8 + k else 16 + k) := by decide +kernel
set_option maxRecDepth 100000 in
theorem refT : ∀ k : Nat, k < 100 → (k : Int) ≤ 6 → refI (116 :: digN k) = some (if k < 3 then 5 + k else 25 + k) := by decide +kernel
set_option maxRecDepth 100000 in
theorem findKeys : ∀ i : Nat, i < 32 → ∀ k ∈ keys i, findI k = some (i : Int) := by decide +kernel
theorem find_some {l : Str} {n : Int} (h : findI l = some n) : ∃ k : Nat, n = k ∧ refI l = some k := by
  unfold findI at h
  (repeat' split at h) <;> first
    | (cases h; done)
    | (rename_i hx; subst hx; cases h; exact ⟨_, rfl, by decide +kernel⟩)
    | skip
  · rename_i hx; rename_i c; subst hx
    obtain ⟨y, hy, rfl⟩ := Option.map_eq_some_iff.1 h
    obtain ⟨k, hk, rfl, hm, rfl⟩ := numI_some hy
    exact ⟨k, rfl, refX k hk hm⟩
  · rename_i hx; subst hx
    obtain ⟨y, hy, rfl⟩ := Option.map_eq_some_iff.1 h
    obtain ⟨k, hk, rfl, hm, rfl⟩ := numI_some hy
    exact ⟨10 + k, rfl, refA k hk hm⟩
  · rename_i hx; subst hx
    obtain ⟨y, hy, rfl⟩ := Option.map_eq_some_iff.1 h
    obtain ⟨k, hk, rfl, hm, rfl⟩ := numI_some hy
    refine ⟨_, ?_, refS k hk hm⟩
    unfold ofS; split <;> split <;> omega
  · rename_i hx; subst hx
    obtain ⟨y, hy, rfl⟩ := Option.map_eq_some_iff.1 h
    obtain ⟨k, hk, rfl, hm, rfl⟩ := numI_some hy
    refine ⟨_, ?_, refT k hk hm⟩
    unfold ofT; split <;> split <;> omega
/-- **The register that is known by a name**, the program's and the document's. -/
theorem find_ref (l : Str) : findI l = (refI l).map fun (k : Nat) => (k : Int) := by
  cases h : findI l with
  | some n =>
    obtain ⟨k, rfl, hk⟩ := find_some h
    rw [hk]; rfl
  | none =>
    cases hr : refI l with
    | none => rfl
    | some k =>
      have hm := List.mem_of_find?_eq_some hr
      have hp := List.find?_some hr
      rw [findKeys k (List.mem_range.1 hm) l (of_decide_eq_true hp)] at h
      cases h
end Go.Proofs.YtlobclgbbhoeiaaGreatDoor.Rg
/-! The registers of a hart: names, the program's and the document's. -/
namespace Go.Proofs.YtlobclgbbhoeiaaGreatDoor.Rg
set_option linter.unusedSimpArgs false
set_option linter.unusedVariables false
open Go Go.Mid Go.RowKit
attribute [local irreducible] mid
section
set_option maxHeartbeats 8000000
set_option maxRecDepth 10000
variable {h : Hp} {K : Value → Hp → Prop}
def digs : Str := [48, 49, 50, 51, 52, 53, 54, 55, 56, 57]
theorem isOf_digs : ∀ b : UInt8, isOf digs b = dig b := by
  intro b
  obtain ⟨n, hn, rfl⟩ : ∃ n : Nat, n < 256 ∧ b = UInt8.ofNat n := ⟨b.toNat, b.toNat_lt, by simp⟩
  have key : ∀ n : Nat, n < 256 → isOf digs (UInt8.ofNat n) = dig (UInt8.ofNat n) := by decide +kernel
  exact key n hn
theorem in_x (i : Int) (hk : K (.bool (decide (0 ≤ i ∧ i < 32))) h) : X Tryz.prog 65 #[.int .i64 i] h K := by
  refine fnv (args := _) mixed [] [] [] Tryz.func65 rfl (by kernel_rfl) ?_; conv => whnf
  refine bsel_intro (fun q1 => ?_) (fun q1 => ?_) <;> try simp only [bsL] at q1
  · conv => whnf
    exact kq hk (bI (by rw [Bool.eq_iff_iff]; simp; omega))
  · conv => whnf
    exact kq hk (bI (by rw [Bool.eq_iff_iff]; simp; omega))
theorem nameN_eq (i : Nat) : nameN i = if i < 5 then [sZero, sRa, sSp, sGp, sTp].getD i [] else if i < 8 then 116 :: digN (i - 5) else if i < 10 then 115 :: digN (i - 8) else if i < 18 then 97 :: digN (i - 10) else if i < 28 then 115 :: digN (i - 16) else 116 :: digN (i - 25) := rfl
theorem digN_len (n : Nat) : (digN n).length ≤ 2 := by unfold digN; split <;> simp
/-- **A register's name.** -/
theorem name_x (i : Nat) (hi : i < 32) (hk : K (.string (bs (nameN i))) h) : X Tryz.prog 26 #[.int .i64 i] h K := by
  rw [nameN_eq] at hk
  refine fnv (args := _) mixed [] [] [] Tryz.func26 rfl (by kernel_rfl) ?_; conv => whnf
  refine in_x _ ?_
  conv => whnf
  rw [show decide (0 ≤ (i : Int) ∧ (i : Int) < 32) = true by simp; omega]
  conv => whnf
  refine bsel_intro (fun q1 => ?_) (fun q1 => ?_) <;> try simp only [bsL] at q1
  · rw [if_pos (by omega)] at hk
    have hc : i = 0 ∨ i = 1 ∨ i = 2 ∨ i = 3 ∨ i = 4 := by omega
    rcases hc with rfl | rfl | rfl | rfl | rfl
    all_goals
      conv => whnf
      exact hk
  rw [if_neg (by omega)] at hk
  conv => whnf
  refine bsel_intro (fun q2 => ?_) (fun q2 => ?_) <;> try simp only [bsL] at q2
  · rw [if_pos (by omega)] at hk
    conv => whnf
    (first | refine ov_c (by simp only [loK, hiK]; omega) ?_ | refine ov_c (by decide) ?_); conv => whnf
    rw [show (i : Int) - 5 = ((i - 5 : Nat) : Int) by omega]
    refine itoa_x (i - 5) (by omega) ?_
    conv => whnf
    refine cat_intro (a := [116]) (by have := digN_len (i - 5); simp; omega) ?_
    conv => whnf
    exact hk
  rw [if_neg (by omega)] at hk
  conv => whnf
  refine bsel_intro (fun q3 => ?_) (fun q3 => ?_) <;> try simp only [bsL] at q3
  · rw [if_pos (by omega)] at hk
    conv => whnf
    (first | refine ov_c (by simp only [loK, hiK]; omega) ?_ | refine ov_c (by decide) ?_); conv => whnf
    rw [show (i : Int) - 8 = ((i - 8 : Nat) : Int) by omega]
    refine itoa_x (i - 8) (by omega) ?_
    conv => whnf
    refine cat_intro (a := [115]) (by have := digN_len (i - 8); simp; omega) ?_
    conv => whnf
    exact hk
  rw [if_neg (by omega)] at hk
  conv => whnf
  refine bsel_intro (fun q4 => ?_) (fun q4 => ?_) <;> try simp only [bsL] at q4
  · rw [if_pos (by omega)] at hk
    conv => whnf
    (first | refine ov_c (by simp only [loK, hiK]; omega) ?_ | refine ov_c (by decide) ?_); conv => whnf
    rw [show (i : Int) - 10 = ((i - 10 : Nat) : Int) by omega]
    refine itoa_x (i - 10) (by omega) ?_
    conv => whnf
    refine cat_intro (a := [97]) (by have := digN_len (i - 10); simp; omega) ?_
    conv => whnf
    exact hk
  rw [if_neg (by omega)] at hk
  conv => whnf
  refine bsel_intro (fun q5 => ?_) (fun q5 => ?_) <;> try simp only [bsL] at q5
  · rw [if_pos (by omega)] at hk
    conv => whnf
    (first | refine ov_c (by simp only [loK, hiK]; omega) ?_ | refine ov_c (by decide) ?_); conv => whnf
    rw [show (i : Int) - 16 = ((i - 16 : Nat) : Int) by omega]
    refine itoa_x (i - 16) (by omega) ?_
    conv => whnf
    refine cat_intro (a := [115]) (by have := digN_len (i - 16); simp; omega) ?_
    conv => whnf
    exact hk
  rw [if_neg (by omega)] at hk
  conv => whnf
  (first | refine ov_c (by simp only [loK, hiK]; omega) ?_ | refine ov_c (by decide) ?_); conv => whnf
  rw [show (i : Int) - 25 = ((i - 25 : Nat) : Int) by omega]
  refine itoa_x (i - 25) (by omega) ?_
  conv => whnf
  refine cat_intro (a := [116]) (by have := digN_len (i - 25); simp; omega) ?_
  conv => whnf
  exact hk
theorem name0_x (i : Int) (hi : ¬ (0 ≤ i ∧ i < 32)) (hk : K (.string (bs [])) h) : X Tryz.prog 26 #[.int .i64 i] h K := by
  refine fnv (args := _) mixed [] [] [] Tryz.func26 rfl (by kernel_rfl) ?_; conv => whnf
  refine in_x _ ?_
  conv => whnf
  rw [show decide (0 ≤ i ∧ i < 32) = false by simp; omega]
  conv => whnf
  exact hk
def optV (o : Option Int) : Value := .tuple #[.int .i64 (o.getD 0), .bool o.isSome]
/-- **A number in digits.** -/
theorem number_x (l : Str) (most : Int) (hl : l.length ≤ 2 ^ 60) (hk : K (optV (numI l most)) h) : X Tryz.prog 76 #[.string (bs l), .int .i64 most] h K := by
  unfold numI at hk
  refine fnv (args := _) mixed [] [] [] Tryz.func76 rfl (by kernel_rfl) ?_; conv => whnf
  refine seq_intro ?_; conv => whnf
  refine bsel_intro (fun q1 => ?_) (fun q1 => ?_) <;> try simp only [bsL] at q1
  · subst q1
    rw [if_pos (.inl rfl)] at hk
    conv => whnf
    exact hk
  conv => whnf
  refine bsel_intro (fun q2 => ?_) (fun q2 => ?_) <;> try simp only [bsL] at q2
  · rw [if_pos (.inr (.inl (by omega)))] at hk
    conv => whnf
    exact hk
  conv => whnf
  obtain ⟨b, r, rfl⟩ : ∃ b r, l = b :: r := by
    cases l with
    | nil => exact absurd rfl q1
    | cons b r => exact ⟨b, r, rfl⟩
  refine ch_intro (b) (by omega) (by rfl) ?_; conv => whnf
  have hb48 : (b :: r).head? = some 48 ↔ (b.toNat : Int) = 48 := by
    rw [List.head?_cons, Option.some.injEq]
    constructor
    · intro e; subst e; rfl
    · intro e; apply UInt8.toNat.inj; show b.toNat = 48; omega
  have hnil : (trimB (isOf digs) (b :: r)).dropWhile (isOf digs) = [] ↔ ∀ x ∈ b :: r, dig x = true := by
    have e : isOf digs = dig := funext isOf_digs
    rw [e]; exact trim_nil (b :: r)
  have fin2 : ¬ ((b :: r).head? = some 48 ∧ b :: r ≠ [48]) → K (optV (if (∀ x ∈ b :: r, dig x = true) then (if valL (b :: r) > most then none else some (valL (b :: r))) else none)) h := fun h48 => by
    by_cases hd : ∀ x ∈ b :: r, dig x = true
    · rw [if_pos hd]
      rw [if_neg (fun hx => by
        rcases hx with hx | hx | hx | hx
        · cases hx
        · omega
        · exact h48 hx
        · exact hx hd)] at hk
      exact hk
    · rw [if_neg hd]
      rw [if_pos (.inr (.inr (.inr hd)))] at hk
      exact hk
  have hno : ¬ ((b :: r).head? = some 48 ∧ b :: r ≠ [48]) ∨ ((b :: r).head? = some 48 ∧ b :: r ≠ [48]) := (Classical.em _).symm
  refine bsel_intro (fun q3 => ?_) (fun q3 => ?_) <;> try simp only [bsL] at q3
  · conv => whnf
    refine seq_intro ?_; conv => whnf
    refine bsel_intro (fun q7 => ?_) (fun q7 => ?_) <;> try simp only [bsL] at q7
    · rw [if_pos (.inr (.inr (.inl ⟨hb48.2 q3, q7⟩)))] at hk
      conv => whnf
      exact hk
    · have q5 : ¬ ((b :: r).head? = some 48 ∧ b :: r ≠ [48]) := fun hx => hx.2 q7
      clear hk
      conv => whnf
      refine trim_x (b :: r) digs (by omega) (by decide) (by decide) (by decide) ?_
      conv => whnf
      refine seq_intro ?_; conv => whnf
      refine bsel_intro (fun q4 => ?_) (fun q4 => ?_) <;> try simp only [bsL] at q4
      · rw [hnil] at q4
        have hk := fin2 q5
        rw [if_neg q4] at hk
        conv => whnf
        exact hk
      · rw [hnil] at q4
        have hk := fin2 q5
        rw [if_pos q4] at hk
        conv => whnf
        refine atoi_x (b :: r) q4 (by simp) (by rw [List.length_cons] at q2 ⊢; omega) ?_
        conv => whnf
        refine bsel_intro (fun q6 => ?_) (fun q6 => ?_) <;> try simp only [bsL] at q6
        · rw [if_pos q6] at hk
          conv => whnf
          exact hk
        · rw [if_neg q6] at hk
          conv => whnf
          exact hk
  · have q5 : ¬ ((b :: r).head? = some 48 ∧ b :: r ≠ [48]) := fun hx => q3 (hb48.1 hx.1)
    clear hk
    conv => whnf
    refine trim_x (b :: r) digs (by omega) (by decide) (by decide) (by decide) ?_
    conv => whnf
    refine seq_intro ?_; conv => whnf
    refine bsel_intro (fun q4 => ?_) (fun q4 => ?_) <;> try simp only [bsL] at q4
    · rw [hnil] at q4
      have hk := fin2 q5
      rw [if_neg q4] at hk
      conv => whnf
      exact hk
    · rw [hnil] at q4
      have hk := fin2 q5
      rw [if_pos q4] at hk
      conv => whnf
      refine atoi_x (b :: r) q4 (by simp) (by rw [List.length_cons] at q2 ⊢; omega) ?_
      conv => whnf
      refine bsel_intro (fun q6 => ?_) (fun q6 => ?_) <;> try simp only [bsL] at q6
      · rw [if_pos q6] at hk
        conv => whnf
        exact hk
      · rw [if_neg q6] at hk
        conv => whnf
        exact hk
theorem id_x (k : Int) (hk : K (.int .i64 (ofX k)) h) : X Tryz.prog 77 #[.int .i64 k] h K := by
  refine fnv (args := _) mixed [] [] [] Tryz.func77 rfl (by kernel_rfl) ?_; conv => whnf
  exact hk
theorem ten_x (k : Int) (h0 : 0 ≤ k ∧ k ≤ 100) (hk : K (.int .i64 (ofA k)) h) : X Tryz.prog 78 #[.int .i64 k] h K := by
  refine fnv (args := _) mixed [] [] [] Tryz.func78 rfl (by kernel_rfl) ?_; conv => whnf
  (first | refine ov_c (by simp only [loK, hiK]; omega) ?_ | refine ov_c (by decide) ?_); conv => whnf
  exact hk
theorem saved_x (k : Int) (h0 : 0 ≤ k ∧ k ≤ 100) (hk : K (.int .i64 (ofS k)) h) : X Tryz.prog 79 #[.int .i64 k] h K := by
  unfold ofS at hk
  refine fnv (args := _) mixed [] [] [] Tryz.func79 rfl (by kernel_rfl) ?_; conv => whnf
  refine bsel_intro (fun q1 => ?_) (fun q1 => ?_) <;> try simp only [bsL] at q1
  · rw [if_pos q1] at hk
    conv => whnf
    (first | refine ov_c (by simp only [loK, hiK]; omega) ?_ | refine ov_c (by decide) ?_); conv => whnf
    exact hk
  · rw [if_neg q1] at hk
    conv => whnf
    (first | refine ov_c (by simp only [loK, hiK]; omega) ?_ | refine ov_c (by decide) ?_); conv => whnf
    exact hk
theorem temp_x (k : Int) (h0 : 0 ≤ k ∧ k ≤ 100) (hk : K (.int .i64 (ofT k)) h) : X Tryz.prog 80 #[.int .i64 k] h K := by
  unfold ofT at hk
  refine fnv (args := _) mixed [] [] [] Tryz.func80 rfl (by kernel_rfl) ?_; conv => whnf
  refine bsel_intro (fun q1 => ?_) (fun q1 => ?_) <;> try simp only [bsL] at q1
  · rw [if_pos q1] at hk
    conv => whnf
    (first | refine ov_c (by simp only [loK, hiK]; omega) ?_ | refine ov_c (by decide) ?_); conv => whnf
    exact hk
  · rw [if_neg q1] at hk
    conv => whnf
    (first | refine ov_c (by simp only [loK, hiK]; omega) ?_ | refine ov_c (by decide) ?_); conv => whnf
    exact hk
/-- The place of a letter and a number. -/
theorem place_x {g : FuncId} {f : Int → Int} (hg : callable Tryz.prog g = true) (hf : ∀ (k : Int) (K : Value → Hp → Prop), 0 ≤ k ∧ k ≤ 100 → K (.int .i64 (f k)) h → X Tryz.prog g #[.int .i64 k] h K) {a : Nat} {c : UInt8} {r : Str} (most : Int) (hl : r.length ≤ 2 ^ 60)
    (ha : h a = some (rowO 9 [.string (bs (c :: r))])) (hk : K (optV ((numI r most).map f)) h) : X Tryz.prog 75 #[.int .i64 most, .func (.func g) #[] #[], .pointer (some ⟨a, 0, none⟩)] h K := by
  refine fnv (args := _) mixed [] [] [] Tryz.func75 rfl (by kernel_rfl) ?_; conv => whnf
  refine ⟨_, loadC0 aggStr ha rfl, ?_⟩; conv => whnf
  refine need_intro (by rw [bs_size, List.length_cons]; omega) ?_
  conv => whnf
  refine sub_from (rfl) ?_; conv => whnf
  refine number_x r most hl ?_
  cases hn : numI r most with
  | none =>
    rw [hn] at hk
    conv => whnf
    exact hk
  | some n =>
    rw [hn] at hk
    obtain ⟨k, hk1, rfl, _, _⟩ := numI_some hn
    conv => whnf
    refine aRunK_call (args := [.int .i64 k]) rfl hg ?_
    refine hf k _ (by omega) ?_
    conv => whnf
    exact hk
end
end Go.Proofs.YtlobclgbbhoeiaaGreatDoor.Rg
/-! The register that is known by a name, the program's and the document's. -/
namespace Go.Proofs.YtlobclgbbhoeiaaGreatDoor.Rg
set_option linter.unusedSimpArgs false
set_option linter.unusedVariables false
open Go Go.Mid Go.RowKit
attribute [local irreducible] mid
section
set_option maxHeartbeats 8000000
set_option maxRecDepth 10000
variable {h : Hp} {K : Value → Hp → Prop}
theorem findI_eq (l : Str) : findI l = if l = sZero then some 0 else if l = sRa then some 1 else if l = sSp then some 2 else if l = sGp then some 3 else if l = sTp then some 4 else if l = sFp then some 8 else
    match l with
    | [] => none
    | c :: r => if c = 120 then (numI r 31).map ofX else if c = 97 then (numI r 7).map ofA else if c = 115 then (numI r 11).map ofS else if c = 116 then (numI r 6).map ofT else none := rfl
theorem u8_eq {b c : UInt8} : (b.toNat : Int) = ((c.toNat : Nat) : Int) ↔ b = c := by
  constructor
  · intro e; apply UInt8.toNat.inj; omega
  · rintro rfl; rfl
/-- **The register that is known by a name.** -/
theorem find_x (l : Str) (hl : l.length ≤ 2 ^ 60) (hk : K (optV (findI l)) h) : X Tryz.prog 41 #[.string (bs l)] h K := by
  rw [findI_eq] at hk
  refine X.forget ?_
  refine fnv (args := _) mixed [] [] [] Tryz.func41 rfl (by kernel_rfl) ?_; conv => whnf
  refine new_intro (o := rowO 9 [.string (bs l)]) (fun a H n_a le_a at_a ot_a => ?_); conv => whnf
  refine ⟨_, loadC0 aggStr at_a rfl, ?_⟩; conv => whnf
  refine seq_intro (b := sZero) ?_
  conv => whnf
  refine bsel_intro (fun q1 => ?_) (fun q1 => ?_) <;> try simp only [bsL] at q1
  · rw [if_pos q1] at hk
    conv => whnf
    exact ⟨h, le_a, hk⟩
  rw [if_neg q1] at hk
  conv => whnf
  refine seq_intro (b := sRa) ?_
  conv => whnf
  refine bsel_intro (fun q2 => ?_) (fun q2 => ?_) <;> try simp only [bsL] at q2
  · rw [if_pos q2] at hk
    conv => whnf
    exact ⟨h, le_a, hk⟩
  rw [if_neg q2] at hk
  conv => whnf
  refine seq_intro (b := sSp) ?_
  conv => whnf
  refine bsel_intro (fun q3 => ?_) (fun q3 => ?_) <;> try simp only [bsL] at q3
  · rw [if_pos q3] at hk
    conv => whnf
    exact ⟨h, le_a, hk⟩
  rw [if_neg q3] at hk
  conv => whnf
  refine seq_intro (b := sGp) ?_
  conv => whnf
  refine bsel_intro (fun q4 => ?_) (fun q4 => ?_) <;> try simp only [bsL] at q4
  · rw [if_pos q4] at hk
    conv => whnf
    exact ⟨h, le_a, hk⟩
  rw [if_neg q4] at hk
  conv => whnf
  refine seq_intro (b := sTp) ?_
  conv => whnf
  refine bsel_intro (fun q5 => ?_) (fun q5 => ?_) <;> try simp only [bsL] at q5
  · rw [if_pos q5] at hk
    conv => whnf
    exact ⟨h, le_a, hk⟩
  rw [if_neg q5] at hk
  conv => whnf
  refine seq_intro (b := sFp) ?_
  conv => whnf
  refine bsel_intro (fun q6 => ?_) (fun q6 => ?_) <;> try simp only [bsL] at q6
  · rw [if_pos q6] at hk
    conv => whnf
    exact ⟨h, le_a, hk⟩
  rw [if_neg q6] at hk
  conv => whnf
  refine seq_intro (b := []) ?_
  conv => whnf
  refine bsel_intro (fun q7 => ?_) (fun q7 => ?_) <;> try simp only [bsL] at q7
  · subst q7
    conv => whnf
    exact ⟨h, le_a, hk⟩
  obtain ⟨c, r, rfl⟩ : ∃ c r, l = c :: r := by
    cases l with
    | nil => exact absurd rfl q7
    | cons c r => exact ⟨c, r, rfl⟩
  rw [List.length_cons] at hl
  simp only at hk
  conv => whnf
  refine ⟨_, loadC0 aggStr at_a rfl, ?_⟩; conv => whnf
  refine ch_intro (c) (by omega) (by rfl) ?_; conv => whnf
  refine bsel_intro (fun q8 => ?_) (fun q8 => ?_) <;> try simp only [bsL] at q8
  · rw [if_pos ((u8_eq (c := 120)).1 q8)] at hk
    conv => whnf
    refine place_x (f := ofX) (by kernel_rfl) (fun k K _ hK => id_x k hK) 31 (by omega) at_a ?_
    conv => whnf
    exact ⟨h, le_a, hk⟩
  rw [if_neg (fun e => q8 ((u8_eq (c := 120)).2 e))] at hk
  conv => whnf
  refine bsel_intro (fun q9 => ?_) (fun q9 => ?_) <;> try simp only [bsL] at q9
  · rw [if_pos ((u8_eq (c := 97)).1 q9)] at hk
    conv => whnf
    refine place_x (f := ofA) (by kernel_rfl) (fun k K hk hK => ten_x k hk hK) 7 (by omega) at_a ?_
    conv => whnf
    exact ⟨h, le_a, hk⟩
  rw [if_neg (fun e => q9 ((u8_eq (c := 97)).2 e))] at hk
  conv => whnf
  refine bsel_intro (fun q10 => ?_) (fun q10 => ?_) <;> try simp only [bsL] at q10
  · rw [if_pos ((u8_eq (c := 115)).1 q10)] at hk
    conv => whnf
    refine place_x (f := ofS) (by kernel_rfl) (fun k K hk hK => saved_x k hk hK) 11 (by omega) at_a ?_
    conv => whnf
    exact ⟨h, le_a, hk⟩
  rw [if_neg (fun e => q10 ((u8_eq (c := 115)).2 e))] at hk
  conv => whnf
  refine bsel_intro (fun q11 => ?_) (fun q11 => ?_) <;> try simp only [bsL] at q11
  · rw [if_pos ((u8_eq (c := 116)).1 q11)] at hk
    conv => whnf
    refine place_x (f := ofT) (by kernel_rfl) (fun k K hk hK => temp_x k hk hK) 6 (by omega) at_a ?_
    conv => whnf
    exact ⟨h, le_a, hk⟩
  rw [if_neg (fun e => q11 ((u8_eq (c := 116)).2 e))] at hk
  conv => whnf
  exact ⟨h, le_a, hk⟩
theorem rdigits_x (n : Nat) (hn : n < 100) (hk : K (.string (bs (digN n))) h) : X Tryz.prog 82 #[.int .i64 n] h K := by
  have e1 : ∀ n : Nat, n < 10 → (digs.take ((n : Int) + 1).toNat).drop (n : Int).toNat = [dgt n] := by decide +kernel
  unfold digN at hk
  refine fnv (args := _) mixed [] [] [] Tryz.func82 rfl (by kernel_rfl) ?_; conv => whnf
  refine bsel_intro (fun q1 => ?_) (fun q1 => ?_) <;> try simp only [bsL] at q1
  · have hn : n < 10 := by omega
    rw [if_pos hn] at hk
    conv => whnf
    (first | refine ov_c (by simp only [loK, hiK]; omega) ?_ | refine ov_c (by decide) ?_); conv => whnf
    refine need_intro ⟨by omega, by show _ ≤ ((10 : Nat) : Int); omega⟩ ?_
    conv => whnf
    refine need_intro (by omega) ?_
    conv => whnf
    refine sub_by (l := digs) (e1 n hn) ?_
    conv => whnf
    exact hk
  · rw [if_neg (by omega)] at hk
    conv => whnf
    have h1 : (n : Int).tdiv 10 = ((n / 10 : Nat) : Int) := by rw [Int.tdiv_eq_ediv_of_nonneg (by omega)]; omega
    have h2 : (n : Int).tmod 10 = ((n % 10 : Nat) : Int) := by rw [Int.tmod_eq_emod_of_nonneg (by omega)]; omega
    rw [h1]
    (first | refine ov_c (by simp only [loK, hiK]; omega) ?_ | refine ov_c (by decide) ?_); conv => whnf
    (first | refine ov_c (by simp only [loK, hiK]; omega) ?_ | refine ov_c (by decide) ?_); conv => whnf
    (first | refine ov_c (by simp only [loK, hiK]; omega) ?_ | refine ov_c (by decide) ?_); conv => whnf
    refine need_intro ⟨by omega, by show _ ≤ ((10 : Nat) : Int); omega⟩ ?_
    conv => whnf
    refine need_intro (by omega) ?_
    conv => whnf
    refine sub_by (l := digs) (e1 (n / 10) (by omega)) ?_
    conv => whnf
    rw [h2]
    (first | refine ov_c (by simp only [loK, hiK]; omega) ?_ | refine ov_c (by decide) ?_); conv => whnf
    refine need_intro ⟨by omega, by show _ ≤ ((10 : Nat) : Int); omega⟩ ?_
    conv => whnf
    refine need_intro (by omega) ?_
    conv => whnf
    refine sub_by (l := digs) (e1 (n % 10) (by omega)) ?_
    conv => whnf
    refine cat_intro (by simp) ?_
    conv => whnf
    exact hk
end
end Go.Proofs.YtlobclgbbhoeiaaGreatDoor.Rg
/-! The register that is known by a name, as the document tells it; the walk of RegsNames. -/
namespace Go.Proofs.YtlobclgbbhoeiaaGreatDoor.Rg
set_option linter.unusedSimpArgs false
set_option linter.unusedVariables false
open Go Go.Mid Go.RowKit
attribute [local irreducible] mid
section
set_option maxHeartbeats 8000000
set_option maxRecDepth 10000
def namesL : List Value := (List.range 32).map fun i => .string (bs (nameN i))
theorem namesL_get {i : Nat} (hi : i < 32) : namesL[i]? = some (.string (bs (nameN i))) := by simp [namesL, hi]
theorem names_x (h : Hp) (K : Value → Hp → Prop) (hk : ∀ b H, h.le H → H b = some (rowO 9 namesL) → K (.slice (some ⟨b, 0, none⟩) 32 32) H) : X Tryz.prog 34 #[] h K := by
  refine fnv (args := _) mixed [] [] [] Tryz.func34 rfl (by kernel_rfl) ?_; conv => whnf
  refine new_intro (o := rowO 9 namesL) (fun b H n_b le_b at_b ot_b => ?_); conv => whnf
  exact hk b H le_b at_b
theorem ref_some {l : Str} {j : Nat} (hj : j < 32) (hl : l ∈ keys j) (hn : ∀ k, k < j → l ∉ keys k) : refI l = some j := by
  unfold refI
  rw [List.find?_range_eq_some]
  exact ⟨decide_eq_true hl, List.mem_range.2 hj, fun k hk => by simpa using hn k hk⟩
theorem ref_none {l : Str} (hn : ∀ k, k < 32 → l ∉ keys k) : refI l = none := by
  unfold refI
  rw [List.find?_eq_none]
  intro k hk
  simpa using hn k (List.mem_range.1 hk)
theorem mem_keys {l : Str} {j : Nat} : l ∈ keys j ↔ l = nameN j ∨ l = 120 :: digN j ∨ (j = 8 ∧ l = sFp) := by
  unfold keys
  by_cases h : j = 8 <;> simp [h]
def refV (l : Str) : Int := match refI l with
  | some i => i
  | none => -1
theorem rfind_x (l : Str) (hl : l.length ≤ 2 ^ 60) (h : Hp) (K : Value → Hp → Prop) (hk : K (.int .i64 (refV l)) h) : X Tryz.prog 47 #[.string (bs l)] h K := by
  refine X.forget ?_
  refine fnv (args := _) mixed [] [] [] Tryz.func47 rfl (by kernel_rfl) ?_; conv => whnf
  refine names_x h _ (fun b H le_b at_b => ?_)
  conv => whnf
  refine loop_at [4] [] (fun r vs _ h' => h' = H ∧ ∃ j : Nat, j ≤ 32 ∧ r = 32 - j ∧ vs = [.v (.int .i64 j)] ∧ ∀ k, k < j → l ∉ keys k) 32 ⟨rfl, 0, by omega, by omega, rfl, fun k hk => by omega⟩ ?_
  rintro r vs cs mm bx _ ⟨rfl, j, hj, rfl, rfl, hno⟩
  conv => whnf
  refine bsel_intro (fun q1 => ?_) (fun q1 => ?_) <;> try simp only [bsL] at q1
  · have hj32 : j < 32 := by omega
    have found : l ∈ keys j → K (.int .i64 j) h := fun hm => by
      have : refV l = j := by unfold refV; rw [ref_some hj32 hm hno]
      rw [this] at hk
      exact hk
    have nxt : l ∉ keys j → ∀ k, k < j + 1 → l ∉ keys k := fun hm k hk => by
      rcases Nat.lt_or_ge k j with h1 | h1
      · exact hno k h1
      · rw [show k = j by omega]; exact hm
    rw [mem_keys] at found nxt
    conv => whnf
    refine need_intro (by omega) ?_
    conv => whnf
    refine ⟨_, loadC1 (i := j) aggStr at_b (namesL_get hj32), ?_⟩; conv => whnf
    refine seq_intro ?_; conv => whnf
    refine bsel_intro (fun q2 => ?_) (fun q2 => ?_) <;> try simp only [bsL] at q2
    · conv => whnf
      exact ⟨h, le_b, found (.inl q2)⟩
    conv => whnf
    refine rdigits_x j (by omega) ?_
    conv => whnf
    refine cat_intro (a := [120]) (by have := digN_len j; simp; omega) ?_
    conv => whnf
    refine seq_intro ?_; conv => whnf
    refine bsel_intro (fun q3 => ?_) (fun q3 => ?_) <;> try simp only [bsL] at q3
    · conv => whnf
      exact ⟨h, le_b, found (.inr (.inl q3))⟩
    conv => whnf
    refine bsel_intro (fun q4 => ?_) (fun q4 => ?_) <;> try simp only [bsL] at q4
    · conv => whnf
      refine seq_intro (b := sFp) ?_
      conv => whnf
      refine bsel_intro (fun q5 => ?_) (fun q5 => ?_) <;> try simp only [bsL] at q5
      · conv => whnf
        exact ⟨h, le_b, found (.inr (.inr ⟨by omega, q5⟩))⟩
      · conv => whnf
        (first | refine ov_c (by simp only [loK, hiK]; omega) ?_ | refine ov_c (by decide) ?_); conv => whnf
        exact ⟨32 - (j + 1), by omega, rfl, j + 1, by omega, rfl, rfl, nxt (by rintro (e | e | ⟨_, e⟩); exact q2 e; exact q3 e; exact q5 e)⟩
    · conv => whnf
      (first | refine ov_c (by simp only [loK, hiK]; omega) ?_ | refine ov_c (by decide) ?_); conv => whnf
      exact ⟨32 - (j + 1), by omega, rfl, j + 1, by omega, rfl, rfl, nxt (by rintro (e | e | ⟨e, _⟩); exact q2 e; exact q3 e; exact q4 (by omega))⟩
  · obtain rfl : j = 32 := by omega
    have : refV l = -1 := by unfold refV; rw [ref_none hno]
    rw [this] at hk
    conv => whnf
    exact ⟨h, le_b, hk⟩
end
end Go.Proofs.YtlobclgbbhoeiaaGreatDoor.Rg
