/-
  Go's library: strings.Trim by a set of ASCII letters; strconv.Atoi of digits; strconv.Itoa below 100.
-/
import Derived.Test.YtcapmnambpgemaaDoorLib1
namespace Go.Proofs.YtcapmnambpgemaaDoor
set_option linter.unusedSimpArgs false
set_option linter.unusedVariables false
open Go Go.Mid Go.RowKit
attribute [local irreducible] asC mid
section
set_option maxHeartbeats 8000000
set_option maxRecDepth 10000
variable {h : Hp} {K : Value → Hp → Prop}
/-- Is a byte one of them? -/
def isOf (c : Str) (b : UInt8) : Bool := has c b.toNat
theorem aggBool : isAggT Tryd.prog 4 = some false := by kernel_rfl
theorem aggStr : isAggT Tryd.prog 9 = some false := by kernel_rfl
theorem aggInt : isAggT Tryd.prog 3 = some false := by kernel_rfl
theorem aggU8 : isAggT Tryd.prog 5 = some false := by kernel_rfl
theorem contains_x {a : Nat} {c : Str} (b : UInt8) (ha : h a = some (rowO 63 (asC c))) (hk : K (.bool (isOf c b)) h) : X Tryd.prog 43 #[.pointer (some ⟨a, 0, none⟩), .int .u8 b.toNat] h K := by
  have hb := b.toNat_lt
  refine fnv (args := _) mixed [] [] [] Tryd.func43 rfl (by kernel_rfl) ?_
  conv => whnf
  refine need_intro (by omega) ?_
  conv => whnf
  refine ⟨_, loadC1 (i := b.toNat) aggBool ha (asC_get c (by omega)), ?_⟩
  conv => whnf
  exact hk
theorem trimL_x {a : Nat} {c : Str} (ha : h a = some (rowO 63 (asC c))) (l : Str) (hl : l.length ≤ 2 ^ 62) (hk : K (.string (bs (l.dropWhile (isOf c)))) h) : X Tryd.prog 36 #[.string (bs l), .pointer (some ⟨a, 0, none⟩)] h K := by
  refine fnv (args := _) mixed [] [] [] Tryd.func36 rfl (by kernel_rfl) ?_
  conv => whnf
  refine loop_at [0] [] (fun r vs _ h' => h' = h ∧ ∃ m : Str, m.length ≤ 2 ^ 62 ∧ r = m.length ∧ m.dropWhile (isOf c) = l.dropWhile (isOf c) ∧ vs = [.v (.string (bs m))]) l.length ⟨rfl, l, hl, rfl, rfl, rfl⟩ ?_
  rintro r vs cs mm bx _ ⟨rfl, m, hm, rfl, he, rfl⟩
  conv => whnf
  refine bsel_intro (fun q1 => ?_) (fun q1 => ?_) <;> try simp only [decide_eq_true_eq, decide_eq_false_iff_not, beq_iff_eq, beq_eq_false_iff_ne, ne_eq, Bool.not_eq_true', Bool.not_eq_false', bne_iff_ne, bne_eq_false_iff_eq, Bool.not_eq_true, Bool.not_eq_false, Bool.and_eq_true, Bool.or_eq_true, bs_size] at q1
  · obtain ⟨b, m, rfl⟩ : ∃ b m', m = b :: m' := by
      cases m with
      | nil => simp at q1
      | cons b m' => exact ⟨b, m', rfl⟩
    conv => whnf
    refine ch_intro (b) (by omega) (by rfl) ?_
    conv => whnf
    refine contains_x b ha ?_
    conv => whnf
    rw [List.dropWhile_cons] at he
    refine bsel_intro (fun q2 => ?_) (fun q2 => ?_) <;> try simp only [decide_eq_true_eq, decide_eq_false_iff_not, beq_iff_eq, beq_eq_false_iff_ne, ne_eq, Bool.not_eq_true', Bool.not_eq_false', bne_iff_ne, bne_eq_false_iff_eq, Bool.not_eq_true, Bool.not_eq_false, Bool.and_eq_true, Bool.or_eq_true, bs_size] at q2
    · conv => whnf
      rw [if_neg (by simp [q2])] at he
      exact kq hk (sI he)
    · conv => whnf
      refine need_intro (by rw [bs_size, List.length_cons]; omega) ?_
      conv => whnf
      refine sub_from (rfl) ?_
      conv => whnf
      rw [if_pos q2] at he
      exact ⟨m.length, by rw [List.length_cons]; omega, rfl, m, by rw [List.length_cons] at hm; omega, rfl, he, rfl⟩
  · conv => whnf
    cases m with
    | nil => exact kq hk (sI he)
    | cons b m' => exfalso; rw [List.length_cons] at q1; omega
/-- Without those behind. -/
def trimB (p : UInt8 → Bool) (l : Str) : Str := (l.reverse.dropWhile p).reverse
theorem trimB_snoc (p : UInt8 → Bool) (l : Str) (b : UInt8) : trimB p (l ++ [b]) = if p b = true then trimB p l else l ++ [b] := by
  unfold trimB
  rw [List.reverse_append, List.reverse_singleton, List.singleton_append, List.dropWhile_cons]
  by_cases h : p b = true <;> simp [h]
theorem trimR_x {a : Nat} {c : Str} (ha : h a = some (rowO 63 (asC c))) (l : Str) (hl : l.length ≤ 2 ^ 62) (hk : K (.string (bs (trimB (isOf c) l))) h) : X Tryd.prog 37 #[.string (bs l), .pointer (some ⟨a, 0, none⟩)] h K := by
  refine fnv (args := _) mixed [] [] [] Tryd.func37 rfl (by kernel_rfl) ?_
  conv => whnf
  refine loop_at [0] [] (fun r vs _ h' => h' = h ∧ ∃ m : Str, m.length ≤ 2 ^ 62 ∧ r = m.length ∧ trimB (isOf c) m = trimB (isOf c) l ∧ vs = [.v (.string (bs m))]) l.length ⟨rfl, l, hl, rfl, rfl, rfl⟩ ?_
  rintro r vs cs mm bx _ ⟨rfl, m, hm, rfl, he, rfl⟩
  conv => whnf
  refine bsel_intro (fun q1 => ?_) (fun q1 => ?_) <;> try simp only [decide_eq_true_eq, decide_eq_false_iff_not, beq_iff_eq, beq_eq_false_iff_ne, ne_eq, Bool.not_eq_true', Bool.not_eq_false', bne_iff_ne, bne_eq_false_iff_eq, Bool.not_eq_true, Bool.not_eq_false, Bool.and_eq_true, Bool.or_eq_true, bs_size] at q1
  · obtain ⟨m, b, rfl⟩ : ∃ m' b, m = m' ++ [b] := ⟨m.dropLast, m.getLast (fun e => by subst e; simp at q1), (List.dropLast_concat_getLast _).symm⟩
    have hsz : (bs (m ++ [b])).size = m.length + 1 := by rw [bs_size]; simp
    rw [List.length_append, List.length_singleton] at hm
    conv => whnf
    refine ov_i64 (by rw [hsz]; omega) ?_
    conv => whnf
    refine ch_intro b (by rw [hsz]; omega) (by rw [hsz, show (((m.length + 1 : Nat) : Int) - 1).toNat = m.length by omega]; simp) ?_
    conv => whnf
    refine contains_x b ha ?_
    conv => whnf
    rw [trimB_snoc] at he
    refine bsel_intro (fun q2 => ?_) (fun q2 => ?_) <;> try simp only [decide_eq_true_eq, decide_eq_false_iff_not, beq_iff_eq, beq_eq_false_iff_ne, ne_eq, Bool.not_eq_true', Bool.not_eq_false', bne_iff_ne, bne_eq_false_iff_eq, Bool.not_eq_true, Bool.not_eq_false, Bool.and_eq_true, Bool.or_eq_true, bs_size] at q2
    · conv => whnf
      rw [if_neg (by simp [q2])] at he
      exact kq hk (sI he)
    · conv => whnf
      refine ov_i64 (by rw [hsz]; omega) ?_
      conv => whnf
      refine need_intro (by rw [hsz]; omega) ?_
      conv => whnf
      refine sub_by (m := m) (by rw [hsz, show (((m.length + 1 : Nat) : Int) - 1).toNat = m.length by omega, List.drop_zero, List.take_left']; rfl) ?_
      conv => whnf
      rw [if_pos q2] at he
      exact ⟨m.length, by rw [List.length_append, List.length_singleton]; omega, rfl, m, by omega, rfl, he, rfl⟩
  · conv => whnf
    cases m with
    | nil => exact kq hk (sI he)
    | cons b m' => exfalso; rw [List.length_cons] at q1; omega
/-- **strings.Trim**, by ASCII letters. -/
theorem trim_x (l c : Str) (hl : l.length ≤ 2 ^ 61) (hc : ∀ b ∈ c, b.toNat < 128) (hc1 : 1 < c.length) (hc2 : c.length ≤ 2 ^ 40) (hk : K (.string (bs ((trimB (isOf c) l).dropWhile (isOf c)))) h) : X Tryd.prog 30 #[.string (bs l), .string (bs c)] h K := by
  refine X.forget ?_
  refine fnv (args := _) mixed [] [] [] Tryd.func30 rfl (by kernel_rfl) ?_
  conv => whnf
  refine seq_intro ?_
  conv => whnf
  refine bsel_intro (fun q1 => ?_) (fun q1 => ?_) <;> try simp only [decide_eq_true_eq, decide_eq_false_iff_not, beq_iff_eq, beq_eq_false_iff_ne, ne_eq, Bool.not_eq_true', Bool.not_eq_false', bne_iff_ne, bne_eq_false_iff_eq, Bool.not_eq_true, Bool.not_eq_false, Bool.and_eq_true, Bool.or_eq_true, bs_size] at q1
  · conv => whnf
    subst q1
    exact ⟨h, Hp.le_refl _, hk⟩
  conv => whnf
  refine seq_false (fun e => by subst e; simp at hc1) ?_
  conv => whnf
  refine bsel_false ?_ ?_
  · rw [bs_size]; simp; omega
  conv => whnf
  refine makeSet_x c hc hc2 _ _ ?_
  conv => whnf
  refine new_intro (o := rowO 63 (List.replicate 256 (.bool false))) (fun a H0 n_a le_a at_a ot_a => ?_)
  conv => whnf
  refine wr_intro (by exact storeA0 (z := .agg (asC c).toArray) (by kernel_rfl) at_a rfl (asC_length c) (asC_one c)) (fun H at_H ot_H => ?_)
  try (conv => whnf)
  have hle := Hp.le_st n_a le_a ot_H
  refine trimR_x at_H l (by omega) ?_
  conv => whnf
  refine trimL_x at_H _ (by have := (List.dropWhile_sublist (isOf c) (l := l.reverse)).length_le; rw [List.length_reverse] at this; show (trimB _ _).length ≤ _; unfold trimB; rw [List.length_reverse]; omega) ?_
  conv => whnf
  exact ⟨h, hle, hk⟩
theorem valL_take (l : Str) {j : Nat} (hj : j < l.length) : valL (l.take (j + 1)) = valL (l.take j) * 10 + ((l[j].toNat : Int) - 48) := by
  rw [List.take_succ_eq_append_getElem hj, valL_snoc]
/-- **Digits are read.** -/
theorem atoi0_x (l : Str) (hd : ∀ b ∈ l, dig b = true) (h0 : 0 < l.length) (hl : l.length < 19) (hk : K (.tuple #[.int .i64 (valL l), .nilIface]) h) : X Tryd.prog 40 #[.string (bs l)] h K := by
  have hdig : ∀ j (hj : j < l.length), 48 ≤ (l[j].toNat : Int) ∧ (l[j].toNat : Int) ≤ 57 := fun j hj => by
    have := hd _ (List.getElem_mem hj)
    unfold dig at this
    simp only [decide_eq_true_eq] at this
    omega
  have hval : ∀ j, j ≤ 18 → 0 ≤ valL (l.take j) ∧ valL (l.take j) < 10 ^ 18 := fun j hj => by
    have h1 := valL_le (l.take j) fun b hb => hd b (List.mem_of_mem_take hb)
    have h2 : (10 : Int) ^ (l.take j).length ≤ 10 ^ 18 := by
      have : (10 : Nat) ^ (l.take j).length ≤ 10 ^ 18 := Nat.pow_le_pow_right (by decide) (by rw [List.length_take]; omega)
      exact_mod_cast this
    omega
  have hg0 : l[0]? = some l[0] := List.getElem?_eq_getElem h0
  refine X.forget ?_
  refine fnv (args := _) mixed [] [] [] Tryd.func40 rfl (by kernel_rfl) ?_
  conv => whnf
  refine bsel_true ?_ ?_
  · rw [bs_size]; simp; omega
  conv => whnf
  refine bsel_true ?_ ?_
  · rw [bs_size]; simp; omega
  conv => whnf
  refine ch_intro l[0] (by omega) hg0 ?_
  conv => whnf
  refine bsel_false ?_ ?_
  · have := hdig 0 h0; simp; omega
  conv => whnf
  refine ch_intro l[0] (by omega) hg0 ?_
  conv => whnf
  refine bsel_false ?_ ?_
  · have := hdig 0 h0; simp; omega
  conv => whnf
  refine toBytes (l := l) rfl rfl rfl rfl rfl (fun b cap h1 hn hle ho hc => ?_)
  conv => whnf
  refine loop_at [49, 6] [] (fun r vs _ h' => h' = h1 ∧ ∃ j : Nat, j ≤ l.length ∧ r = l.length - j ∧ vs = [.v (.int .i64 j), .v (.int .i64 (valL (l.take j)))]) l.length ⟨rfl, 0, by omega, by omega, rfl⟩ ?_
  rintro r vs cs mm bx _ ⟨rfl, j, hj, rfl, rfl⟩
  conv => whnf
  refine bsel_intro (fun q1 => ?_) (fun q1 => ?_) <;> try simp only [decide_eq_true_eq, decide_eq_false_iff_not, beq_iff_eq, beq_eq_false_iff_ne, ne_eq, Bool.not_eq_true', Bool.not_eq_false', bne_iff_ne, bne_eq_false_iff_eq, Bool.not_eq_true, Bool.not_eq_false, Bool.and_eq_true, Bool.or_eq_true, bs_size] at q1
  · have hjl : j < l.length := by omega
    have hv := hval j (by omega)
    have hv2 := hval (j + 1) (by omega)
    rw [valL_take l hjl] at hv2
    have hdj := hdig j hjl
    have hcj := hc j _ (List.getElem?_eq_getElem hjl)
    conv => whnf
    refine need_intro (by omega) ?_
    conv => whnf
    refine ⟨_, (by rw [loadH_cell aggU8, addr_add, Nat.zero_add, Nat.mul_one]; exact hcj : loadH Tryd.prog 5 _ ((⟨b, 0, none⟩ : Addr).add (j * 1)) = some (byV l[j])), ?_⟩
    conv => whnf
    refine ov_u8 (by omega) ?_
    conv => whnf
    refine bsel_false ?_ ?_
    · simp; omega
    conv => whnf
    refine ov_i64 (by omega) ?_
    conv => whnf
    refine ov_i64 (by omega) ?_
    conv => whnf
    refine ov_i64 (by omega) ?_
    conv => whnf
    refine ov_i64 (by omega) ?_
    conv => whnf
    refine ⟨l.length - (j + 1), by omega, rfl, j + 1, by omega, rfl, ?_⟩
    rw [valL_take l hjl]
    rfl
  · obtain rfl : j = l.length := by omega
    rw [List.take_length]
    conv => whnf
    refine ch_intro l[0] (by omega) hg0 ?_
    conv => whnf
    refine bsel_false ?_ ?_
    · have := hdig 0 h0; simp; omega
    conv => whnf
    exact ⟨h, hle, hk⟩
theorem atoi_x (l : Str) (hd : ∀ b ∈ l, dig b = true) (h0 : 0 < l.length) (hl : l.length < 19) (hk : K (.tuple #[.int .i64 (valL l), .nilIface]) h) : X Tryd.prog 31 #[.string (bs l)] h K := by
  refine fnv (args := _) mixed [] [] [] Tryd.func31 rfl (by kernel_rfl) ?_
  conv => whnf
  refine atoi0_x l hd h0 hl ?_
  conv => whnf
  exact hk
/-- The digits of a number below 100. -/
def dgt (n : Nat) : UInt8 := UInt8.ofNat (48 + n)
def digN (n : Nat) : Str := if n < 10 then [dgt n] else [dgt (n / 10), dgt (n % 10)]
theorem small1 : ∀ n : Nat, n < 10 → (([48, 49, 50, 51, 52, 53, 54, 55, 56, 57, 97, 98, 99, 100, 101, 102, 103, 104, 105, 106, 107, 108, 109, 110, 111, 112, 113, 114, 115, 116, 117, 118, 119, 120, 121, 122] : Str).take ((n : Int) + 1).toNat).drop (n : Int).toNat = digN n := by decide +kernel
def smalls : Str := (List.range 100).flatMap fun n => [dgt (n / 10), dgt (n % 10)]
theorem small2 : ∀ n : Nat, n < 100 → 10 ≤ n → (smalls.take ((n : Int) * 2 + 2).toNat).drop ((n : Int) * 2).toNat = digN n := by decide +kernel
theorem small_x (n : Nat) (hn : n < 100) (hk : K (.string (bs (digN n))) h) : X Tryd.prog 52 #[.int .i64 n] h K := by
  refine fnv (args := _) mixed [] [] [] Tryd.func52 rfl (by kernel_rfl) ?_
  conv => whnf
  refine bsel_intro (fun q1 => ?_) (fun q1 => ?_) <;> try simp only [decide_eq_true_eq, decide_eq_false_iff_not, beq_iff_eq, beq_eq_false_iff_ne, ne_eq, Bool.not_eq_true', Bool.not_eq_false', bne_iff_ne, bne_eq_false_iff_eq, Bool.not_eq_true, Bool.not_eq_false, Bool.and_eq_true, Bool.or_eq_true, bs_size] at q1
  · have hn : n < 10 := by omega
    conv => whnf
    first | refine ov_i64 (by omega) ?_ | refine ov_u64 (by omega) ?_ | refine ov_i64 (by decide) ?_ | refine ov_u64 (by decide) ?_ | refine ov_u8 (by omega) ?_ | refine ov_i32 (by omega) ?_ | refine ov_u32 (by omega) ?_
    conv => whnf
    refine need_intro ⟨by omega, by show _ ≤ ((36 : Nat) : Int); omega⟩ ?_
    conv => whnf
    refine need_intro (by omega) ?_
    conv => whnf
    refine sub_by (small1 n hn) ?_
    conv => whnf
    exact hk
  · conv => whnf
    first | refine ov_i64 (by omega) ?_ | refine ov_u64 (by omega) ?_ | refine ov_i64 (by decide) ?_ | refine ov_u64 (by decide) ?_ | refine ov_u8 (by omega) ?_ | refine ov_i32 (by omega) ?_ | refine ov_u32 (by omega) ?_
    conv => whnf
    first | refine ov_i64 (by omega) ?_ | refine ov_u64 (by omega) ?_ | refine ov_i64 (by decide) ?_ | refine ov_u64 (by decide) ?_ | refine ov_u8 (by omega) ?_ | refine ov_i32 (by omega) ?_ | refine ov_u32 (by omega) ?_
    conv => whnf
    first | refine ov_i64 (by omega) ?_ | refine ov_u64 (by omega) ?_ | refine ov_i64 (by decide) ?_ | refine ov_u64 (by decide) ?_ | refine ov_u8 (by omega) ?_ | refine ov_i32 (by omega) ?_ | refine ov_u32 (by omega) ?_
    conv => whnf
    refine need_intro ⟨by omega, by show _ ≤ ((200 : Nat) : Int); omega⟩ ?_
    conv => whnf
    refine need_intro (by omega) ?_
    conv => whnf
    refine sub_by (m := digN n) ?_ ?_
    · exact small2 n hn (by omega)
    conv => whnf
    exact hk
theorem format_x (n : Nat) (hn : n < 100) (hk : K (.string (bs (digN n))) h) : X Tryd.prog 42 #[.int .i64 n, .int .i64 10] h K := by
  refine fnv (args := _) mixed [] [] [] Tryd.func42 rfl (by kernel_rfl) ?_
  conv => whnf
  refine bsel_true ?_ ?_
  · simp; omega
  conv => whnf
  refine small_x n hn ?_
  conv => whnf
  exact hk
theorem itoa0_x (n : Nat) (hn : n < 100) (hk : K (.string (bs (digN n))) h) : X Tryd.prog 32 #[.int .i64 n] h K := by
  refine fnv (args := _) mixed [] [] [] Tryd.func32 rfl (by kernel_rfl) ?_
  conv => whnf
  refine format_x n hn ?_
  conv => whnf
  exact hk
theorem itoa_x (n : Nat) (hn : n < 100) (hk : K (.string (bs (digN n))) h) : X Tryd.prog 28 #[.int .i64 n] h K := by
  refine fnv (args := _) mixed [] [] [] Tryd.func28 rfl (by kernel_rfl) ?_
  conv => whnf
  refine itoa0_x n hn ?_
  conv => whnf
  exact hk
end
end Go.Proofs.YtcapmnambpgemaaDoor
