/-
  The registers of a hart: names, the program's and the document's.
-/
import Derived.Test.YtcapmnambpgemaaDoorRegA
namespace Go.Proofs.YtcapmnambpgemaaDoor
set_option linter.unusedSimpArgs false
set_option linter.unusedVariables false
open Go Go.Mid Go.RowKit
attribute [local irreducible] mid
section
set_option maxHeartbeats 8000000
set_option maxRecDepth 10000
variable {h : Hp} {K : Value → Hp → Prop}
def digs : Str := [48, 49, 50, 51, 52, 53, 54, 55, 56, 57]
theorem isOf_digs : ∀ b : UInt8, isOf digs b = dig b := by
  intro b
  obtain ⟨n, hn, rfl⟩ : ∃ n : Nat, n < 256 ∧ b = UInt8.ofNat n := ⟨b.toNat, b.toNat_lt, by simp⟩
  have key : ∀ n : Nat, n < 256 → isOf digs (UInt8.ofNat n) = dig (UInt8.ofNat n) := by decide +kernel
  exact key n hn
theorem in_x (i : Int) (hk : K (.bool (decide (0 ≤ i ∧ i < 32))) h) : X Tryd.prog 27 #[.int .i64 i] h K := by
  refine fnv (args := _) mixed [] [] [] Tryd.func27 rfl (by kernel_rfl) ?_
  conv => whnf
  refine bsel_intro (fun q1 => ?_) (fun q1 => ?_) <;> try simp only [decide_eq_true_eq, decide_eq_false_iff_not, beq_iff_eq, beq_eq_false_iff_ne, ne_eq, Bool.not_eq_true', Bool.not_eq_false', bne_iff_ne, bne_eq_false_iff_eq, Bool.not_eq_true, Bool.not_eq_false, Bool.and_eq_true, Bool.or_eq_true, bs_size] at q1
  · conv => whnf
    exact kq hk (bI (by rw [Bool.eq_iff_iff]; simp; omega))
  · conv => whnf
    exact kq hk (bI (by rw [Bool.eq_iff_iff]; simp; omega))
theorem nameN_eq (i : Nat) : nameN i = if i < 5 then [sZero, sRa, sSp, sGp, sTp].getD i [] else if i < 8 then 116 :: digN (i - 5) else if i < 10 then 115 :: digN (i - 8) else if i < 18 then 97 :: digN (i - 10) else if i < 28 then 115 :: digN (i - 16) else 116 :: digN (i - 25) := rfl
theorem digN_len (n : Nat) : (digN n).length ≤ 2 := by unfold digN; split <;> simp
/-- **A register's name.** -/
theorem name_x (i : Nat) (hi : i < 32) (hk : K (.string (bs (nameN i))) h) : X Tryd.prog 11 #[.int .i64 i] h K := by
  rw [nameN_eq] at hk
  refine fnv (args := _) mixed [] [] [] Tryd.func11 rfl (by kernel_rfl) ?_
  conv => whnf
  refine in_x _ ?_
  conv => whnf
  rw [show decide (0 ≤ (i : Int) ∧ (i : Int) < 32) = true by simp; omega]
  conv => whnf
  refine bsel_intro (fun q1 => ?_) (fun q1 => ?_) <;> try simp only [decide_eq_true_eq, decide_eq_false_iff_not, beq_iff_eq, beq_eq_false_iff_ne, ne_eq, Bool.not_eq_true', Bool.not_eq_false', bne_iff_ne, bne_eq_false_iff_eq, Bool.not_eq_true, Bool.not_eq_false, Bool.and_eq_true, Bool.or_eq_true, bs_size] at q1
  · rw [if_pos (by omega)] at hk
    have hc : i = 0 ∨ i = 1 ∨ i = 2 ∨ i = 3 ∨ i = 4 := by omega
    rcases hc with rfl | rfl | rfl | rfl | rfl
    all_goals
      conv => whnf
      exact hk
  rw [if_neg (by omega)] at hk
  conv => whnf
  refine bsel_intro (fun q2 => ?_) (fun q2 => ?_) <;> try simp only [decide_eq_true_eq, decide_eq_false_iff_not, beq_iff_eq, beq_eq_false_iff_ne, ne_eq, Bool.not_eq_true', Bool.not_eq_false', bne_iff_ne, bne_eq_false_iff_eq, Bool.not_eq_true, Bool.not_eq_false, Bool.and_eq_true, Bool.or_eq_true, bs_size] at q2
  · rw [if_pos (by omega)] at hk
    conv => whnf
    first | refine ov_i64 (by omega) ?_ | refine ov_u64 (by omega) ?_ | refine ov_i64 (by decide) ?_ | refine ov_u64 (by decide) ?_ | refine ov_u8 (by omega) ?_ | refine ov_i32 (by omega) ?_ | refine ov_u32 (by omega) ?_
    conv => whnf
    rw [show (i : Int) - 5 = ((i - 5 : Nat) : Int) by omega]
    refine itoa_x (i - 5) (by omega) ?_
    conv => whnf
    refine cat_intro (a := [116]) (by have := digN_len (i - 5); simp; omega) ?_
    conv => whnf
    exact hk
  rw [if_neg (by omega)] at hk
  conv => whnf
  refine bsel_intro (fun q3 => ?_) (fun q3 => ?_) <;> try simp only [decide_eq_true_eq, decide_eq_false_iff_not, beq_iff_eq, beq_eq_false_iff_ne, ne_eq, Bool.not_eq_true', Bool.not_eq_false', bne_iff_ne, bne_eq_false_iff_eq, Bool.not_eq_true, Bool.not_eq_false, Bool.and_eq_true, Bool.or_eq_true, bs_size] at q3
  · rw [if_pos (by omega)] at hk
    conv => whnf
    first | refine ov_i64 (by omega) ?_ | refine ov_u64 (by omega) ?_ | refine ov_i64 (by decide) ?_ | refine ov_u64 (by decide) ?_ | refine ov_u8 (by omega) ?_ | refine ov_i32 (by omega) ?_ | refine ov_u32 (by omega) ?_
    conv => whnf
    rw [show (i : Int) - 8 = ((i - 8 : Nat) : Int) by omega]
    refine itoa_x (i - 8) (by omega) ?_
    conv => whnf
    refine cat_intro (a := [115]) (by have := digN_len (i - 8); simp; omega) ?_
    conv => whnf
    exact hk
  rw [if_neg (by omega)] at hk
  conv => whnf
  refine bsel_intro (fun q4 => ?_) (fun q4 => ?_) <;> try simp only [decide_eq_true_eq, decide_eq_false_iff_not, beq_iff_eq, beq_eq_false_iff_ne, ne_eq, Bool.not_eq_true', Bool.not_eq_false', bne_iff_ne, bne_eq_false_iff_eq, Bool.not_eq_true, Bool.not_eq_false, Bool.and_eq_true, Bool.or_eq_true, bs_size] at q4
  · rw [if_pos (by omega)] at hk
    conv => whnf
    first | refine ov_i64 (by omega) ?_ | refine ov_u64 (by omega) ?_ | refine ov_i64 (by decide) ?_ | refine ov_u64 (by decide) ?_ | refine ov_u8 (by omega) ?_ | refine ov_i32 (by omega) ?_ | refine ov_u32 (by omega) ?_
    conv => whnf
    rw [show (i : Int) - 10 = ((i - 10 : Nat) : Int) by omega]
    refine itoa_x (i - 10) (by omega) ?_
    conv => whnf
    refine cat_intro (a := [97]) (by have := digN_len (i - 10); simp; omega) ?_
    conv => whnf
    exact hk
  rw [if_neg (by omega)] at hk
  conv => whnf
  refine bsel_intro (fun q5 => ?_) (fun q5 => ?_) <;> try simp only [decide_eq_true_eq, decide_eq_false_iff_not, beq_iff_eq, beq_eq_false_iff_ne, ne_eq, Bool.not_eq_true', Bool.not_eq_false', bne_iff_ne, bne_eq_false_iff_eq, Bool.not_eq_true, Bool.not_eq_false, Bool.and_eq_true, Bool.or_eq_true, bs_size] at q5
  · rw [if_pos (by omega)] at hk
    conv => whnf
    first | refine ov_i64 (by omega) ?_ | refine ov_u64 (by omega) ?_ | refine ov_i64 (by decide) ?_ | refine ov_u64 (by decide) ?_ | refine ov_u8 (by omega) ?_ | refine ov_i32 (by omega) ?_ | refine ov_u32 (by omega) ?_
    conv => whnf
    rw [show (i : Int) - 16 = ((i - 16 : Nat) : Int) by omega]
    refine itoa_x (i - 16) (by omega) ?_
    conv => whnf
    refine cat_intro (a := [115]) (by have := digN_len (i - 16); simp; omega) ?_
    conv => whnf
    exact hk
  rw [if_neg (by omega)] at hk
  conv => whnf
  first | refine ov_i64 (by omega) ?_ | refine ov_u64 (by omega) ?_ | refine ov_i64 (by decide) ?_ | refine ov_u64 (by decide) ?_ | refine ov_u8 (by omega) ?_ | refine ov_i32 (by omega) ?_ | refine ov_u32 (by omega) ?_
  conv => whnf
  rw [show (i : Int) - 25 = ((i - 25 : Nat) : Int) by omega]
  refine itoa_x (i - 25) (by omega) ?_
  conv => whnf
  refine cat_intro (a := [116]) (by have := digN_len (i - 25); simp; omega) ?_
  conv => whnf
  exact hk
theorem name0_x (i : Int) (hi : ¬ (0 ≤ i ∧ i < 32)) (hk : K (.string (bs [])) h) : X Tryd.prog 11 #[.int .i64 i] h K := by
  refine fnv (args := _) mixed [] [] [] Tryd.func11 rfl (by kernel_rfl) ?_
  conv => whnf
  refine in_x _ ?_
  conv => whnf
  rw [show decide (0 ≤ i ∧ i < 32) = false by simp; omega]
  conv => whnf
  exact hk
def optV (o : Option Int) : Value := .tuple #[.int .i64 (o.getD 0), .bool o.isSome]
/-- **A number in digits.** -/
theorem number_x (l : Str) (most : Int) (hl : l.length ≤ 2 ^ 60) (hk : K (optV (numI l most)) h) : X Tryd.prog 22 #[.string (bs l), .int .i64 most] h K := by
  unfold numI at hk
  refine fnv (args := _) mixed [] [] [] Tryd.func22 rfl (by kernel_rfl) ?_
  conv => whnf
  refine seq_intro ?_
  conv => whnf
  refine bsel_intro (fun q1 => ?_) (fun q1 => ?_) <;> try simp only [decide_eq_true_eq, decide_eq_false_iff_not, beq_iff_eq, beq_eq_false_iff_ne, ne_eq, Bool.not_eq_true', Bool.not_eq_false', bne_iff_ne, bne_eq_false_iff_eq, Bool.not_eq_true, Bool.not_eq_false, Bool.and_eq_true, Bool.or_eq_true, bs_size] at q1
  · subst q1
    rw [if_pos (.inl rfl)] at hk
    conv => whnf
    exact hk
  conv => whnf
  refine bsel_intro (fun q2 => ?_) (fun q2 => ?_) <;> try simp only [decide_eq_true_eq, decide_eq_false_iff_not, beq_iff_eq, beq_eq_false_iff_ne, ne_eq, Bool.not_eq_true', Bool.not_eq_false', bne_iff_ne, bne_eq_false_iff_eq, Bool.not_eq_true, Bool.not_eq_false, Bool.and_eq_true, Bool.or_eq_true, bs_size] at q2
  · rw [if_pos (.inr (.inl (by omega)))] at hk
    conv => whnf
    exact hk
  conv => whnf
  obtain ⟨b, r, rfl⟩ : ∃ b r, l = b :: r := by
    cases l with
    | nil => exact absurd rfl q1
    | cons b r => exact ⟨b, r, rfl⟩
  refine ch_intro (b) (by omega) (by rfl) ?_
  conv => whnf
  have hb48 : (b :: r).head? = some 48 ↔ (b.toNat : Int) = 48 := by
    rw [List.head?_cons, Option.some.injEq]
    constructor
    · intro e; subst e; rfl
    · intro e; apply UInt8.toNat.inj; show b.toNat = 48; omega
  have hnil : (trimB (isOf digs) (b :: r)).dropWhile (isOf digs) = [] ↔ ∀ x ∈ b :: r, dig x = true := by
    have e : isOf digs = dig := funext isOf_digs
    rw [e]; exact trim_nil (b :: r)
  have fin2 : ¬ ((b :: r).head? = some 48 ∧ b :: r ≠ [48]) → K (optV (if (∀ x ∈ b :: r, dig x = true) then (if valL (b :: r) > most then none else some (valL (b :: r))) else none)) h := fun h48 => by
    by_cases hd : ∀ x ∈ b :: r, dig x = true
    · rw [if_pos hd]
      rw [if_neg (fun hx => by
        rcases hx with hx | hx | hx | hx
        · cases hx
        · omega
        · exact h48 hx
        · exact hx hd)] at hk
      exact hk
    · rw [if_neg hd]
      rw [if_pos (.inr (.inr (.inr hd)))] at hk
      exact hk
  have hno : ¬ ((b :: r).head? = some 48 ∧ b :: r ≠ [48]) ∨ ((b :: r).head? = some 48 ∧ b :: r ≠ [48]) := (Classical.em _).symm
  refine bsel_intro (fun q3 => ?_) (fun q3 => ?_) <;> try simp only [decide_eq_true_eq, decide_eq_false_iff_not, beq_iff_eq, beq_eq_false_iff_ne, ne_eq, Bool.not_eq_true', Bool.not_eq_false', bne_iff_ne, bne_eq_false_iff_eq, Bool.not_eq_true, Bool.not_eq_false, Bool.and_eq_true, Bool.or_eq_true, bs_size] at q3
  · conv => whnf
    refine seq_intro ?_
    conv => whnf
    refine bsel_intro (fun q7 => ?_) (fun q7 => ?_) <;> try simp only [decide_eq_true_eq, decide_eq_false_iff_not, beq_iff_eq, beq_eq_false_iff_ne, ne_eq, Bool.not_eq_true', Bool.not_eq_false', bne_iff_ne, bne_eq_false_iff_eq, Bool.not_eq_true, Bool.not_eq_false, Bool.and_eq_true, Bool.or_eq_true, bs_size] at q7
    · rw [if_pos (.inr (.inr (.inl ⟨hb48.2 q3, q7⟩)))] at hk
      conv => whnf
      exact hk
    · have q5 : ¬ ((b :: r).head? = some 48 ∧ b :: r ≠ [48]) := fun hx => hx.2 q7
      clear hk
      conv => whnf
      refine trim_x (b :: r) digs (by omega) (by decide) (by decide) (by decide) ?_
      conv => whnf
      refine seq_intro ?_
      conv => whnf
      refine bsel_intro (fun q4 => ?_) (fun q4 => ?_) <;> try simp only [decide_eq_true_eq, decide_eq_false_iff_not, beq_iff_eq, beq_eq_false_iff_ne, ne_eq, Bool.not_eq_true', Bool.not_eq_false', bne_iff_ne, bne_eq_false_iff_eq, Bool.not_eq_true, Bool.not_eq_false, Bool.and_eq_true, Bool.or_eq_true, bs_size] at q4
      · rw [hnil] at q4
        have hk := fin2 q5
        rw [if_neg q4] at hk
        conv => whnf
        exact hk
      · rw [hnil] at q4
        have hk := fin2 q5
        rw [if_pos q4] at hk
        conv => whnf
        refine atoi_x (b :: r) q4 (by simp) (by rw [List.length_cons] at q2 ⊢; omega) ?_
        conv => whnf
        refine bsel_intro (fun q6 => ?_) (fun q6 => ?_) <;> try simp only [decide_eq_true_eq, decide_eq_false_iff_not, beq_iff_eq, beq_eq_false_iff_ne, ne_eq, Bool.not_eq_true', Bool.not_eq_false', bne_iff_ne, bne_eq_false_iff_eq, Bool.not_eq_true, Bool.not_eq_false, Bool.and_eq_true, Bool.or_eq_true, bs_size] at q6
        · rw [if_pos q6] at hk
          conv => whnf
          exact hk
        · rw [if_neg q6] at hk
          conv => whnf
          exact hk
  · have q5 : ¬ ((b :: r).head? = some 48 ∧ b :: r ≠ [48]) := fun hx => q3 (hb48.1 hx.1)
    clear hk
    conv => whnf
    refine trim_x (b :: r) digs (by omega) (by decide) (by decide) (by decide) ?_
    conv => whnf
    refine seq_intro ?_
    conv => whnf
    refine bsel_intro (fun q4 => ?_) (fun q4 => ?_) <;> try simp only [decide_eq_true_eq, decide_eq_false_iff_not, beq_iff_eq, beq_eq_false_iff_ne, ne_eq, Bool.not_eq_true', Bool.not_eq_false', bne_iff_ne, bne_eq_false_iff_eq, Bool.not_eq_true, Bool.not_eq_false, Bool.and_eq_true, Bool.or_eq_true, bs_size] at q4
    · rw [hnil] at q4
      have hk := fin2 q5
      rw [if_neg q4] at hk
      conv => whnf
      exact hk
    · rw [hnil] at q4
      have hk := fin2 q5
      rw [if_pos q4] at hk
      conv => whnf
      refine atoi_x (b :: r) q4 (by simp) (by rw [List.length_cons] at q2 ⊢; omega) ?_
      conv => whnf
      refine bsel_intro (fun q6 => ?_) (fun q6 => ?_) <;> try simp only [decide_eq_true_eq, decide_eq_false_iff_not, beq_iff_eq, beq_eq_false_iff_ne, ne_eq, Bool.not_eq_true', Bool.not_eq_false', bne_iff_ne, bne_eq_false_iff_eq, Bool.not_eq_true, Bool.not_eq_false, Bool.and_eq_true, Bool.or_eq_true, bs_size] at q6
      · rw [if_pos q6] at hk
        conv => whnf
        exact hk
      · rw [if_neg q6] at hk
        conv => whnf
        exact hk
theorem id_x (k : Int) (hk : K (.int .i64 (ofX k)) h) : X Tryd.prog 23 #[.int .i64 k] h K := by
  refine fnv (args := _) mixed [] [] [] Tryd.func23 rfl (by kernel_rfl) ?_
  conv => whnf
  exact hk
theorem ten_x (k : Int) (h0 : 0 ≤ k ∧ k ≤ 100) (hk : K (.int .i64 (ofA k)) h) : X Tryd.prog 24 #[.int .i64 k] h K := by
  refine fnv (args := _) mixed [] [] [] Tryd.func24 rfl (by kernel_rfl) ?_
  conv => whnf
  first | refine ov_i64 (by omega) ?_ | refine ov_u64 (by omega) ?_ | refine ov_i64 (by decide) ?_ | refine ov_u64 (by decide) ?_ | refine ov_u8 (by omega) ?_ | refine ov_i32 (by omega) ?_ | refine ov_u32 (by omega) ?_
  conv => whnf
  exact hk
theorem saved_x (k : Int) (h0 : 0 ≤ k ∧ k ≤ 100) (hk : K (.int .i64 (ofS k)) h) : X Tryd.prog 25 #[.int .i64 k] h K := by
  unfold ofS at hk
  refine fnv (args := _) mixed [] [] [] Tryd.func25 rfl (by kernel_rfl) ?_
  conv => whnf
  refine bsel_intro (fun q1 => ?_) (fun q1 => ?_) <;> try simp only [decide_eq_true_eq, decide_eq_false_iff_not, beq_iff_eq, beq_eq_false_iff_ne, ne_eq, Bool.not_eq_true', Bool.not_eq_false', bne_iff_ne, bne_eq_false_iff_eq, Bool.not_eq_true, Bool.not_eq_false, Bool.and_eq_true, Bool.or_eq_true, bs_size] at q1
  · rw [if_pos q1] at hk
    conv => whnf
    first | refine ov_i64 (by omega) ?_ | refine ov_u64 (by omega) ?_ | refine ov_i64 (by decide) ?_ | refine ov_u64 (by decide) ?_ | refine ov_u8 (by omega) ?_ | refine ov_i32 (by omega) ?_ | refine ov_u32 (by omega) ?_
    conv => whnf
    exact hk
  · rw [if_neg q1] at hk
    conv => whnf
    first | refine ov_i64 (by omega) ?_ | refine ov_u64 (by omega) ?_ | refine ov_i64 (by decide) ?_ | refine ov_u64 (by decide) ?_ | refine ov_u8 (by omega) ?_ | refine ov_i32 (by omega) ?_ | refine ov_u32 (by omega) ?_
    conv => whnf
    exact hk
theorem temp_x (k : Int) (h0 : 0 ≤ k ∧ k ≤ 100) (hk : K (.int .i64 (ofT k)) h) : X Tryd.prog 26 #[.int .i64 k] h K := by
  unfold ofT at hk
  refine fnv (args := _) mixed [] [] [] Tryd.func26 rfl (by kernel_rfl) ?_
  conv => whnf
  refine bsel_intro (fun q1 => ?_) (fun q1 => ?_) <;> try simp only [decide_eq_true_eq, decide_eq_false_iff_not, beq_iff_eq, beq_eq_false_iff_ne, ne_eq, Bool.not_eq_true', Bool.not_eq_false', bne_iff_ne, bne_eq_false_iff_eq, Bool.not_eq_true, Bool.not_eq_false, Bool.and_eq_true, Bool.or_eq_true, bs_size] at q1
  · rw [if_pos q1] at hk
    conv => whnf
    first | refine ov_i64 (by omega) ?_ | refine ov_u64 (by omega) ?_ | refine ov_i64 (by decide) ?_ | refine ov_u64 (by decide) ?_ | refine ov_u8 (by omega) ?_ | refine ov_i32 (by omega) ?_ | refine ov_u32 (by omega) ?_
    conv => whnf
    exact hk
  · rw [if_neg q1] at hk
    conv => whnf
    first | refine ov_i64 (by omega) ?_ | refine ov_u64 (by omega) ?_ | refine ov_i64 (by decide) ?_ | refine ov_u64 (by decide) ?_ | refine ov_u8 (by omega) ?_ | refine ov_i32 (by omega) ?_ | refine ov_u32 (by omega) ?_
    conv => whnf
    exact hk
/-- The place of a letter and a number. -/
theorem place_x {g : FuncId} {f : Int → Int} (hg : callable Tryd.prog g = true) (hf : ∀ (k : Int) (K : Value → Hp → Prop), 0 ≤ k ∧ k ≤ 100 → K (.int .i64 (f k)) h → X Tryd.prog g #[.int .i64 k] h K) {a : Nat} {c : UInt8} {r : Str} (most : Int) (hl : r.length ≤ 2 ^ 60)
    (ha : h a = some (rowO 9 [.string (bs (c :: r))])) (hk : K (optV ((numI r most).map f)) h) : X Tryd.prog 21 #[.int .i64 most, .func (.func g) #[] #[], .pointer (some ⟨a, 0, none⟩)] h K := by
  refine fnv (args := _) mixed [] [] [] Tryd.func21 rfl (by kernel_rfl) ?_
  conv => whnf
  refine ⟨_, loadC0 aggStr ha rfl, ?_⟩
  conv => whnf
  refine need_intro (by rw [bs_size, List.length_cons]; omega) ?_
  conv => whnf
  refine sub_from (rfl) ?_
  conv => whnf
  refine number_x r most hl ?_
  cases hn : numI r most with
  | none =>
    rw [hn] at hk
    conv => whnf
    exact hk
  | some n =>
    rw [hn] at hk
    obtain ⟨k, hk1, rfl, _, _⟩ := numI_some hn
    conv => whnf
    refine aRunK_call (args := [.int .i64 k]) rfl hg ?_
    refine hf k _ (by omega) ?_
    conv => whnf
    exact hk
end
end Go.Proofs.YtcapmnambpgemaaDoor
