/-
  The register that is known by a name, the program's and the document's.
-/
import Derived.Test.YtcapmnambpgemaaDoorReg1
namespace Go.Proofs.YtcapmnambpgemaaDoor
set_option linter.unusedSimpArgs false
set_option linter.unusedVariables false
open Go Go.Mid Go.RowKit
attribute [local irreducible] mid
section
set_option maxHeartbeats 8000000
set_option maxRecDepth 10000
variable {h : Hp} {K : Value → Hp → Prop}
theorem findI_eq (l : Str) : findI l = if l = sZero then some 0 else if l = sRa then some 1 else if l = sSp then some 2 else if l = sGp then some 3 else if l = sTp then some 4 else if l = sFp then some 8 else
    match l with
    | [] => none
    | c :: r => if c = 120 then (numI r 31).map ofX else if c = 97 then (numI r 7).map ofA else if c = 115 then (numI r 11).map ofS else if c = 116 then (numI r 6).map ofT else none := rfl
theorem u8_eq {b c : UInt8} : (b.toNat : Int) = ((c.toNat : Nat) : Int) ↔ b = c := by
  constructor
  · intro e; apply UInt8.toNat.inj; omega
  · rintro rfl; rfl
/-- **The register that is known by a name.** -/
theorem find_x (l : Str) (hl : l.length ≤ 2 ^ 60) (hk : K (optV (findI l)) h) : X Tryd.prog 10 #[.string (bs l)] h K := by
  rw [findI_eq] at hk
  refine X.forget ?_
  refine fnv (args := _) mixed [] [] [] Tryd.func10 rfl (by kernel_rfl) ?_
  conv => whnf
  refine new_intro (o := rowO 9 [.string (bs l)]) (fun a H n_a le_a at_a ot_a => ?_)
  conv => whnf
  refine ⟨_, loadC0 aggStr at_a rfl, ?_⟩
  conv => whnf
  refine seq_intro (b := sZero) ?_
  conv => whnf
  refine bsel_intro (fun q1 => ?_) (fun q1 => ?_) <;> try simp only [decide_eq_true_eq, decide_eq_false_iff_not, beq_iff_eq, beq_eq_false_iff_ne, ne_eq, Bool.not_eq_true', Bool.not_eq_false', bne_iff_ne, bne_eq_false_iff_eq, Bool.not_eq_true, Bool.not_eq_false, Bool.and_eq_true, Bool.or_eq_true, bs_size] at q1
  · rw [if_pos q1] at hk
    conv => whnf
    exact ⟨h, le_a, hk⟩
  rw [if_neg q1] at hk
  conv => whnf
  refine seq_intro (b := sRa) ?_
  conv => whnf
  refine bsel_intro (fun q2 => ?_) (fun q2 => ?_) <;> try simp only [decide_eq_true_eq, decide_eq_false_iff_not, beq_iff_eq, beq_eq_false_iff_ne, ne_eq, Bool.not_eq_true', Bool.not_eq_false', bne_iff_ne, bne_eq_false_iff_eq, Bool.not_eq_true, Bool.not_eq_false, Bool.and_eq_true, Bool.or_eq_true, bs_size] at q2
  · rw [if_pos q2] at hk
    conv => whnf
    exact ⟨h, le_a, hk⟩
  rw [if_neg q2] at hk
  conv => whnf
  refine seq_intro (b := sSp) ?_
  conv => whnf
  refine bsel_intro (fun q3 => ?_) (fun q3 => ?_) <;> try simp only [decide_eq_true_eq, decide_eq_false_iff_not, beq_iff_eq, beq_eq_false_iff_ne, ne_eq, Bool.not_eq_true', Bool.not_eq_false', bne_iff_ne, bne_eq_false_iff_eq, Bool.not_eq_true, Bool.not_eq_false, Bool.and_eq_true, Bool.or_eq_true, bs_size] at q3
  · rw [if_pos q3] at hk
    conv => whnf
    exact ⟨h, le_a, hk⟩
  rw [if_neg q3] at hk
  conv => whnf
  refine seq_intro (b := sGp) ?_
  conv => whnf
  refine bsel_intro (fun q4 => ?_) (fun q4 => ?_) <;> try simp only [decide_eq_true_eq, decide_eq_false_iff_not, beq_iff_eq, beq_eq_false_iff_ne, ne_eq, Bool.not_eq_true', Bool.not_eq_false', bne_iff_ne, bne_eq_false_iff_eq, Bool.not_eq_true, Bool.not_eq_false, Bool.and_eq_true, Bool.or_eq_true, bs_size] at q4
  · rw [if_pos q4] at hk
    conv => whnf
    exact ⟨h, le_a, hk⟩
  rw [if_neg q4] at hk
  conv => whnf
  refine seq_intro (b := sTp) ?_
  conv => whnf
  refine bsel_intro (fun q5 => ?_) (fun q5 => ?_) <;> try simp only [decide_eq_true_eq, decide_eq_false_iff_not, beq_iff_eq, beq_eq_false_iff_ne, ne_eq, Bool.not_eq_true', Bool.not_eq_false', bne_iff_ne, bne_eq_false_iff_eq, Bool.not_eq_true, Bool.not_eq_false, Bool.and_eq_true, Bool.or_eq_true, bs_size] at q5
  · rw [if_pos q5] at hk
    conv => whnf
    exact ⟨h, le_a, hk⟩
  rw [if_neg q5] at hk
  conv => whnf
  refine seq_intro (b := sFp) ?_
  conv => whnf
  refine bsel_intro (fun q6 => ?_) (fun q6 => ?_) <;> try simp only [decide_eq_true_eq, decide_eq_false_iff_not, beq_iff_eq, beq_eq_false_iff_ne, ne_eq, Bool.not_eq_true', Bool.not_eq_false', bne_iff_ne, bne_eq_false_iff_eq, Bool.not_eq_true, Bool.not_eq_false, Bool.and_eq_true, Bool.or_eq_true, bs_size] at q6
  · rw [if_pos q6] at hk
    conv => whnf
    exact ⟨h, le_a, hk⟩
  rw [if_neg q6] at hk
  conv => whnf
  refine seq_intro (b := []) ?_
  conv => whnf
  refine bsel_intro (fun q7 => ?_) (fun q7 => ?_) <;> try simp only [decide_eq_true_eq, decide_eq_false_iff_not, beq_iff_eq, beq_eq_false_iff_ne, ne_eq, Bool.not_eq_true', Bool.not_eq_false', bne_iff_ne, bne_eq_false_iff_eq, Bool.not_eq_true, Bool.not_eq_false, Bool.and_eq_true, Bool.or_eq_true, bs_size] at q7
  · subst q7
    conv => whnf
    exact ⟨h, le_a, hk⟩
  obtain ⟨c, r, rfl⟩ : ∃ c r, l = c :: r := by
    cases l with
    | nil => exact absurd rfl q7
    | cons c r => exact ⟨c, r, rfl⟩
  rw [List.length_cons] at hl
  simp only at hk
  conv => whnf
  refine ⟨_, loadC0 aggStr at_a rfl, ?_⟩
  conv => whnf
  refine ch_intro (c) (by omega) (by rfl) ?_
  conv => whnf
  refine bsel_intro (fun q8 => ?_) (fun q8 => ?_) <;> try simp only [decide_eq_true_eq, decide_eq_false_iff_not, beq_iff_eq, beq_eq_false_iff_ne, ne_eq, Bool.not_eq_true', Bool.not_eq_false', bne_iff_ne, bne_eq_false_iff_eq, Bool.not_eq_true, Bool.not_eq_false, Bool.and_eq_true, Bool.or_eq_true, bs_size] at q8
  · rw [if_pos ((u8_eq (c := 120)).1 q8)] at hk
    conv => whnf
    refine place_x (f := ofX) (by kernel_rfl) (fun k K _ hK => id_x k hK) 31 (by omega) at_a ?_
    conv => whnf
    exact ⟨h, le_a, hk⟩
  rw [if_neg (fun e => q8 ((u8_eq (c := 120)).2 e))] at hk
  conv => whnf
  refine bsel_intro (fun q9 => ?_) (fun q9 => ?_) <;> try simp only [decide_eq_true_eq, decide_eq_false_iff_not, beq_iff_eq, beq_eq_false_iff_ne, ne_eq, Bool.not_eq_true', Bool.not_eq_false', bne_iff_ne, bne_eq_false_iff_eq, Bool.not_eq_true, Bool.not_eq_false, Bool.and_eq_true, Bool.or_eq_true, bs_size] at q9
  · rw [if_pos ((u8_eq (c := 97)).1 q9)] at hk
    conv => whnf
    refine place_x (f := ofA) (by kernel_rfl) (fun k K hk hK => ten_x k hk hK) 7 (by omega) at_a ?_
    conv => whnf
    exact ⟨h, le_a, hk⟩
  rw [if_neg (fun e => q9 ((u8_eq (c := 97)).2 e))] at hk
  conv => whnf
  refine bsel_intro (fun q10 => ?_) (fun q10 => ?_) <;> try simp only [decide_eq_true_eq, decide_eq_false_iff_not, beq_iff_eq, beq_eq_false_iff_ne, ne_eq, Bool.not_eq_true', Bool.not_eq_false', bne_iff_ne, bne_eq_false_iff_eq, Bool.not_eq_true, Bool.not_eq_false, Bool.and_eq_true, Bool.or_eq_true, bs_size] at q10
  · rw [if_pos ((u8_eq (c := 115)).1 q10)] at hk
    conv => whnf
    refine place_x (f := ofS) (by kernel_rfl) (fun k K hk hK => saved_x k hk hK) 11 (by omega) at_a ?_
    conv => whnf
    exact ⟨h, le_a, hk⟩
  rw [if_neg (fun e => q10 ((u8_eq (c := 115)).2 e))] at hk
  conv => whnf
  refine bsel_intro (fun q11 => ?_) (fun q11 => ?_) <;> try simp only [decide_eq_true_eq, decide_eq_false_iff_not, beq_iff_eq, beq_eq_false_iff_ne, ne_eq, Bool.not_eq_true', Bool.not_eq_false', bne_iff_ne, bne_eq_false_iff_eq, Bool.not_eq_true, Bool.not_eq_false, Bool.and_eq_true, Bool.or_eq_true, bs_size] at q11
  · rw [if_pos ((u8_eq (c := 116)).1 q11)] at hk
    conv => whnf
    refine place_x (f := ofT) (by kernel_rfl) (fun k K hk hK => temp_x k hk hK) 6 (by omega) at_a ?_
    conv => whnf
    exact ⟨h, le_a, hk⟩
  rw [if_neg (fun e => q11 ((u8_eq (c := 116)).2 e))] at hk
  conv => whnf
  exact ⟨h, le_a, hk⟩
/-- The chapter's examples. -/
theorem live_x (hk : K (.bool true) h) : X Tryd.prog 7 #[] h K := by
  have e1 : findI [120, 51, 49] = some 31 := by decide +kernel
  have e2 : findI [120, 48, 55] = none := by decide +kernel
  have e3 : nameN 10 = [97, 48] := by decide +kernel
  refine fnv (args := _) mixed [] [] [] Tryd.func7 rfl (by kernel_rfl) ?_
  conv => whnf
  refine find_x [120, 51, 49] (by decide) ?_
  rw [e1]
  conv => whnf
  refine find_x [120, 48, 55] (by decide) ?_
  rw [e2]
  conv => whnf
  refine name_x 10 (by decide) ?_
  rw [e3]
  conv => whnf
  refine seq_true (rfl) ?_
  conv => whnf
  exact hk
theorem rdigits_x (n : Nat) (hn : n < 100) (hk : K (.string (bs (digN n))) h) : X Tryd.prog 20 #[.int .i64 n] h K := by
  have e1 : ∀ n : Nat, n < 10 → (digs.take ((n : Int) + 1).toNat).drop (n : Int).toNat = [dgt n] := by decide +kernel
  unfold digN at hk
  refine fnv (args := _) mixed [] [] [] Tryd.func20 rfl (by kernel_rfl) ?_
  conv => whnf
  refine bsel_intro (fun q1 => ?_) (fun q1 => ?_) <;> try simp only [decide_eq_true_eq, decide_eq_false_iff_not, beq_iff_eq, beq_eq_false_iff_ne, ne_eq, Bool.not_eq_true', Bool.not_eq_false', bne_iff_ne, bne_eq_false_iff_eq, Bool.not_eq_true, Bool.not_eq_false, Bool.and_eq_true, Bool.or_eq_true, bs_size] at q1
  · have hn : n < 10 := by omega
    rw [if_pos hn] at hk
    conv => whnf
    first | refine ov_i64 (by omega) ?_ | refine ov_u64 (by omega) ?_ | refine ov_i64 (by decide) ?_ | refine ov_u64 (by decide) ?_ | refine ov_u8 (by omega) ?_ | refine ov_i32 (by omega) ?_ | refine ov_u32 (by omega) ?_
    conv => whnf
    refine need_intro ⟨by omega, by show _ ≤ ((10 : Nat) : Int); omega⟩ ?_
    conv => whnf
    refine need_intro (by omega) ?_
    conv => whnf
    refine sub_by (l := digs) (e1 n hn) ?_
    conv => whnf
    exact hk
  · rw [if_neg (by omega)] at hk
    conv => whnf
    have h1 : (n : Int).tdiv 10 = ((n / 10 : Nat) : Int) := by rw [Int.tdiv_eq_ediv_of_nonneg (by omega)]; omega
    have h2 : (n : Int).tmod 10 = ((n % 10 : Nat) : Int) := by rw [Int.tmod_eq_emod_of_nonneg (by omega)]; omega
    rw [h1]
    first | refine ov_i64 (by omega) ?_ | refine ov_u64 (by omega) ?_ | refine ov_i64 (by decide) ?_ | refine ov_u64 (by decide) ?_ | refine ov_u8 (by omega) ?_ | refine ov_i32 (by omega) ?_ | refine ov_u32 (by omega) ?_
    conv => whnf
    first | refine ov_i64 (by omega) ?_ | refine ov_u64 (by omega) ?_ | refine ov_i64 (by decide) ?_ | refine ov_u64 (by decide) ?_ | refine ov_u8 (by omega) ?_ | refine ov_i32 (by omega) ?_ | refine ov_u32 (by omega) ?_
    conv => whnf
    first | refine ov_i64 (by omega) ?_ | refine ov_u64 (by omega) ?_ | refine ov_i64 (by decide) ?_ | refine ov_u64 (by decide) ?_ | refine ov_u8 (by omega) ?_ | refine ov_i32 (by omega) ?_ | refine ov_u32 (by omega) ?_
    conv => whnf
    refine need_intro ⟨by omega, by show _ ≤ ((10 : Nat) : Int); omega⟩ ?_
    conv => whnf
    refine need_intro (by omega) ?_
    conv => whnf
    refine sub_by (l := digs) (e1 (n / 10) (by omega)) ?_
    conv => whnf
    rw [h2]
    first | refine ov_i64 (by omega) ?_ | refine ov_u64 (by omega) ?_ | refine ov_i64 (by decide) ?_ | refine ov_u64 (by decide) ?_ | refine ov_u8 (by omega) ?_ | refine ov_i32 (by omega) ?_ | refine ov_u32 (by omega) ?_
    conv => whnf
    refine need_intro ⟨by omega, by show _ ≤ ((10 : Nat) : Int); omega⟩ ?_
    conv => whnf
    refine need_intro (by omega) ?_
    conv => whnf
    refine sub_by (l := digs) (e1 (n % 10) (by omega)) ?_
    conv => whnf
    refine cat_intro (by simp) ?_
    conv => whnf
    exact hk
end
end Go.Proofs.YtcapmnambpgemaaDoor
