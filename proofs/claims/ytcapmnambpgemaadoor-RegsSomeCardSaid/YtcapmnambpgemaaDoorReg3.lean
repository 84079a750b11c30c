/-
  The register that is known by a name, as the document tells it; the walk of RegsNames.
-/
import Derived.Test.YtcapmnambpgemaaDoorReg2
namespace Go.Proofs.YtcapmnambpgemaaDoor
set_option linter.unusedSimpArgs false
set_option linter.unusedVariables false
open Go Go.Mid Go.RowKit
attribute [local irreducible] mid
section
set_option maxHeartbeats 8000000
set_option maxRecDepth 10000
def namesL : List Value := (List.range 32).map fun i => .string (bs (nameN i))
theorem namesL_get {i : Nat} (hi : i < 32) : namesL[i]? = some (.string (bs (nameN i))) := by simp [namesL, hi]
theorem names_x (h : Hp) (K : Value → Hp → Prop) (hk : ∀ b H, h.le H → H b = some (rowO 9 namesL) → K (.slice (some ⟨b, 0, none⟩) 32 32) H) : X Tryd.prog 8 #[] h K := by
  refine fnv (args := _) mixed [] [] [] Tryd.func8 rfl (by kernel_rfl) ?_
  conv => whnf
  refine new_intro (o := rowO 9 namesL) (fun b H n_b le_b at_b ot_b => ?_)
  conv => whnf
  exact hk b H le_b at_b
theorem ref_some {l : Str} {j : Nat} (hj : j < 32) (hl : l ∈ keys j) (hn : ∀ k, k < j → l ∉ keys k) : refI l = some j := by
  unfold refI
  rw [List.find?_range_eq_some]
  exact ⟨decide_eq_true hl, List.mem_range.2 hj, fun k hk => by simpa using hn k hk⟩
theorem ref_none {l : Str} (hn : ∀ k, k < 32 → l ∉ keys k) : refI l = none := by
  unfold refI
  rw [List.find?_eq_none]
  intro k hk
  simpa using hn k (List.mem_range.1 hk)
theorem mem_keys {l : Str} {j : Nat} : l ∈ keys j ↔ l = nameN j ∨ l = 120 :: digN j ∨ (j = 8 ∧ l = sFp) := by
  unfold keys
  by_cases h : j = 8 <;> simp [h]
def refV (l : Str) : Int := match refI l with
  | some i => i
  | none => -1
theorem rfind_x (l : Str) (hl : l.length ≤ 2 ^ 60) (h : Hp) (K : Value → Hp → Prop) (hk : K (.int .i64 (refV l)) h) : X Tryd.prog 9 #[.string (bs l)] h K := by
  refine X.forget ?_
  refine fnv (args := _) mixed [] [] [] Tryd.func9 rfl (by kernel_rfl) ?_
  conv => whnf
  refine names_x h _ (fun b H le_b at_b => ?_)
  conv => whnf
  refine loop_at [4] [] (fun r vs _ h' => h' = H ∧ ∃ j : Nat, j ≤ 32 ∧ r = 32 - j ∧ vs = [.v (.int .i64 j)] ∧ ∀ k, k < j → l ∉ keys k) 32 ⟨rfl, 0, by omega, by omega, rfl, fun k hk => by omega⟩ ?_
  rintro r vs cs mm bx _ ⟨rfl, j, hj, rfl, rfl, hno⟩
  conv => whnf
  refine bsel_intro (fun q1 => ?_) (fun q1 => ?_) <;> try simp only [decide_eq_true_eq, decide_eq_false_iff_not, beq_iff_eq, beq_eq_false_iff_ne, ne_eq, Bool.not_eq_true', Bool.not_eq_false', bne_iff_ne, bne_eq_false_iff_eq, Bool.not_eq_true, Bool.not_eq_false, Bool.and_eq_true, Bool.or_eq_true, bs_size] at q1
  · have hj32 : j < 32 := by omega
    have found : l ∈ keys j → K (.int .i64 j) h := fun hm => by
      have : refV l = j := by unfold refV; rw [ref_some hj32 hm hno]
      rw [this] at hk
      exact hk
    have nxt : l ∉ keys j → ∀ k, k < j + 1 → l ∉ keys k := fun hm k hk => by
      rcases Nat.lt_or_ge k j with h1 | h1
      · exact hno k h1
      · rw [show k = j by omega]; exact hm
    rw [mem_keys] at found nxt
    conv => whnf
    refine need_intro (by omega) ?_
    conv => whnf
    refine ⟨_, loadC1 (i := j) aggStr at_b (namesL_get hj32), ?_⟩
    conv => whnf
    refine seq_intro ?_
    conv => whnf
    refine bsel_intro (fun q2 => ?_) (fun q2 => ?_) <;> try simp only [decide_eq_true_eq, decide_eq_false_iff_not, beq_iff_eq, beq_eq_false_iff_ne, ne_eq, Bool.not_eq_true', Bool.not_eq_false', bne_iff_ne, bne_eq_false_iff_eq, Bool.not_eq_true, Bool.not_eq_false, Bool.and_eq_true, Bool.or_eq_true, bs_size] at q2
    · conv => whnf
      exact ⟨h, le_b, found (.inl q2)⟩
    conv => whnf
    refine rdigits_x j (by omega) ?_
    conv => whnf
    refine cat_intro (a := [120]) (by have := digN_len j; simp; omega) ?_
    conv => whnf
    refine seq_intro ?_
    conv => whnf
    refine bsel_intro (fun q3 => ?_) (fun q3 => ?_) <;> try simp only [decide_eq_true_eq, decide_eq_false_iff_not, beq_iff_eq, beq_eq_false_iff_ne, ne_eq, Bool.not_eq_true', Bool.not_eq_false', bne_iff_ne, bne_eq_false_iff_eq, Bool.not_eq_true, Bool.not_eq_false, Bool.and_eq_true, Bool.or_eq_true, bs_size] at q3
    · conv => whnf
      exact ⟨h, le_b, found (.inr (.inl q3))⟩
    conv => whnf
    refine bsel_intro (fun q4 => ?_) (fun q4 => ?_) <;> try simp only [decide_eq_true_eq, decide_eq_false_iff_not, beq_iff_eq, beq_eq_false_iff_ne, ne_eq, Bool.not_eq_true', Bool.not_eq_false', bne_iff_ne, bne_eq_false_iff_eq, Bool.not_eq_true, Bool.not_eq_false, Bool.and_eq_true, Bool.or_eq_true, bs_size] at q4
    · conv => whnf
      refine seq_intro (b := sFp) ?_
      conv => whnf
      refine bsel_intro (fun q5 => ?_) (fun q5 => ?_) <;> try simp only [decide_eq_true_eq, decide_eq_false_iff_not, beq_iff_eq, beq_eq_false_iff_ne, ne_eq, Bool.not_eq_true', Bool.not_eq_false', bne_iff_ne, bne_eq_false_iff_eq, Bool.not_eq_true, Bool.not_eq_false, Bool.and_eq_true, Bool.or_eq_true, bs_size] at q5
      · conv => whnf
        exact ⟨h, le_b, found (.inr (.inr ⟨by omega, q5⟩))⟩
      · conv => whnf
        first | refine ov_i64 (by omega) ?_ | refine ov_u64 (by omega) ?_ | refine ov_i64 (by decide) ?_ | refine ov_u64 (by decide) ?_ | refine ov_u8 (by omega) ?_ | refine ov_i32 (by omega) ?_ | refine ov_u32 (by omega) ?_
        conv => whnf
        exact ⟨32 - (j + 1), by omega, rfl, j + 1, by omega, rfl, rfl, nxt (by rintro (e | e | ⟨_, e⟩); exact q2 e; exact q3 e; exact q5 e)⟩
    · conv => whnf
      first | refine ov_i64 (by omega) ?_ | refine ov_u64 (by omega) ?_ | refine ov_i64 (by decide) ?_ | refine ov_u64 (by decide) ?_ | refine ov_u8 (by omega) ?_ | refine ov_i32 (by omega) ?_ | refine ov_u32 (by omega) ?_
      conv => whnf
      exact ⟨32 - (j + 1), by omega, rfl, j + 1, by omega, rfl, rfl, nxt (by rintro (e | e | ⟨e, _⟩); exact q2 e; exact q3 e; exact q4 (by omega))⟩
  · obtain rfl : j = 32 := by omega
    have : refV l = -1 := by unfold refV; rw [ref_none hno]
    rw [this] at hk
    conv => whnf
    exact ⟨h, le_b, hk⟩
theorem names_law (i : Int) (l : Str) (hl : l.length ≤ maxLen) (w0 : Hp) : X Tryd.prog 3 #[.int .i64 i, .string (bs l)] w0 fun v h' => v = .bool true ∧ w0.le h' := by
  refine fnv (args := _) mixed [] [] [] Tryd.func3 rfl (by kernel_rfl) ?_
  conv => whnf
  refine bsel_intro (fun q1 => ?_) (fun q1 => ?_) <;> try simp only [decide_eq_true_eq, decide_eq_false_iff_not, beq_iff_eq, beq_eq_false_iff_ne, ne_eq, Bool.not_eq_true', Bool.not_eq_false', bne_iff_ne, bne_eq_false_iff_eq, Bool.not_eq_true, Bool.not_eq_false, Bool.and_eq_true, Bool.or_eq_true, bs_size] at q1
  · conv => whnf
    refine live_x ?_
    conv => whnf
    exact ⟨rfl, Hp.le_refl _⟩
  have hfr : findI l = (refI l).map fun (k : Nat) => (k : Int) := find_ref l
  conv => whnf
  by_cases hi : 0 ≤ i ∧ i < 32
  · obtain ⟨n, rfl⟩ : ∃ n : Nat, i = n := ⟨i.toNat, by omega⟩
    have hn : n < 32 := by omega
    refine bsel_true ?_ ?_
    · simp; omega
    conv => whnf
    refine names_x w0 _ (fun b H hle at_b => ?_)
    conv => whnf
    refine need_intro (by omega) ?_
    conv => whnf
    refine ⟨_, loadC1 (i := n) aggStr at_b (namesL_get hn), ?_⟩
    conv => whnf
    refine rfind_x l (by omega) _ _ ?_
    conv => whnf
    refine find_x l (by omega) ?_
    cases hr : refI l with
    | none =>
      rw [hr] at hfr
      rw [show findI l = none from hfr, show refV l = -1 by unfold refV; rw [hr]]
      conv => whnf
      refine name_x n hn ?_
      conv => whnf
      refine seq_true (rfl) ?_
      conv => whnf
      refine live_x ?_
      conv => whnf
      exact ⟨rfl, hle⟩
    | some k =>
      rw [hr] at hfr
      rw [show findI l = some (k : Int) from hfr, show refV l = (k : Int) by unfold refV; rw [hr]]
      conv => whnf
      refine name_x n hn ?_
      conv => whnf
      refine seq_true (rfl) ?_
      conv => whnf
      refine bsel_true ?_ ?_
      · simp
      conv => whnf
      refine live_x ?_
      conv => whnf
      exact ⟨rfl, hle⟩
  · have hle := Hp.le_refl w0
    refine bsel_intro (fun q2 => ?_) (fun q2 => ?_) <;> try simp only [decide_eq_true_eq, decide_eq_false_iff_not, beq_iff_eq, beq_eq_false_iff_ne, ne_eq, Bool.not_eq_true', Bool.not_eq_false', bne_iff_ne, bne_eq_false_iff_eq, Bool.not_eq_true, Bool.not_eq_false, Bool.and_eq_true, Bool.or_eq_true, bs_size] at q2
    · conv => whnf
      refine bsel_false ?_ ?_
      · simp; omega
      conv => whnf
      refine rfind_x l (by omega) _ _ ?_
      conv => whnf
      refine find_x l (by omega) ?_
      cases hr : refI l with
      | none =>
        rw [hr] at hfr
        rw [show findI l = none from hfr, show refV l = -1 by unfold refV; rw [hr]]
        conv => whnf
        refine name0_x i hi ?_
        conv => whnf
        refine seq_true (rfl) ?_
        conv => whnf
        refine live_x ?_
        conv => whnf
        exact ⟨rfl, hle⟩
      | some k =>
        rw [hr] at hfr
        rw [show findI l = some (k : Int) from hfr, show refV l = (k : Int) by unfold refV; rw [hr]]
        conv => whnf
        refine name0_x i hi ?_
        conv => whnf
        refine seq_true (rfl) ?_
        conv => whnf
        refine bsel_true ?_ ?_
        · simp
        conv => whnf
        refine live_x ?_
        conv => whnf
        exact ⟨rfl, hle⟩
    · conv => whnf
      refine rfind_x l (by omega) _ _ ?_
      conv => whnf
      refine find_x l (by omega) ?_
      cases hr : refI l with
      | none =>
        rw [hr] at hfr
        rw [show findI l = none from hfr, show refV l = -1 by unfold refV; rw [hr]]
        conv => whnf
        refine name0_x i hi ?_
        conv => whnf
        refine seq_true (rfl) ?_
        conv => whnf
        refine live_x ?_
        conv => whnf
        exact ⟨rfl, hle⟩
      | some k =>
        rw [hr] at hfr
        rw [show findI l = some (k : Int) from hfr, show refV l = (k : Int) by unfold refV; rw [hr]]
        conv => whnf
        refine name0_x i hi ?_
        conv => whnf
        refine seq_true (rfl) ?_
        conv => whnf
        refine bsel_true ?_ ?_
        · simp
        conv => whnf
        refine live_x ?_
        conv => whnf
        exact ⟨rfl, hle⟩
theorem regsNames_w {cs0 cs1 : List Value} (w : World) (w0 : Wf (whole w) (.int .i64) cs0) (_ : cs0.length = 1) (w1 : Wf (whole w) .str cs1) (_ : cs1.length = 1) :
    X Tryd.prog 3 #[cs0.headD undef, cs1.headD undef] (whole w) fun v h' => v = .bool true ∧ (whole w).le h' := by
  unfold Wf at w0 w1
  obtain ⟨i, rfl, _⟩ := w0
  obtain ⟨s, rfl, hs⟩ := w1
  rw [bs_of s] at hs ⊢
  rw [bs_size] at hs
  exact names_law i _ hs _
end
end Go.Proofs.YtcapmnambpgemaaDoor
