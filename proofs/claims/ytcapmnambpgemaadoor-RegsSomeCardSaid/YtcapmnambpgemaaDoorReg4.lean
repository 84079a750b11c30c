/-
  A file of registers: what its functions do, and the document's.
-/
import Derived.Test.YtcapmnambpgemaaDoorReg3
namespace Go.Proofs.YtcapmnambpgemaaDoor
set_option linter.unusedSimpArgs false
set_option linter.unusedVariables false
open Go Go.Mid Go.RowKit
attribute [local irreducible] mid
section
set_option maxHeartbeats 8000000
set_option maxRecDepth 10000
variable {h : Hp} {K : Value → Hp → Prop}
/-- 32 words. -/
def wC (x : Nat → Int) : List Value := (List.range 32).map fun i => .int .u64 (x i)
theorem wC_length (x : Nat → Int) : (wC x).length = 32 := by simp [wC]
theorem wC_get (x : Nat → Int) {i : Nat} (hi : i < 32) : (wC x)[i]? = some (.int .u64 (x i)) := by simp [wC, hi]
theorem wC_one (x : Nat → Int) : (wC x).all Value.oneCell' = true := by simp [wC, Value.oneCell']
theorem wC_congr {x y : Nat → Int} (hxy : ∀ i, i < 32 → x i = y i) : wC x = wC y := List.map_congr_left fun i hi => by rw [hxy i (List.mem_range.1 hi)]
def zero0 (x : Nat → Int) : Nat → Int := fun i => if i = 0 then 0 else x i
def getI (x : Nat → Int) (i : Int) : Int := if 0 ≤ i ∧ i < 32 then x i.toNat else 0
def setX (x : Nat → Int) (i w : Int) : Nat → Int := fun k => if 0 < i ∧ i < 32 ∧ k = i.toNat then w else x k
theorem wC_set (x : Nat → Int) {i w : Int} (hi : 0 < i ∧ i < 32) : (wC x).set i.toNat (.int .u64 w) = wC (setX x i w) := by
  apply List.ext_getElem?
  intro k
  rw [List.getElem?_set]
  by_cases hk : k < 32
  · rw [wC_get _ hk]
    by_cases e : i.toNat = k
    · subst e; rw [if_pos rfl, wC_length, if_pos hk, wC_get _ hk]; unfold setX; rw [if_pos ⟨hi.1, hi.2, rfl⟩]
    · rw [if_neg e, wC_get _ hk]
      have : ¬ (0 < i ∧ i < 32 ∧ k = i.toNat) := fun hh => e hh.2.2.symm
      unfold setX; rw [if_neg this]
  · rw [if_neg (by omega), List.getElem?_eq_none (by rw [wC_length]; omega), List.getElem?_eq_none (by rw [wC_length]; omega)]
def eqX (x y : Nat → Int) : Bool := (List.range 32).foldr (fun i b => (x i == y i) && b) true
theorem eqX_iff (x y : Nat → Int) : eqX x y = true ↔ ∀ i, i < 32 → x i = y i := by
  have key : ∀ l : List Nat, l.foldr (fun i b => (x i == y i) && b) true = l.all fun i => x i == y i := fun l => by
    induction l with
    | nil => rfl
    | cons a l ih => rw [List.foldr_cons, ih, List.all_cons]
  unfold eqX
  rw [key, List.all_eq_true]
  simp
theorem eqX_refl (x : Nat → Int) : eqX x x = true := (eqX_iff x x).2 fun _ _ => rfl
theorem eqFile (x y : Nat → Int) : eqW Tryd.prog 10000 34 (.agg (wC x).toArray) (.agg (wC y).toArray) = some (eqX x y && true) := by kernel_rfl
theorem eqWords (x y : Nat → Int) : eqW Tryd.prog 10000 31 (.agg (wC x).toArray) (.agg (wC y).toArray) = some (eqX x y) := by kernel_rfl
theorem flA : isAggT Tryd.prog 34 = some true := by kernel_rfl
theorem flS : sizeT Tryd.prog 34 = some 32 := by kernel_rfl
theorem waA : isAggT Tryd.prog 31 = some true := by kernel_rfl
theorem waS : sizeT Tryd.prog 31 = some 32 := by kernel_rfl
theorem u64A : isAggT Tryd.prog 30 = some false := by kernel_rfl
theorem u64S : sizeT Tryd.prog 30 = some 1 := by kernel_rfl
theorem buildFl (x : Nat → Int) : buildV Tryd.prog 34 [(0, .agg (wC x).toArray)] = some (.agg (wC x).toArray) := by kernel_rfl
theorem buildWs : buildV Tryd.prog 31 [] = some (.agg (wC fun _ => 0).toArray) := by kernel_rfl
attribute [local irreducible] wC
/-- A file in memory. -/
def FlAt (h : Hp) (b : Nat) (x : Nat → Int) : Prop := h b = some (rowO 34 (wC x))
theorem set0 (x : Nat → Int) : (wC x).set 0 (.int .u64 0) = wC (zero0 x) := by
  apply List.ext_getElem?
  intro k
  rw [List.getElem?_set]
  by_cases hk : k < 32
  · rw [wC_get _ hk]
    by_cases e : 0 = k
    · subst e; rw [if_pos rfl, wC_length, if_pos hk, wC_get _ hk]; rfl
    · rw [if_neg e, wC_get _ hk]
      simp only [zero0, if_neg (Ne.symm e)]
  · rw [if_neg (by omega), List.getElem?_eq_none (by rw [wC_length]; omega), List.getElem?_eq_none (by rw [wC_length]; omega)]
theorem of_x (x : Nat → Int) (hk : K (.agg (wC (zero0 x)).toArray) h) : X Tryd.prog 12 #[.agg (wC x).toArray] h K := by
  refine X.forget ?_
  refine fnv (args := _) mixed [] [] [] Tryd.func12 rfl (by kernel_rfl) ?_
  conv => whnf
  refine new_intro (o := rowO 31 (wC x)) (fun a H1 n_a le_a at_a ot_a => ?_)
  conv => whnf
  refine new_intro (o := rowO 34 (List.replicate 32 (.int .u64 0))) (fun b H2 n_b le_b at_b ot_b => ?_)
  conv => whnf
  have ha2 := le_b _ _ at_a
  have hab : a ≠ b := fun e => by subst e; rw [at_a] at n_b; cases n_b
  refine wr_intro (by exact storeC1 (i := 0) (z := .int .u64 0) u64S ha2 (by rw [wC_length]; decide) rfl rfl) (fun H3 at_H3 ot_H3 => ?_)
  try (conv => whnf)
  rw [set0] at at_H3
  refine ⟨_, loadA0 waA waS at_H3 (wC_length _), ?_⟩
  conv => whnf
  refine big_by (buildFl (zero0 x)) ?_
  conv => whnf
  have hb3 : H3 b = some (rowO 34 (List.replicate 32 (.int .u64 0))) := (ot_H3 b hab.symm).trans at_b
  refine wr_intro (by exact storeA0 (z := .agg (wC (zero0 x)).toArray) flS hb3 rfl (wC_length _) (wC_one _)) (fun H4 at_H4 ot_H4 => ?_)
  try (conv => whnf)
  refine ⟨_, loadA0 flA flS at_H4 (wC_length _), ?_⟩
  conv => whnf
  refine ⟨h, fun k o e => ?_, hk⟩
  have e1 := le_a _ _ e
  have e2 := le_b _ _ e1
  rw [ot_H4 k (Hp.ne n_b e1), ot_H3 k (Hp.ne n_a e)]
  exact e2
theorem add00 (b k : Nat) : (((⟨b, 0, none⟩ : Addr).add 0).add (k * 1)) = ⟨b, k, none⟩ := by rw [addr_add, addr_add, Nat.mul_one, Nat.zero_add]
theorem get_x {b : Nat} {x : Nat → Int} (hb : FlAt h b x) (i : Int) (hk : K (.int .u64 (getI x i)) h) : X Tryd.prog 13 #[.pointer (some ⟨b, 0, none⟩), .int .i64 i] h K := by
  unfold getI at hk
  refine fnv (args := _) mixed [] [] [] Tryd.func13 rfl (by kernel_rfl) ?_
  conv => whnf
  refine in_x i ?_
  conv => whnf
  by_cases hi : 0 ≤ i ∧ i < 32
  · rw [decide_eq_true hi]
    rw [if_pos hi] at hk
    conv => whnf
    refine need_intro (by omega) ?_
    conv => whnf
    refine ⟨_, (by rw [add00, loadH_cell u64A]; exact cell_row hb (wC_get x (by omega)) : loadH Tryd.prog 30 h (((⟨b, 0, none⟩ : Addr).add 0).add (i.toNat * 1)) = some (.int .u64 (x i.toNat))), ?_⟩
    conv => whnf
    exact hk
  · rw [decide_eq_false hi]
    rw [if_neg hi] at hk
    conv => whnf
    exact hk
theorem getNil_x (i : Int) (hk : K (.int .u64 0) h) : X Tryd.prog 13 #[.pointer none, .int .i64 i] h K := by
  refine fnv (args := _) mixed [] [] [] Tryd.func13 rfl (by kernel_rfl) ?_
  conv => whnf
  exact hk
theorem set_x {b : Nat} {x : Nat → Int} (hb : FlAt h b x) (i w : Int) (hk : ∀ H, FlAt H b (setX x i w) → (∀ c, c ≠ b → H c = h c) → K (.tuple #[]) H) : X Tryd.prog 14 #[.pointer (some ⟨b, 0, none⟩), .int .i64 i, .int .u64 w] h K := by
  have keep : ¬ (0 < i ∧ i < 32) → FlAt h b (setX x i w) := fun hn => by
    have : setX x i w = x := by
      funext k
      unfold setX
      rw [if_neg (fun hh => hn ⟨hh.1, hh.2.1⟩)]
    rw [this]; exact hb
  refine fnv (args := _) mixed [] [] [] Tryd.func14 rfl (by kernel_rfl) ?_
  conv => whnf
  refine bsel_intro (fun q1 => ?_) (fun q1 => ?_) <;> try simp only [decide_eq_true_eq, decide_eq_false_iff_not, beq_iff_eq, beq_eq_false_iff_ne, ne_eq, Bool.not_eq_true', Bool.not_eq_false', bne_iff_ne, bne_eq_false_iff_eq, Bool.not_eq_true, Bool.not_eq_false, Bool.and_eq_true, Bool.or_eq_true, bs_size] at q1
  · conv => whnf
    refine in_x i ?_
    conv => whnf
    by_cases hi : 0 ≤ i ∧ i < 32
    · rw [decide_eq_true hi]
      conv => whnf
      refine need_intro (by omega) ?_
      conv => whnf
      refine wr_intro (by exact (by rw [add00]; exact storeH_row u64S hb (by rw [wC_length]; omega) rfl rfl : storeH Tryd.prog 30 h (((⟨b, 0, none⟩ : Addr).add 0).add (i.toNat * 1)) (.int .u64 w) = some (b, rowO 34 ((wC x).set i.toNat (.int .u64 w))))) (fun H at_H ot_H => ?_)
      try (conv => whnf)
      rw [wC_set x (by omega)] at at_H
      exact hk H at_H ot_H
    · rw [decide_eq_false hi]
      conv => whnf
      exact hk h (keep (by omega)) fun _ _ => rfl
  · conv => whnf
    exact hk h (keep (by omega)) fun _ _ => rfl
theorem setNil_x (i w : Int) (hk : K (.tuple #[]) h) : X Tryd.prog 14 #[.pointer none, .int .i64 i, .int .u64 w] h K := by
  refine fnv (args := _) mixed [] [] [] Tryd.func14 rfl (by kernel_rfl) ?_
  conv => whnf
  exact hk
theorem words_x {b : Nat} {x : Nat → Int} (hb : FlAt h b x) (hk : K (.agg (wC x).toArray) h) : X Tryd.prog 16 #[.pointer (some ⟨b, 0, none⟩)] h K := by
  refine X.forget ?_
  refine fnv (args := _) mixed [] [] [] Tryd.func16 rfl (by kernel_rfl) ?_
  conv => whnf
  refine new_intro (o := rowO 31 (List.replicate 32 (.int .u64 0))) (fun a H1 n_a le_a at_a ot_a => ?_)
  conv => whnf
  refine ⟨_, (by rw [addr_add]; exact loadA0 waA waS (le_a _ _ hb) (wC_length x) : loadH Tryd.prog 31 H1 ((⟨b, 0, none⟩ : Addr).add 0) = some (.agg (wC x).toArray)), ?_⟩
  conv => whnf
  refine wr_intro (by exact storeA0 (z := .agg (wC x).toArray) waS at_a rfl (wC_length _) (wC_one _)) (fun H2 at_H2 ot_H2 => ?_)
  try (conv => whnf)
  refine ⟨_, loadA0 waA waS at_H2 (wC_length _), ?_⟩
  conv => whnf
  exact ⟨h, Hp.le_st n_a le_a ot_H2, hk⟩
theorem wordsNil_x (hk : K (.agg (wC fun _ => 0).toArray) h) : X Tryd.prog 16 #[.pointer none] h K := by
  refine X.forget ?_
  refine fnv (args := _) mixed [] [] [] Tryd.func16 rfl (by kernel_rfl) ?_
  conv => whnf
  refine new_intro (o := rowO 31 (List.replicate 32 (.int .u64 0))) (fun a H1 n_a le_a at_a ot_a => ?_)
  conv => whnf
  refine big_by buildWs ?_
  conv => whnf
  refine wr_intro (by exact storeA0 (z := .agg (wC fun _ => 0).toArray) waS at_a rfl (wC_length _) (wC_one _)) (fun H2 at_H2 ot_H2 => ?_)
  try (conv => whnf)
  refine ⟨_, loadA0 waA waS at_H2 (wC_length _), ?_⟩
  conv => whnf
  exact ⟨h, Hp.le_st n_a le_a ot_H2, hk⟩
theorem rset_x (x : Nat → Int) (i w : Int) (hk : K (.agg (wC (setX x i w)).toArray) h) : X Tryd.prog 15 #[.agg (wC x).toArray, .int .i64 i, .int .u64 w] h K := by
  have keep : ¬ (0 < i ∧ i < 32) → setX x i w = x := fun hn => by
    funext k
    unfold setX
    rw [if_neg (fun hh => hn ⟨hh.1, hh.2.1⟩)]
  refine X.forget ?_
  refine fnv (args := _) mixed [] [] [] Tryd.func15 rfl (by kernel_rfl) ?_
  conv => whnf
  refine new_intro (o := rowO 31 (wC x)) (fun a H1 n_a le_a at_a ot_a => ?_)
  conv => whnf
  refine new_intro (o := rowO 31 (List.replicate 32 (.int .u64 0))) (fun b H2 n_b le_b at_b ot_b => ?_)
  conv => whnf
  have ha2 := le_b _ _ at_a
  have hab : a ≠ b := fun e => by subst e; rw [at_a] at n_b; cases n_b
  have hle : h.le H2 := Hp.le_trans le_a le_b
  have hna : h a = none := n_a
  have hnb : h b = none := Hp.none_le le_a n_b
  refine bsel_intro (fun q1 => ?_) (fun q1 => ?_) <;> try simp only [decide_eq_true_eq, decide_eq_false_iff_not, beq_iff_eq, beq_eq_false_iff_ne, ne_eq, Bool.not_eq_true', Bool.not_eq_false', bne_iff_ne, bne_eq_false_iff_eq, Bool.not_eq_true, Bool.not_eq_false, Bool.and_eq_true, Bool.or_eq_true, bs_size] at q1
  · conv => whnf
    refine bsel_intro (fun q2 => ?_) (fun q2 => ?_) <;> try simp only [decide_eq_true_eq, decide_eq_false_iff_not, beq_iff_eq, beq_eq_false_iff_ne, ne_eq, Bool.not_eq_true', Bool.not_eq_false', bne_iff_ne, bne_eq_false_iff_eq, Bool.not_eq_true, Bool.not_eq_false, Bool.and_eq_true, Bool.or_eq_true, bs_size] at q2
    · conv => whnf
      refine need_intro (by omega) ?_
      conv => whnf
      refine wr_intro (by exact storeC1 (i := i.toNat) (z := .int .u64 w) u64S ha2 (by rw [wC_length]; omega) rfl rfl) (fun H3 at_H3 ot_H3 => ?_)
      try (conv => whnf)
      rw [wC_set x ⟨q1, q2⟩] at at_H3
      refine ⟨_, loadA0 waA waS at_H3 (wC_length _), ?_⟩
      conv => whnf
      refine wr_intro (by exact storeA0 (z := .agg (wC (setX x i w)).toArray) waS ((ot_H3 b hab.symm).trans at_b) rfl (wC_length _) (wC_one _)) (fun H4 at_H4 ot_H4 => ?_)
      try (conv => whnf)
      refine ⟨_, loadA0 waA waS at_H4 (wC_length _), ?_⟩
      conv => whnf
      refine ⟨h, fun k o e => ?_, hk⟩
      rw [ot_H4 k (Hp.ne hnb e), ot_H3 k (Hp.ne hna e)]
      exact hle _ _ e
    · rw [keep (by omega)] at hk
      conv => whnf
      refine ⟨_, loadA0 waA waS ha2 (wC_length _), ?_⟩
      conv => whnf
      refine wr_intro (by exact storeA0 (z := .agg (wC x).toArray) waS at_b rfl (wC_length _) (wC_one _)) (fun H4 at_H4 ot_H4 => ?_)
      try (conv => whnf)
      refine ⟨_, loadA0 waA waS at_H4 (wC_length _), ?_⟩
      conv => whnf
      refine ⟨h, fun k o e => ?_, hk⟩
      rw [ot_H4 k (Hp.ne hnb e)]
      exact hle _ _ e
  · rw [keep (by omega)] at hk
    conv => whnf
    refine ⟨_, loadA0 waA waS ha2 (wC_length _), ?_⟩
    conv => whnf
    refine wr_intro (by exact storeA0 (z := .agg (wC x).toArray) waS at_b rfl (wC_length _) (wC_one _)) (fun H4 at_H4 ot_H4 => ?_)
    try (conv => whnf)
    refine ⟨_, loadA0 waA waS at_H4 (wC_length _), ?_⟩
    conv => whnf
    refine ⟨h, fun k o e => ?_, hk⟩
    rw [ot_H4 k (Hp.ne hnb e)]
    exact hle _ _ e
end
end Go.Proofs.YtcapmnambpgemaaDoor
