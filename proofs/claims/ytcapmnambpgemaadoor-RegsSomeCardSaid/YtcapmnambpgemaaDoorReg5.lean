/-
  What was set is got: the walk of RegsKeep.
-/
import Derived.Test.YtcapmnambpgemaaDoorReg4
namespace Go.Proofs.YtcapmnambpgemaaDoor
set_option linter.unusedSimpArgs false
set_option linter.unusedVariables false
open Go Go.Mid Go.RowKit
attribute [local irreducible] mid wC
theorem words_of {h : Hp} {cs : List Value} (w : Wf h (.array 32 (.int .u64)) cs) : ∃ x : Nat → Int, cs = wC x := by
  unfold Wf at w
  obtain ⟨hl, w⟩ := w
  have hl : cs.length = 32 := hl
  have hx : ∀ i, i < 32 → ∃ n, cs[i]? = some (.int .u64 n) := fun i hi => by
    have := w i hi
    unfold Wf at this
    obtain ⟨n, e, _⟩ := this
    refine ⟨n, ?_⟩
    have e2 := congrArg (fun l => l[0]?) e
    simp only [Sh.n, Nat.mul_one] at e2
    rw [List.getElem?_take_of_lt (by decide), List.getElem?_drop, Nat.add_zero] at e2
    exact e2
  refine ⟨fun i => if hi : i < 32 then Classical.choose (hx i hi) else 0, ?_⟩
  apply List.ext_getElem?
  intro i
  by_cases hi : i < 32
  · rw [wC_get _ hi]
    exact (Classical.choose_spec (hx i hi)).trans (by rw [dif_pos hi])
  · rw [List.getElem?_eq_none (by omega), List.getElem?_eq_none (by rw [wC_length]; omega)]
theorem two_of {h : Hp} {cs : List Value} (w : Wf h (.array 2 (.int .i64)) cs) : ∃ a b : Int, cs = [.int .i64 a, .int .i64 b] := by
  unfold Wf at w
  obtain ⟨hl, w⟩ := w
  have hl : cs.length = 2 := hl
  match cs, hl with
  | [u, v], _ =>
    have h0 := w 0 (by decide)
    have h1 := w 1 (by decide)
    unfold Wf at h0 h1
    obtain ⟨a, e0, _⟩ := h0
    obtain ⟨b, e1, _⟩ := h1
    simp [Sh.n] at e0 e1
    exact ⟨a, b, by rw [e0, e1]⟩
theorem getI_set (x : Nat → Int) (i j w : Int) : getI (setX x i w) j = if 0 < i ∧ i < 32 ∧ j = i then w else getI x j := by
  unfold getI setX
  by_cases hj : 0 ≤ j ∧ j < 32
  · rw [if_pos hj, if_pos hj]
    by_cases h : 0 < i ∧ i < 32 ∧ j = i
    · rw [if_pos h, if_pos ⟨h.1, h.2.1, by omega⟩]
    · rw [if_neg h, if_neg (by omega)]
  · rw [if_neg hj, if_neg hj, if_neg (by omega)]
section
set_option maxHeartbeats 8000000
set_option maxRecDepth 10000
theorem keep_law (x : Nat → Int) (w a0 a1 : Int) (w0 : Hp) : X Tryd.prog 4 #[.agg (wC x).toArray, .int .u64 w, .agg #[.int .i64 a0, .int .i64 a1]] w0 fun v h' => v = .bool true ∧ w0.le h' := by
  have hz : getI (zero0 x) 0 = 0 := rfl
  refine fnv (args := _) mixed [(5, 5), (14, 5), (17, 5), (20, 5), (24, 5), (28, 5), (33, 5), (40, 5), (49, 5), (51, 5), (55, 5), (62, 5)] [] [] Tryd.func4 rfl (by kernel_rfl) ?_
  conv => whnf
  refine new_intro (o := rowO 31 (wC x)) (fun bw H1 n_bw le_bw at_bw ot_bw => ?_)
  conv => whnf
  refine ⟨_, loadA0 waA waS at_bw (wC_length _), ?_⟩
  conv => whnf
  refine of_x x ?_
  conv => whnf
  refine new_intro (o := rowO 34 (List.replicate 32 (.int .u64 0))) (fun bf H2 n_bf le_bf at_bf ot_bf => ?_)
  conv => whnf
  refine wr_intro (by exact storeA0 (z := .agg (wC (zero0 x)).toArray) flS at_bf rfl (wC_length _) (wC_one _)) (fun H3 at_H3 ot_H3 => ?_)
  try (conv => whnf)
  refine ⟨_, loadA0 flA flS at_H3 (wC_length _), ?_⟩
  conv => whnf
  have le3 : w0.le H3 := Hp.le_trans le_bw (Hp.le_st n_bf le_bf ot_H3)
  have nf : w0 bf = none := Hp.none_le le_bw n_bf
  have f3 : FlAt H3 bf (zero0 x) := at_H3
  clear at_H3 ot_H3 le_bf le_bw n_bw ot_bf ot_bw n_bf at_bf at_bw
  generalize zero0 x = y at *
  refine new_intro (o := rowO 34 (List.replicate 32 (.int .u64 0))) (fun bs H4 n_bs le_bs at_bs ot_bs => ?_)
  conv => whnf
  have nfs : bf ≠ bs := fun e => by subst e; unfold FlAt at f3; rw [f3] at n_bs; cases n_bs
  refine wr_intro (by exact storeA0 (z := .agg (wC y).toArray) flS at_bs rfl (wC_length _) (wC_one _)) (fun H5 at_H5 ot_H5 => ?_)
  try (conv => whnf)
  have le5 : w0.le H5 := Hp.le_trans le3 (Hp.le_st n_bs le_bs ot_H5)
  have f5 : FlAt H5 bf y := (ot_H5 bf nfs).trans (le_bs _ _ f3)
  have s5 : FlAt H5 bs y := at_H5
  clear at_H5 ot_H5 le_bs ot_bs at_bs f3
  refine get_x f5 a0 ?_
  conv => whnf
  refine get_x f5 a1 ?_
  conv => whnf
  refine set_x f5 a0 w (fun H6 f6 ot6 => ?_)
  have s6 : FlAt H6 bs y := (ot6 bs nfs.symm).trans s5
  have le6 : w0.le H6 := fun k o e => by rw [ot6 k (Hp.ne nf e)]; exact le5 _ _ e
  have g0 : 0 < a0 ∧ a0 < 32 → getI (setX y a0 w) a0 = w := fun h => by rw [getI_set, if_pos ⟨h.1, h.2, rfl⟩]
  have g1 : a1 ≠ a0 → getI (setX y a0 w) a1 = getI y a1 := fun h => by rw [getI_set, if_neg (fun hh => h hh.2.2)]
  have g2 : getI (setX y a0 w) 0 = 0 := by rw [getI_set, if_neg (by omega), hz]
  have fin2 : ∀ H7, FlAt H7 bf (setX (setX y a0 w) a0 (getI y a0)) → eqX (setX (setX y a0 w) a0 (getI y a0)) y = true := fun H7 _ => by
    rw [eqX_iff]
    intro i hi
    unfold setX
    by_cases h : 0 < a0 ∧ a0 < 32 ∧ i = a0.toNat
    · rw [if_pos h]; unfold getI; rw [if_pos (by omega), h.2.2]
    · rw [if_neg h, if_neg h]
  conv => whnf
  refine bsel_intro (fun q1 => ?_) (fun q1 => ?_) <;> try simp only [decide_eq_true_eq, decide_eq_false_iff_not, beq_iff_eq, beq_eq_false_iff_ne, ne_eq, Bool.not_eq_true', Bool.not_eq_false', bne_iff_ne, bne_eq_false_iff_eq, Bool.not_eq_true, Bool.not_eq_false, Bool.and_eq_true, Bool.or_eq_true, bs_size] at q1
  · conv => whnf
    refine bsel_intro (fun q2 => ?_) (fun q2 => ?_) <;> try simp only [decide_eq_true_eq, decide_eq_false_iff_not, beq_iff_eq, beq_eq_false_iff_ne, ne_eq, Bool.not_eq_true', Bool.not_eq_false', bne_iff_ne, bne_eq_false_iff_eq, Bool.not_eq_true, Bool.not_eq_false, Bool.and_eq_true, Bool.or_eq_true, bs_size] at q2
    · conv => whnf
      refine get_x f6 a0 ?_
      rw [g0 ⟨q1, q2⟩]
      conv => whnf
      refine bsel_false ?_ ?_
      · simp
      conv => whnf
      refine bsel_intro (fun q4 => ?_) (fun q4 => ?_) <;> try simp only [decide_eq_true_eq, decide_eq_false_iff_not, beq_iff_eq, beq_eq_false_iff_ne, ne_eq, Bool.not_eq_true', Bool.not_eq_false', bne_iff_ne, bne_eq_false_iff_eq, Bool.not_eq_true, Bool.not_eq_false, Bool.and_eq_true, Bool.or_eq_true, bs_size] at q4
      · conv => whnf
        refine get_x f6 0 ?_
        rw [g2]
        conv => whnf
        refine bsel_intro (fun q5 => ?_) (fun q5 => ?_) <;> try simp only [decide_eq_true_eq, decide_eq_false_iff_not, beq_iff_eq, beq_eq_false_iff_ne, ne_eq, Bool.not_eq_true', Bool.not_eq_false', bne_iff_ne, bne_eq_false_iff_eq, Bool.not_eq_true, Bool.not_eq_false, Bool.and_eq_true, Bool.or_eq_true, bs_size] at q5
        · conv => whnf
          refine get_x f6 a1 ?_
          rw [g1 q5]
          conv => whnf
          refine bsel_false ?_ ?_
          · simp
          conv => whnf
          refine set_x f6 a0 _ (fun H7 f7 ot7 => ?_)
          have s7 : FlAt H7 bs y := (ot7 bs nfs.symm).trans s6
          have le7 : w0.le H7 := fun k o e => by rw [ot7 k (Hp.ne nf e)]; exact le6 _ _ e
          conv => whnf
          refine ⟨_, loadA0 flA flS f7 (wC_length _), ?_⟩
          conv => whnf
          refine ⟨_, loadA0 flA flS s7 (wC_length _), ?_⟩
          conv => whnf
          refine must.mk (by kernel_rfl) ?_
          rw [eqFile, fin2 H7 f7]
          conv => whnf
          refine live_x ?_
          conv => whnf
          exact ⟨rfl, le7⟩
        · conv => whnf
          refine set_x f6 a0 _ (fun H7 f7 ot7 => ?_)
          have s7 : FlAt H7 bs y := (ot7 bs nfs.symm).trans s6
          have le7 : w0.le H7 := fun k o e => by rw [ot7 k (Hp.ne nf e)]; exact le6 _ _ e
          conv => whnf
          refine ⟨_, loadA0 flA flS f7 (wC_length _), ?_⟩
          conv => whnf
          refine ⟨_, loadA0 flA flS s7 (wC_length _), ?_⟩
          conv => whnf
          refine must.mk (by kernel_rfl) ?_
          rw [eqFile, fin2 H7 f7]
          conv => whnf
          refine live_x ?_
          conv => whnf
          exact ⟨rfl, le7⟩
      · conv => whnf
        refine bsel_intro (fun q5 => ?_) (fun q5 => ?_) <;> try simp only [decide_eq_true_eq, decide_eq_false_iff_not, beq_iff_eq, beq_eq_false_iff_ne, ne_eq, Bool.not_eq_true', Bool.not_eq_false', bne_iff_ne, bne_eq_false_iff_eq, Bool.not_eq_true, Bool.not_eq_false, Bool.and_eq_true, Bool.or_eq_true, bs_size] at q5
        · conv => whnf
          refine get_x f6 a1 ?_
          rw [g1 q5]
          conv => whnf
          refine bsel_false ?_ ?_
          · simp
          conv => whnf
          refine set_x f6 a0 _ (fun H7 f7 ot7 => ?_)
          have s7 : FlAt H7 bs y := (ot7 bs nfs.symm).trans s6
          have le7 : w0.le H7 := fun k o e => by rw [ot7 k (Hp.ne nf e)]; exact le6 _ _ e
          conv => whnf
          refine ⟨_, loadA0 flA flS f7 (wC_length _), ?_⟩
          conv => whnf
          refine ⟨_, loadA0 flA flS s7 (wC_length _), ?_⟩
          conv => whnf
          refine must.mk (by kernel_rfl) ?_
          rw [eqFile, fin2 H7 f7]
          conv => whnf
          refine live_x ?_
          conv => whnf
          exact ⟨rfl, le7⟩
        · conv => whnf
          refine set_x f6 a0 _ (fun H7 f7 ot7 => ?_)
          have s7 : FlAt H7 bs y := (ot7 bs nfs.symm).trans s6
          have le7 : w0.le H7 := fun k o e => by rw [ot7 k (Hp.ne nf e)]; exact le6 _ _ e
          conv => whnf
          refine ⟨_, loadA0 flA flS f7 (wC_length _), ?_⟩
          conv => whnf
          refine ⟨_, loadA0 flA flS s7 (wC_length _), ?_⟩
          conv => whnf
          refine must.mk (by kernel_rfl) ?_
          rw [eqFile, fin2 H7 f7]
          conv => whnf
          refine live_x ?_
          conv => whnf
          exact ⟨rfl, le7⟩
    · conv => whnf
      refine bsel_intro (fun q4 => ?_) (fun q4 => ?_) <;> try simp only [decide_eq_true_eq, decide_eq_false_iff_not, beq_iff_eq, beq_eq_false_iff_ne, ne_eq, Bool.not_eq_true', Bool.not_eq_false', bne_iff_ne, bne_eq_false_iff_eq, Bool.not_eq_true, Bool.not_eq_false, Bool.and_eq_true, Bool.or_eq_true, bs_size] at q4
      · conv => whnf
        refine get_x f6 0 ?_
        rw [g2]
        conv => whnf
        refine bsel_intro (fun q5 => ?_) (fun q5 => ?_) <;> try simp only [decide_eq_true_eq, decide_eq_false_iff_not, beq_iff_eq, beq_eq_false_iff_ne, ne_eq, Bool.not_eq_true', Bool.not_eq_false', bne_iff_ne, bne_eq_false_iff_eq, Bool.not_eq_true, Bool.not_eq_false, Bool.and_eq_true, Bool.or_eq_true, bs_size] at q5
        · conv => whnf
          refine get_x f6 a1 ?_
          rw [g1 q5]
          conv => whnf
          refine bsel_false ?_ ?_
          · simp
          conv => whnf
          refine set_x f6 a0 _ (fun H7 f7 ot7 => ?_)
          have s7 : FlAt H7 bs y := (ot7 bs nfs.symm).trans s6
          have le7 : w0.le H7 := fun k o e => by rw [ot7 k (Hp.ne nf e)]; exact le6 _ _ e
          conv => whnf
          refine ⟨_, loadA0 flA flS f7 (wC_length _), ?_⟩
          conv => whnf
          refine ⟨_, loadA0 flA flS s7 (wC_length _), ?_⟩
          conv => whnf
          refine must.mk (by kernel_rfl) ?_
          rw [eqFile, fin2 H7 f7]
          conv => whnf
          refine live_x ?_
          conv => whnf
          exact ⟨rfl, le7⟩
        · conv => whnf
          refine set_x f6 a0 _ (fun H7 f7 ot7 => ?_)
          have s7 : FlAt H7 bs y := (ot7 bs nfs.symm).trans s6
          have le7 : w0.le H7 := fun k o e => by rw [ot7 k (Hp.ne nf e)]; exact le6 _ _ e
          conv => whnf
          refine ⟨_, loadA0 flA flS f7 (wC_length _), ?_⟩
          conv => whnf
          refine ⟨_, loadA0 flA flS s7 (wC_length _), ?_⟩
          conv => whnf
          refine must.mk (by kernel_rfl) ?_
          rw [eqFile, fin2 H7 f7]
          conv => whnf
          refine live_x ?_
          conv => whnf
          exact ⟨rfl, le7⟩
      · conv => whnf
        refine bsel_intro (fun q5 => ?_) (fun q5 => ?_) <;> try simp only [decide_eq_true_eq, decide_eq_false_iff_not, beq_iff_eq, beq_eq_false_iff_ne, ne_eq, Bool.not_eq_true', Bool.not_eq_false', bne_iff_ne, bne_eq_false_iff_eq, Bool.not_eq_true, Bool.not_eq_false, Bool.and_eq_true, Bool.or_eq_true, bs_size] at q5
        · conv => whnf
          refine get_x f6 a1 ?_
          rw [g1 q5]
          conv => whnf
          refine bsel_false ?_ ?_
          · simp
          conv => whnf
          refine set_x f6 a0 _ (fun H7 f7 ot7 => ?_)
          have s7 : FlAt H7 bs y := (ot7 bs nfs.symm).trans s6
          have le7 : w0.le H7 := fun k o e => by rw [ot7 k (Hp.ne nf e)]; exact le6 _ _ e
          conv => whnf
          refine ⟨_, loadA0 flA flS f7 (wC_length _), ?_⟩
          conv => whnf
          refine ⟨_, loadA0 flA flS s7 (wC_length _), ?_⟩
          conv => whnf
          refine must.mk (by kernel_rfl) ?_
          rw [eqFile, fin2 H7 f7]
          conv => whnf
          refine live_x ?_
          conv => whnf
          exact ⟨rfl, le7⟩
        · conv => whnf
          refine set_x f6 a0 _ (fun H7 f7 ot7 => ?_)
          have s7 : FlAt H7 bs y := (ot7 bs nfs.symm).trans s6
          have le7 : w0.le H7 := fun k o e => by rw [ot7 k (Hp.ne nf e)]; exact le6 _ _ e
          conv => whnf
          refine ⟨_, loadA0 flA flS f7 (wC_length _), ?_⟩
          conv => whnf
          refine ⟨_, loadA0 flA flS s7 (wC_length _), ?_⟩
          conv => whnf
          refine must.mk (by kernel_rfl) ?_
          rw [eqFile, fin2 H7 f7]
          conv => whnf
          refine live_x ?_
          conv => whnf
          exact ⟨rfl, le7⟩
  · conv => whnf
    refine bsel_intro (fun q4 => ?_) (fun q4 => ?_) <;> try simp only [decide_eq_true_eq, decide_eq_false_iff_not, beq_iff_eq, beq_eq_false_iff_ne, ne_eq, Bool.not_eq_true', Bool.not_eq_false', bne_iff_ne, bne_eq_false_iff_eq, Bool.not_eq_true, Bool.not_eq_false, Bool.and_eq_true, Bool.or_eq_true, bs_size] at q4
    · conv => whnf
      refine get_x f6 0 ?_
      rw [g2]
      conv => whnf
      refine bsel_intro (fun q5 => ?_) (fun q5 => ?_) <;> try simp only [decide_eq_true_eq, decide_eq_false_iff_not, beq_iff_eq, beq_eq_false_iff_ne, ne_eq, Bool.not_eq_true', Bool.not_eq_false', bne_iff_ne, bne_eq_false_iff_eq, Bool.not_eq_true, Bool.not_eq_false, Bool.and_eq_true, Bool.or_eq_true, bs_size] at q5
      · conv => whnf
        refine get_x f6 a1 ?_
        rw [g1 q5]
        conv => whnf
        refine bsel_false ?_ ?_
        · simp
        conv => whnf
        refine set_x f6 a0 _ (fun H7 f7 ot7 => ?_)
        have s7 : FlAt H7 bs y := (ot7 bs nfs.symm).trans s6
        have le7 : w0.le H7 := fun k o e => by rw [ot7 k (Hp.ne nf e)]; exact le6 _ _ e
        conv => whnf
        refine ⟨_, loadA0 flA flS f7 (wC_length _), ?_⟩
        conv => whnf
        refine ⟨_, loadA0 flA flS s7 (wC_length _), ?_⟩
        conv => whnf
        refine must.mk (by kernel_rfl) ?_
        rw [eqFile, fin2 H7 f7]
        conv => whnf
        refine live_x ?_
        conv => whnf
        exact ⟨rfl, le7⟩
      · conv => whnf
        refine set_x f6 a0 _ (fun H7 f7 ot7 => ?_)
        have s7 : FlAt H7 bs y := (ot7 bs nfs.symm).trans s6
        have le7 : w0.le H7 := fun k o e => by rw [ot7 k (Hp.ne nf e)]; exact le6 _ _ e
        conv => whnf
        refine ⟨_, loadA0 flA flS f7 (wC_length _), ?_⟩
        conv => whnf
        refine ⟨_, loadA0 flA flS s7 (wC_length _), ?_⟩
        conv => whnf
        refine must.mk (by kernel_rfl) ?_
        rw [eqFile, fin2 H7 f7]
        conv => whnf
        refine live_x ?_
        conv => whnf
        exact ⟨rfl, le7⟩
    · conv => whnf
      refine bsel_intro (fun q5 => ?_) (fun q5 => ?_) <;> try simp only [decide_eq_true_eq, decide_eq_false_iff_not, beq_iff_eq, beq_eq_false_iff_ne, ne_eq, Bool.not_eq_true', Bool.not_eq_false', bne_iff_ne, bne_eq_false_iff_eq, Bool.not_eq_true, Bool.not_eq_false, Bool.and_eq_true, Bool.or_eq_true, bs_size] at q5
      · conv => whnf
        refine get_x f6 a1 ?_
        rw [g1 q5]
        conv => whnf
        refine bsel_false ?_ ?_
        · simp
        conv => whnf
        refine set_x f6 a0 _ (fun H7 f7 ot7 => ?_)
        have s7 : FlAt H7 bs y := (ot7 bs nfs.symm).trans s6
        have le7 : w0.le H7 := fun k o e => by rw [ot7 k (Hp.ne nf e)]; exact le6 _ _ e
        conv => whnf
        refine ⟨_, loadA0 flA flS f7 (wC_length _), ?_⟩
        conv => whnf
        refine ⟨_, loadA0 flA flS s7 (wC_length _), ?_⟩
        conv => whnf
        refine must.mk (by kernel_rfl) ?_
        rw [eqFile, fin2 H7 f7]
        conv => whnf
        refine live_x ?_
        conv => whnf
        exact ⟨rfl, le7⟩
      · conv => whnf
        refine set_x f6 a0 _ (fun H7 f7 ot7 => ?_)
        have s7 : FlAt H7 bs y := (ot7 bs nfs.symm).trans s6
        have le7 : w0.le H7 := fun k o e => by rw [ot7 k (Hp.ne nf e)]; exact le6 _ _ e
        conv => whnf
        refine ⟨_, loadA0 flA flS f7 (wC_length _), ?_⟩
        conv => whnf
        refine ⟨_, loadA0 flA flS s7 (wC_length _), ?_⟩
        conv => whnf
        refine must.mk (by kernel_rfl) ?_
        rw [eqFile, fin2 H7 f7]
        conv => whnf
        refine live_x ?_
        conv => whnf
        exact ⟨rfl, le7⟩
theorem regsKeep_w {cs0 cs1 cs2 : List Value} (w : World) (w0 : Wf (whole w) (.array 32 (.int .u64)) cs0) (_ : cs0.length = 32) (w1 : Wf (whole w) (.int .u64) cs1) (_ : cs1.length = 1) (w2 : Wf (whole w) (.array 2 (.int .i64)) cs2) (_ : cs2.length = 2) :
    X Tryd.prog 4 #[.agg cs0.toArray, cs1.headD undef, .agg cs2.toArray] (whole w) fun v h' => v = .bool true ∧ (whole w).le h' := by
  obtain ⟨x, rfl⟩ := words_of w0
  obtain ⟨a, b, rfl⟩ := two_of w2
  unfold Wf at w1
  obtain ⟨n, rfl, _⟩ := w1
  exact keep_law x n a b _
end
end Go.Proofs.YtcapmnambpgemaaDoor
