/-
  Registers that are set, one after the other: the walk of RegsPlay.
-/
import Derived.Test.YtcapmnambpgemaaDoorReg5
namespace Go.Proofs.YtcapmnambpgemaaDoor
set_option linter.unusedSimpArgs false
set_option linter.unusedVariables false
open Go Go.Mid Go.RowKit
attribute [local irreducible] mid wC
section
set_option maxHeartbeats 8000000
set_option maxRecDepth 10000
theorem tDdA : isAggT Tryd.prog 41 = some true := by kernel_rfl
theorem tDdS : sizeT Tryd.prog 41 = some 2 := by kernel_rfl
def ddC (d : Int × Int) : List Value := [.int .i64 d.1, .int .u64 d.2]
theorem ld0 {h : Hp} {a : Addr} {d : Int × Int} (hl : loadH Tryd.prog 41 h a = some (.agg (ddC d).toArray)) : loadH Tryd.prog 3 h (a.add 0) = some (.int .i64 d.1) := by
  rw [loadH_cell aggInt]; exact loadH_cellOf (k := 0) tDdA tDdS hl rfl
theorem ld1 {h : Hp} {a : Addr} {d : Int × Int} (hl : loadH Tryd.prog 41 h a = some (.agg (ddC d).toArray)) : loadH Tryd.prog 30 h (a.add 1) = some (.int .u64 d.2) := by
  rw [loadH_cell u64A]; exact loadH_cellOf (k := 1) tDdA tDdS hl rfl
/-- Words in memory. -/
def WdAt (h : Hp) (b : Nat) (x : Nat → Int) : Prop := h b = some (rowO 31 (wC x))
/-- What is so in a play. -/
structure Pl (w0 h : Hp) (bf bx b9 b10 : Nat) (y y0 : Nat → Int) : Prop where
  le : w0.le h
  f : FlAt h bf y
  x : WdAt h bx y
  first : FlAt h b9 y0
  was : WdAt h b10 y0
theorem play_law (x : Nat → Int) {base : Option Addr} {cap : Nat} {D : List (Int × Int)} (hlen : D.length ≤ maxLen) (w0 : Hp)
    (hl : ∀ (i : Nat) (d : Int × Int), D[i]? = some d → ∃ b, base = some b ∧ loadH Tryd.prog 41 w0 (b.add (i * 2)) = some (.agg (ddC d).toArray)) (at' : Int) :
    X Tryd.prog 5 #[.agg (wC x).toArray, .slice base D.length cap, .int .i64 at'] w0 fun v h' => v = .bool true ∧ w0.le h' := by
  refine fnv (args := _) mixed [] [] [22, 53, 70] Tryd.func5 rfl (by kernel_rfl) ?_
  conv => whnf
  refine new_intro (o := rowO 31 (wC x)) (fun bw H1 n_bw le_bw at_bw ot_bw => ?_)
  conv => whnf
  refine bsel_intro (fun q1 => ?_) (fun q1 => ?_) <;> try simp only [decide_eq_true_eq, decide_eq_false_iff_not, beq_iff_eq, beq_eq_false_iff_ne, ne_eq, Bool.not_eq_true', Bool.not_eq_false', bne_iff_ne, bne_eq_false_iff_eq, Bool.not_eq_true, Bool.not_eq_false, Bool.and_eq_true, Bool.or_eq_true, bs_size] at q1
  · conv => whnf
    refine live_x ?_
    conv => whnf
    exact ⟨rfl, le_bw⟩
  have hl200 : D.length ≤ 200 := by omega
  conv => whnf
  refine ⟨_, loadA0 waA waS at_bw (wC_length _), ?_⟩
  conv => whnf
  refine of_x x ?_
  conv => whnf
  refine new_intro (o := rowO 34 (List.replicate 32 (.int .u64 0))) (fun bf H2 n_bf le_bf at_bf ot_bf => ?_)
  conv => whnf
  refine wr_intro (by exact storeA0 (z := .agg (wC (zero0 x)).toArray) flS at_bf rfl (wC_length _) (wC_one _)) (fun H3 at_H3 ot_H3 => ?_)
  try (conv => whnf)
  have le3 : w0.le H3 := Hp.le_trans le_bw (Hp.le_st n_bf le_bf ot_H3)
  have nf : w0 bf = none := Hp.none_le le_bw n_bf
  have hw3 : WdAt H3 bw x := (ot_H3 bw (fun e => by subst e; rw [at_bw] at n_bf; cases n_bf)).trans (le_bf _ _ at_bw)
  have f3 : FlAt H3 bf (zero0 x) := at_H3
  clear at_H3 ot_H3 le_bf le_bw n_bw ot_bf ot_bw n_bf at_bf at_bw
  refine ⟨_, loadA0 waA waS hw3 (wC_length _), ?_⟩
  conv => whnf
  refine new_intro (o := rowO 31 (List.replicate 32 (.int .u64 0))) (fun bx H4 n_bx le_bx at_bx ot_bx => ?_)
  conv => whnf
  have nfx : bf ≠ bx := fun e => by subst e; unfold FlAt at f3; rw [f3] at n_bx; cases n_bx
  have nx : w0 bx = none := Hp.none_le le3 n_bx
  refine wr_intro (by exact storeA0 (z := .agg (wC x).toArray) waS at_bx rfl (wC_length _) (wC_one _)) (fun H5 at_H5 ot_H5 => ?_)
  try (conv => whnf)
  have le5 : w0.le H5 := Hp.le_trans le3 (Hp.le_st n_bx le_bx ot_H5)
  have f5 : FlAt H5 bf (zero0 x) := (ot_H5 bf nfx).trans (le_bx _ _ f3)
  have x5 : WdAt H5 bx x := at_H5
  clear ot_H5 le_bx ot_bx at_bx f3 n_bx hw3
  refine wr_intro (by exact storeC1 (i := 0) (z := .int .u64 0) u64S x5 (by rw [wC_length]; decide) rfl rfl) (fun H6 at_H6 ot_H6 => ?_)
  try (conv => whnf)
  have le6 : w0.le H6 := fun k o e => by rw [ot_H6 k (Hp.ne nx e)]; exact le5 _ _ e
  have f6 : FlAt H6 bf (zero0 x) := (ot_H6 bf nfx).trans f5
  have x6 : WdAt H6 bx (zero0 x) := by unfold WdAt; rw [at_H6, set0]
  clear at_H6 ot_H6 f5 le5 at_H5 x5
  generalize zero0 x = y0 at *
  refine ⟨fun h' => h' bx = some (rowO 31 (wC y0)), fun h1 h2 e l => l _ _ e, x6, ?_⟩
  conv => whnf
  refine ⟨_, loadA0 flA flS f6 (wC_length _), ?_⟩
  conv => whnf
  refine ⟨_, fun h' hh => loadA0 waA waS hh (wC_length _), ?_⟩
  conv => whnf
  refine new_intro (o := rowO 34 (List.replicate 32 (.int .u64 0))) (fun b9 H7 n_b9 le_b9 at_b9 ot_b9 => ?_)
  conv => whnf
  refine new_intro (o := rowO 31 (List.replicate 32 (.int .u64 0))) (fun b10 H8 n_b10 le_b10 at_b10 ot_b10 => ?_)
  conv => whnf
  have n9 : w0 b9 = none := Hp.none_le le6 n_b9
  have n10 : w0 b10 = none := Hp.none_le (Hp.le_trans le6 le_b9) n_b10
  have d9f : bf ≠ b9 := fun e => by subst e; unfold FlAt at f6; rw [f6] at n_b9; cases n_b9
  have d9x : bx ≠ b9 := fun e => by subst e; unfold WdAt at x6; rw [x6] at n_b9; cases n_b9
  have d10f : bf ≠ b10 := fun e => by subst e; rw [le_b9 _ _ f6] at n_b10; cases n_b10
  have d10x : bx ≠ b10 := fun e => by subst e; rw [le_b9 _ _ x6] at n_b10; cases n_b10
  have d910 : b9 ≠ b10 := fun e => by subst e; rw [at_b9] at n_b10; cases n_b10
  have f8 : FlAt H8 bf y0 := le_b10 _ _ (le_b9 _ _ f6)
  have x8 : WdAt H8 bx y0 := le_b10 _ _ (le_b9 _ _ x6)
  have le8 : w0.le H8 := Hp.le_trans le6 (Hp.le_trans le_b9 le_b10)
  refine wr_intro (by exact storeA0 (z := .agg (wC y0).toArray) flS (le_b10 _ _ at_b9) rfl (wC_length _) (wC_one _)) (fun H9 at_H9 ot_H9 => ?_)
  try (conv => whnf)
  refine ⟨(ot_H9 bx d9x).trans x8, ?_⟩
  conv => whnf
  refine wr_intro (by exact storeA0 (z := .agg (wC y0).toArray) waS ((ot_H9 b10 d910.symm).trans at_b10) rfl (wC_length _) (wC_one _)) (fun HA at_HA ot_HA => ?_)
  try (conv => whnf)
  refine ⟨(ot_HA bx d10x).trans ((ot_H9 bx d9x).trans x8), ?_⟩
  have P0 : Pl w0 HA bf bx b9 b10 y0 y0 := ⟨fun k o e => by rw [ot_HA k (Hp.ne n10 e), ot_H9 k (Hp.ne n9 e)]; exact le8 _ _ e,
    (ot_HA bf d10f).trans ((ot_H9 bf d9f).trans f8), (ot_HA bx d10x).trans ((ot_H9 bx d9x).trans x8), (ot_HA b9 d910).trans at_H9, at_HA⟩
  clear at_HA ot_HA at_H9 ot_H9 f8 x8 le8 at_b10 ot_b10 le_b10 at_b9 ot_b9 le_b9 n_b9 n_b10 f6 x6 le6
  conv => whnf
  refine loop_at [11] [] (fun r vs _ h' => ∃ (j : Nat) (y : Nat → Int), j ≤ D.length ∧ r = D.length - j ∧ vs = [.v (.int .i64 j)] ∧ Pl w0 h' bf bx b9 b10 y y0) D.length ⟨0, y0, by omega, by omega, rfl, P0⟩ ?_
  rintro r vs cs mm bb h' ⟨j, y, hj, rfl, rfl, p⟩
  conv => whnf
  refine bsel_intro (fun q2 => ?_) (fun q2 => ?_) <;> try simp only [decide_eq_true_eq, decide_eq_false_iff_not, beq_iff_eq, beq_eq_false_iff_ne, ne_eq, Bool.not_eq_true', Bool.not_eq_false', bne_iff_ne, bne_eq_false_iff_eq, Bool.not_eq_true, Bool.not_eq_false, Bool.and_eq_true, Bool.or_eq_true, bs_size] at q2
  · have hjl : j < D.length := by omega
    obtain ⟨b, rfl, hd⟩ := hl j _ (List.getElem?_eq_getElem hjl)
    generalize D[j] = d at hd
    have rd : ∀ h : Hp, w0.le h → loadH Tryd.prog 41 h (b.add (j * 2)) = some (.agg (ddC d).toArray) := fun h hle => loadH_le hle hd
    conv => whnf
    refine need_intro (by omega) ?_
    conv => whnf
    refine ⟨_, ld0 (rd _ p.le), ?_⟩
    conv => whnf
    refine need_intro (by omega) ?_
    conv => whnf
    refine ⟨_, ld1 (rd _ p.le), ?_⟩
    conv => whnf
    refine set_x p.f d.1 d.2 (fun G1 g1 og1 => ?_)
    have p1 : Pl w0 G1 bf b9 b10 b10 (setX y d.1 d.2) y0 → True := fun _ => trivial
    have q : w0.le G1 ∧ WdAt G1 bx y ∧ FlAt G1 b9 y0 ∧ WdAt G1 b10 y0 := ⟨fun k o e => by rw [og1 k (Hp.ne nf e)]; exact p.le _ _ e, (og1 bx nfx.symm).trans p.x, (og1 b9 d9f.symm).trans p.first, (og1 b10 d10f.symm).trans p.was⟩
    obtain ⟨l1, x1, g9, g10⟩ := q
    clear p1 og1 p
    refine ⟨trivial, ?_⟩
    conv => whnf
    refine ⟨_, loadA0 waA waS x1 (wC_length _), ?_⟩
    conv => whnf
    refine need_intro (by omega) ?_
    conv => whnf
    refine ⟨_, ld0 (rd _ l1), ?_⟩
    conv => whnf
    refine need_intro (by omega) ?_
    conv => whnf
    refine ⟨_, ld1 (rd _ l1), ?_⟩
    conv => whnf
    refine rset_x y d.1 d.2 ?_
    refine ⟨trivial, ?_⟩
    conv => whnf
    refine wr_intro (by exact storeA0 (z := .agg (wC (setX y d.1 d.2)).toArray) waS x1 (wC_length _) (wC_length _) (wC_one _)) (fun G2 at_G2 ot_G2 => ?_)
    try (conv => whnf)
    have p : Pl w0 G2 bf bx b9 b10 (setX y d.1 d.2) y0 := ⟨fun k o e => by rw [ot_G2 k (Hp.ne nx e)]; exact l1 _ _ e, (ot_G2 bf nfx).trans g1, at_G2, (ot_G2 b9 d9x.symm).trans g9, (ot_G2 b10 d10x.symm).trans g10⟩
    clear at_G2 ot_G2 g1 g9 g10 l1 x1
    generalize setX y d.1 d.2 = y2 at *
    refine ⟨trivial, ?_⟩
    conv => whnf
    refine ⟨fun h' => h' bx = some (rowO 31 (wC y2)), p.x, ?_⟩
    conv => whnf
    refine words_x p.f ?_
    refine ⟨p.x, ?_⟩
    conv => whnf
    refine ⟨_, fun h' hh => loadA0 waA waS hh (wC_length _), ?_⟩
    conv => whnf
    refine must.mk (by kernel_rfl) ?_
    rw [eqWords, eqX_refl]
    conv => whnf
    first | refine ov_i64 (by omega) ?_ | refine ov_u64 (by omega) ?_ | refine ov_i64 (by decide) ?_ | refine ov_u64 (by decide) ?_ | refine ov_u8 (by omega) ?_ | refine ov_i32 (by omega) ?_ | refine ov_u32 (by omega) ?_
    conv => whnf
    exact ⟨D.length - (j + 1), by omega, j + 1, y2, by omega, rfl, rfl, p⟩
  · conv => whnf
    have fin : ∀ (w : Int), w = getI y at' → True := fun _ _ => trivial
    clear fin
    refine bsel_intro (fun q3 => ?_) (fun q3 => ?_) <;> try simp only [decide_eq_true_eq, decide_eq_false_iff_not, beq_iff_eq, beq_eq_false_iff_ne, ne_eq, Bool.not_eq_true', Bool.not_eq_false', bne_iff_ne, bne_eq_false_iff_eq, Bool.not_eq_true, Bool.not_eq_false, Bool.and_eq_true, Bool.or_eq_true, bs_size] at q3
    · conv => whnf
      refine bsel_intro (fun q4 => ?_) (fun q4 => ?_) <;> try simp only [decide_eq_true_eq, decide_eq_false_iff_not, beq_iff_eq, beq_eq_false_iff_ne, ne_eq, Bool.not_eq_true', Bool.not_eq_false', bne_iff_ne, bne_eq_false_iff_eq, Bool.not_eq_true, Bool.not_eq_false, Bool.and_eq_true, Bool.or_eq_true, bs_size] at q4
      · skip
        conv => whnf
        refine need_intro (by omega) ?_
        conv => whnf
        refine ⟨_, loadC1 (i := at'.toNat) u64A p.x (wC_get y (by omega)), ?_⟩
        conv => whnf
        refine ⟨fun h' => h' b10 = some (rowO 31 (wC y0)), p.was, ?_⟩
        conv => whnf
        refine get_x p.f at' ?_
        unfold getI
        refine ⟨p.was, ?_⟩
        rw [if_pos ⟨by omega, q4⟩]
        conv => whnf
        refine bsel_true ?_ ?_
        · simp
        conv => whnf
        refine words_x p.first ?_
        refine ⟨p.was, ?_⟩
        conv => whnf
        refine ⟨_, fun h' hh => loadA0 waA waS hh (wC_length _), ?_⟩
        conv => whnf
        refine must.mk (by kernel_rfl) ?_
        rw [eqWords, eqX_refl]
        conv => whnf
        refine ⟨_, loadA0 flA flS p.f (wC_length _), ?_⟩
        conv => whnf
        refine ⟨_, loadA0 flA flS p.first (wC_length _), ?_⟩
        conv => whnf
        refine must.mk (by kernel_rfl) ?_
        rw [eqFile]
        conv => whnf
        refine ⟨_, loadA0 waA waS p.x (wC_length _), ?_⟩
        conv => whnf
        refine ⟨_, loadA0 waA waS p.was (wC_length _), ?_⟩
        conv => whnf
        refine must.mk (by kernel_rfl) ?_
        rw [eqWords]
        cases eqX y y0
        all_goals
          conv => whnf
          refine live_x ?_
          refine ⟨p.was, ?_⟩
          conv => whnf
          exact ⟨rfl, p.le⟩
      · skip
        conv => whnf
        refine ⟨fun h' => h' b10 = some (rowO 31 (wC y0)), p.was, ?_⟩
        conv => whnf
        refine get_x p.f at' ?_
        unfold getI
        refine ⟨p.was, ?_⟩
        rw [if_neg (by omega)]
        conv => whnf
        refine words_x p.first ?_
        refine ⟨p.was, ?_⟩
        conv => whnf
        refine ⟨_, fun h' hh => loadA0 waA waS hh (wC_length _), ?_⟩
        conv => whnf
        refine must.mk (by kernel_rfl) ?_
        rw [eqWords, eqX_refl]
        conv => whnf
        refine ⟨_, loadA0 flA flS p.f (wC_length _), ?_⟩
        conv => whnf
        refine ⟨_, loadA0 flA flS p.first (wC_length _), ?_⟩
        conv => whnf
        refine must.mk (by kernel_rfl) ?_
        rw [eqFile]
        conv => whnf
        refine ⟨_, loadA0 waA waS p.x (wC_length _), ?_⟩
        conv => whnf
        refine ⟨_, loadA0 waA waS p.was (wC_length _), ?_⟩
        conv => whnf
        refine must.mk (by kernel_rfl) ?_
        rw [eqWords]
        cases eqX y y0
        all_goals
          conv => whnf
          refine live_x ?_
          refine ⟨p.was, ?_⟩
          conv => whnf
          exact ⟨rfl, p.le⟩
    · skip
      conv => whnf
      refine ⟨fun h' => h' b10 = some (rowO 31 (wC y0)), p.was, ?_⟩
      conv => whnf
      refine get_x p.f at' ?_
      unfold getI
      refine ⟨p.was, ?_⟩
      rw [if_neg (by omega)]
      conv => whnf
      refine words_x p.first ?_
      refine ⟨p.was, ?_⟩
      conv => whnf
      refine ⟨_, fun h' hh => loadA0 waA waS hh (wC_length _), ?_⟩
      conv => whnf
      refine must.mk (by kernel_rfl) ?_
      rw [eqWords, eqX_refl]
      conv => whnf
      refine ⟨_, loadA0 flA flS p.f (wC_length _), ?_⟩
      conv => whnf
      refine ⟨_, loadA0 flA flS p.first (wC_length _), ?_⟩
      conv => whnf
      refine must.mk (by kernel_rfl) ?_
      rw [eqFile]
      conv => whnf
      refine ⟨_, loadA0 waA waS p.x (wC_length _), ?_⟩
      conv => whnf
      refine ⟨_, loadA0 waA waS p.was (wC_length _), ?_⟩
      conv => whnf
      refine must.mk (by kernel_rfl) ?_
      rw [eqWords]
      cases eqX y y0
      all_goals
        conv => whnf
        refine live_x ?_
        refine ⟨p.was, ?_⟩
        conv => whnf
        exact ⟨rfl, p.le⟩
theorem wf_dd {h : Hp} {es : List Value} (w : Wf h (.struct [.int .i64, .int .u64]) es) : ∃ d : Int × Int, True ∧ es = ddC d := by
  unfold Wf Wfs at w
  obtain ⟨a, b, rfl, _, w1, w⟩ := w
  unfold Wfs at w
  obtain ⟨c, d, rfl, _, w2, w⟩ := w
  unfold Wfs at w
  subst w
  unfold Wf at w1 w2
  obtain ⟨n, rfl, _⟩ := w1
  obtain ⟨m, rfl, _⟩ := w2
  exact ⟨(n, m), trivial, rfl⟩
theorem regsPlay_w {cs0 cs1 cs2 : List Value} (w : World) (w0 : Wf (whole w) (.array 32 (.int .u64)) cs0) (_ : cs0.length = 32) (w1 : Wf (whole w) (.slice (.struct [.int .i64, .int .u64])) cs1) (_ : cs1.length = 1) (w2 : Wf (whole w) (.int .i64) cs2) (_ : cs2.length = 1) :
    X Tryd.prog 5 #[.agg cs0.toArray, cs1.headD undef, cs2.headD undef] (whole w) fun v h' => v = .bool true ∧ (whole w).le h' := by
  obtain ⟨x, rfl⟩ := words_of w0
  obtain ⟨a, cap, D, rfl, hm, _, hl⟩ := slice_of (P := Tryd.prog) (t := 41) (n := 2) tDdA tDdS (by decide) rfl (fun es => wf_dd) w1
  unfold Wf at w2
  obtain ⟨n, rfl, _⟩ := w2
  exact play_law x hm _ hl n
end
end Go.Proofs.YtcapmnambpgemaaDoor
