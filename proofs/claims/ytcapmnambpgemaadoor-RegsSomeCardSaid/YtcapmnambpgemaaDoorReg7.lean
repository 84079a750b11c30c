/-
  The registers that aren't 0: the walk of RegsSome.
-/
import Derived.Test.YtcapmnambpgemaaDoorReg6
namespace Go.Proofs.YtcapmnambpgemaaDoor
set_option linter.unusedSimpArgs false
set_option linter.unusedVariables false
open Go Go.Mid Go.RowKit
attribute [local irreducible] mid wC
section
set_option maxHeartbeats 8000000
set_option maxRecDepth 10000
theorem flPA : isAggT Tryd.prog 45 = some false := by kernel_rfl
theorem boolS : sizeT Tryd.prog 4 = some 1 := by kernel_rfl
theorem intS : sizeT Tryd.prog 3 = some 1 := by kernel_rfl
theorem ne_type {h : Hp} {b : Nat} {e e' : TypeId} {l l' : List Value} (hne : e ≠ e') (h1 : h b = some (rowO e l)) (h2 : h b = some (rowO e' l')) : False := by
  rw [h1] at h2
  have := Option.some.inj h2
  unfold rowO at this
  injection this with _ h3 _
  exact hne h3
/-- All are gone through, till nobody wants more. -/
theorem each_x {g : FuncId} {ca : Array Value} (hg : callable Tryd.prog g = true) {bp : Nat} {pf : Value} (val : Nat → Int) (I : Nat → Hp → Prop) (D : Hp → Prop)
    (hp : ∀ j h, I j h → h bp = some (rowO 45 [pf]))
    (hget : ∀ j h (K : Value → Hp → Prop), j < 32 → I j h → K (.int .u64 (val j)) h → X Tryd.prog 13 #[pf, .int .i64 j] h K)
    (skip : ∀ j h, j < 32 → val j = 0 → I j h → I (j + 1) h)
    (step : ∀ j h (K : Value → Hp → Prop), j < 32 → val j ≠ 0 → I j h → (∀ H, I (j + 1) H → K (.bool true) H) → (∀ H, D H → K (.bool false) H) → X Tryd.prog g ([Value.int .i64 j, .int .u64 (val j)] ++ ca.toList).toArray h K)
    (h : Hp) (K : Value → Hp → Prop) (h0 : I 0 h) (hk : ∀ H, (I 32 H ∨ D H) → K (.tuple #[]) H) : X Tryd.prog 29 #[.func (.func g) #[] ca, .pointer (some ⟨bp, 0, none⟩)] h K := by
  refine fnv (args := _) mixed [] [] [] Tryd.func29 rfl (by kernel_rfl) ?_
  conv => whnf
  refine loop_at [5] [] (fun r vs _ h' => ∃ j : Nat, j ≤ 32 ∧ r = 32 - j ∧ vs = [.v (.int .i64 j)] ∧ I j h') 32 ⟨0, by omega, by omega, rfl, h0⟩ ?_
  rintro r vs cs mm bx h' ⟨j, hj, rfl, rfl, hI⟩
  conv => whnf
  refine bsel_intro (fun q1 => ?_) (fun q1 => ?_) <;> try simp only [decide_eq_true_eq, decide_eq_false_iff_not, beq_iff_eq, beq_eq_false_iff_ne, ne_eq, Bool.not_eq_true', Bool.not_eq_false', bne_iff_ne, bne_eq_false_iff_eq, Bool.not_eq_true, Bool.not_eq_false, Bool.and_eq_true, Bool.or_eq_true, bs_size] at q1
  · have hj32 : j < 32 := by omega
    conv => whnf
    refine ⟨_, loadC0 flPA (hp j h' hI) rfl, ?_⟩
    conv => whnf
    refine hget j h' _ hj32 hI ?_
    conv => whnf
    refine bsel_intro (fun q2 => ?_) (fun q2 => ?_) <;> try simp only [decide_eq_true_eq, decide_eq_false_iff_not, beq_iff_eq, beq_eq_false_iff_ne, ne_eq, Bool.not_eq_true', Bool.not_eq_false', bne_iff_ne, bne_eq_false_iff_eq, Bool.not_eq_true, Bool.not_eq_false, Bool.and_eq_true, Bool.or_eq_true, bs_size] at q2
    · conv => whnf
      refine aRunK_call (args := [Value.int .i64 j, .int .u64 (val j)] ++ ca.toList) rfl hg ?_
      refine step j h' _ hj32 q2 hI (fun H hI' => ?_) (fun H hD => ?_)
      · conv => whnf
        first | refine ov_i64 (by omega) ?_ | refine ov_u64 (by omega) ?_ | refine ov_i64 (by decide) ?_ | refine ov_u64 (by decide) ?_ | refine ov_u8 (by omega) ?_ | refine ov_i32 (by omega) ?_ | refine ov_u32 (by omega) ?_
        conv => whnf
        exact ⟨32 - (j + 1), by omega, j + 1, by omega, rfl, rfl, hI'⟩
      · conv => whnf
        exact hk H (.inr hD)
    · conv => whnf
      first | refine ov_i64 (by omega) ?_ | refine ov_u64 (by omega) ?_ | refine ov_i64 (by decide) ?_ | refine ov_u64 (by decide) ?_ | refine ov_u8 (by omega) ?_ | refine ov_i32 (by omega) ?_ | refine ov_u32 (by omega) ?_
      conv => whnf
      exact ⟨32 - (j + 1), by omega, j + 1, by omega, rfl, rfl, skip j h' hj32 (by simpa using q2) hI⟩
  · obtain rfl : j = 32 := by omega
    conv => whnf
    exact hk h' (.inl hI)
theorem some_x {pf : Value} (h : Hp) (K : Value → Hp → Prop) (hk : ∀ bp H, h bp = none → h.le H → H bp = some (rowO 45 [pf]) → (∀ c, c ≠ bp → H c = h c) → K (.func (.func 29) #[] #[.pointer (some ⟨bp, 0, none⟩)]) H) (hc : pf.cells = #[pf]) :
    X Tryd.prog 17 #[pf] h K := by
  refine fnv (args := _) mixed [] [] [] Tryd.func17 rfl (by kernel_rfl) ?_
  conv => whnf
  refine new_intro (o := .cells pf.cells 45) (fun bp H n_b le_b at_b ot_b => ?_)
  conv => whnf
  refine hk bp H n_b le_b ?_ ot_b
  rw [at_b, hc]
/-- How many aren't 0. -/
def cnt (y : Nat → Int) (j : Nat) : Nat := ((List.range j).filter fun i => y i ≠ 0).length
theorem cnt_succ (y : Nat → Int) (j : Nat) : cnt y (j + 1) = cnt y j + if y j ≠ 0 then 1 else 0 := by
  unfold cnt
  rw [List.range_succ, List.filter_append, List.length_append]
  by_cases h : y j = 0 <;> simp [h]
theorem cnt_mono (y : Nat → Int) {i j : Nat} (h : i ≤ j) : cnt y i ≤ cnt y j := by
  induction h with
  | refl => exact Nat.le_refl _
  | step _ ih => rw [cnt_succ]; omega
theorem cnt_le (y : Nat → Int) (j : Nat) : cnt y j ≤ j := by
  unfold cnt
  exact Nat.le_trans (List.length_filter_le _ _) (by simp)
/-- What is told of one register. -/
theorem told_x {bn bfi bl bw bm : Nat} {n last most : Int} {x : Nat → Int} {j : Nat} (hj : j < 32) (h : Hp) (K : Value → Hp → Prop)
    (hn : h bn = some (rowO 3 [.int .i64 n])) (hf : h bfi = some (rowO 4 [.bool true])) (hl : h bl = some (rowO 3 [.int .i64 last])) (hw : WdAt h bw x) (hm : h bm = some (rowO 3 [.int .i64 most]))
    (h1 : 0 ≤ n ∧ n ≤ 1000) (h2 : last < j) (h3 : x j ≠ 0)
    (d1 : bn ≠ bl) (d2 : bm ≠ bn ∧ bm ≠ bl)
    (hk : ∀ H, H bn = some (rowO 3 [.int .i64 (n + 1)]) → H bfi = some (rowO 4 [.bool true]) → H bl = some (rowO 3 [.int .i64 j]) → (∀ c, c ≠ bn → c ≠ bfi → c ≠ bl → H c = h c) → K (.bool (decide (n + 1 ≠ most))) H) :
    X Tryd.prog 19 #[.int .i64 j, .int .u64 (x j), .pointer (some ⟨bn, 0, none⟩), .pointer (some ⟨bfi, 0, none⟩), .pointer (some ⟨bl, 0, none⟩), .pointer (some ⟨bw, 0, none⟩), .pointer (some ⟨bm, 0, none⟩)] h K := by
  have d3 : bfi ≠ bn := fun e => by subst e; rw [hn] at hf; cases hf
  have d4 : bfi ≠ bl := fun e => by subst e; rw [hl] at hf; cases hf
  have d5 : bw ≠ bn := fun e => by subst e; exact ne_type (by decide) hw hn
  have d6 : bm ≠ bfi := fun e => by subst e; rw [hm] at hf; cases hf
  refine fnv (args := _) mixed [] [] [] Tryd.func19 rfl (by kernel_rfl) ?_
  conv => whnf
  refine ⟨_, loadC0 aggInt hn rfl, ?_⟩
  conv => whnf
  first | refine ov_i64 (by omega) ?_ | refine ov_u64 (by omega) ?_ | refine ov_i64 (by decide) ?_ | refine ov_u64 (by decide) ?_ | refine ov_u8 (by omega) ?_ | refine ov_i32 (by omega) ?_ | refine ov_u32 (by omega) ?_
  conv => whnf
  refine wr_intro (by exact storeC0 (z := .int .i64 (n + 1)) intS hn (Nat.zero_lt_succ _) rfl rfl) (fun H1 at_H1 ot_H1 => ?_)
  try (conv => whnf)
  have f1 := (ot_H1 bfi d3).trans hf
  have l1 := (ot_H1 bl d1.symm).trans hl
  have w1 : WdAt H1 bw x := (ot_H1 bw d5).trans hw
  refine ⟨_, loadC0 aggBool f1 rfl, ?_⟩
  conv => whnf
  refine ⟨_, loadC0 aggInt l1 rfl, ?_⟩
  conv => whnf
  refine bsel_true ?_ ?_
  · simp; omega
  conv => whnf
  refine bsel_true ?_ ?_
  · simp; omega
  conv => whnf
  refine need_intro (by omega) ?_
  conv => whnf
  refine ⟨_, loadC1 (i := j) u64A w1 (wC_get x hj), ?_⟩
  conv => whnf
  refine bsel_true ?_ ?_
  · simp
  conv => whnf
  refine wr_intro (by exact storeC0 (z := .bool (x j != 0)) boolS f1 (Nat.zero_lt_succ _) rfl rfl) (fun H2 at_H2 ot_H2 => ?_)
  try (conv => whnf)
  have e3 : (x j != 0) = true := by simp [h3]
  rw [e3] at at_H2
  refine wr_intro (by exact storeC0 (z := .int .i64 j) intS ((ot_H2 bl d4.symm).trans l1) (Nat.zero_lt_succ _) rfl rfl) (fun H3 at_H3 ot_H3 => ?_)
  try (conv => whnf)
  have n3 : H3 bn = some (rowO 3 [.int .i64 (n + 1)]) := (ot_H3 bn d1).trans ((ot_H2 bn d3.symm).trans at_H1)
  refine ⟨_, loadC0 aggInt n3 rfl, ?_⟩
  conv => whnf
  refine ⟨_, loadC0 aggInt ((ot_H3 bm d2.2).trans ((ot_H2 bm d6).trans ((ot_H1 bm d2.1).trans hm))) rfl, ?_⟩
  conv => whnf
  refine kq (hk H3 n3 ((ot_H3 bfi d4).trans at_H2) at_H3 fun c c1 c2 c3 => (ot_H3 c c3).trans ((ot_H2 c c2).trans (ot_H1 c c1))) (bI ?_)
  rw [Bool.eq_iff_iff]; simp
/-- What is kept while registers are told. -/
structure Kp (w0 H : Hp) (bw bm bf bp : Nat) (x y : Nat → Int) (most : Int) : Prop where
  le : w0.le H
  w : WdAt H bw x
  m : H bm = some (rowO 3 [.int .i64 most])
  f : FlAt H bf y
  p : H bp = some (rowO 45 [.pointer (some ⟨bf, 0, none⟩)])
theorem Kp.keep {w0 H H' : Hp} {bw bm bf bp : Nat} {x y : Nat → Int} {most : Int} (k : Kp w0 H bw bm bf bp x y most) (hk : ∀ c o, H c = some o → (c = bw ∨ c = bm ∨ c = bf ∨ c = bp ∨ w0 c ≠ none) → H' c = some o) : Kp w0 H' bw bm bf bp x y most :=
  ⟨fun c o e => hk c o (k.le c o e) (.inr (.inr (.inr (.inr (by rw [e]; simp))))), hk _ _ k.w (.inl rfl), hk _ _ k.m (.inr (.inl rfl)), hk _ _ k.f (.inr (.inr (.inl rfl))), hk _ _ k.p (.inr (.inr (.inr (.inl rfl))))⟩
theorem Kp.up {w0 H H' : Hp} {bw bm bf bp : Nat} {x y : Nat → Int} {most : Int} (k : Kp w0 H bw bm bf bp x y most) (hle : H.le H') : Kp w0 H' bw bm bf bp x y most := k.keep fun c o e _ => hle c o e
/-- How it stands behind some registers. -/
structure Is (w0 H : Hp) (bw bm bf bp bn bfi bl : Nat) (x y : Nat → Int) (most : Int) (j : Nat) : Prop where
  k : Kp w0 H bw bm bf bp x y most
  n : H bn = some (rowO 3 [.int .i64 (cnt y j)])
  fi : H bfi = some (rowO 4 [.bool true])
  l : ∃ last : Int, H bl = some (rowO 3 [.int .i64 last]) ∧ (last < j ∨ last = 0)
  wants : most ≤ 0 ∨ (cnt y j : Int) < most
structure Ds (w0 H : Hp) (bw bm bf bp bn bfi : Nat) (x y : Nat → Int) (most : Int) : Prop where
  k : Kp w0 H bw bm bf bp x y most
  n : H bn = some (rowO 3 [.int .i64 most])
  fi : H bfi = some (rowO 4 [.bool true])
  few : 0 < most ∧ most ≤ cnt y 32
theorem some_law (x : Nat → Int) (most : Int) (w0 : Hp) : X Tryd.prog 6 #[.agg (wC x).toArray, .int .i64 most] w0 fun v h' => v = .bool true ∧ w0.le h' := by
  refine fnv (args := _) mixed [] [] [] Tryd.func6 rfl (by kernel_rfl) ?_
  conv => whnf
  refine new_intro (o := rowO 31 (wC x)) (fun bw H1 n_bw le_bw at_bw ot_bw => ?_)
  conv => whnf
  refine new_intro (o := rowO 3 [.int .i64 most]) (fun bm H2 n_bm le_bm at_bm ot_bm => ?_)
  conv => whnf
  refine setNil_x _ _ ?_
  conv => whnf
  refine getNil_x _ ?_
  conv => whnf
  refine wordsNil_x ?_
  conv => whnf
  refine big_by buildWs ?_
  conv => whnf
  refine must.mk (by kernel_rfl) ?_
  rw [eqWords, eqX_refl]
  conv => whnf
  refine some_x _ _ (fun bz H3 n_bz le_bz at_bz ot_bz => ?_) rfl
  conv => whnf
  have hw3 : WdAt H3 bw x := le_bz _ _ (le_bm _ _ at_bw)
  refine ⟨_, loadA0 waA waS hw3 (wC_length _), ?_⟩
  conv => whnf
  refine of_x x ?_
  conv => whnf
  refine new_intro (o := rowO 34 (List.replicate 32 (.int .u64 0))) (fun bf H4 n_bf le_bf at_bf ot_bf => ?_)
  conv => whnf
  refine wr_intro (by exact storeA0 (z := .agg (wC (zero0 x)).toArray) flS at_bf rfl (wC_length _) (wC_one _)) (fun H5 at_H5 ot_H5 => ?_)
  try (conv => whnf)
  refine some_x _ _ (fun bp H6 n_bp le_bp at_bp ot_bp => ?_) rfl
  have h3 : w0.le H3 := Hp.le_trans le_bw (Hp.le_trans le_bm le_bz)
  have hm3 : H3 bm = some (rowO 3 [.int .i64 most]) := le_bz _ _ at_bm
  have le35 : H3.le H5 := Hp.le_st n_bf le_bf ot_H5
  have hy : ∀ j, j ≠ 0 → zero0 x j = x j := fun j hj => if_neg hj
  have hy0 : zero0 x 0 = 0 := rfl
  have k6 : Kp w0 H6 bw bm bf bp x (zero0 x) most := ⟨Hp.le_trans h3 (Hp.le_trans le35 le_bp), le_bp _ _ (le35 _ _ hw3), le_bp _ _ (le35 _ _ hm3), le_bp _ _ at_H5, at_bp⟩
  have z6 : H6 bz = some (rowO 45 [.pointer none]) := le_bp _ _ (le35 _ _ at_bz)
  clear at_H5 ot_H5 le_bf n_bf ot_bf at_bf le_bp n_bp ot_bp at_bp h3 hm3 le35 hw3 n_bz le_bz at_bz ot_bz le_bm n_bm at_bm ot_bm le_bw n_bw ot_bw at_bw
  generalize zero0 x = y at *
  conv => whnf
  refine new_intro (o := rowO 4 [.bool false]) (fun bs H7 n_bs le_bs at_bs ot_bs => ?_)
  conv => whnf
  refine wr_intro (by exact storeC0 (z := .bool false) boolS at_bs (Nat.zero_lt_succ _) rfl rfl) (fun H8 at_H8 ot_H8 => ?_)
  try (conv => whnf)
  have le8 : H6.le H8 := Hp.le_st n_bs le_bs ot_H8
  have k8 := k6.up le8
  refine each_x (by kernel_rfl) (pf := .pointer none) (fun _ => 0) (fun _ H => Kp w0 H bw bm bf bp x y most ∧ H bz = some (rowO 45 [.pointer none]) ∧ H bs = some (rowO 4 [.bool false])) (fun _ => False) (fun j h hI => hI.2.1) (fun j h K _ _ hK => getNil_x _ hK) (fun j h _ _ hI => hI) (fun j h K _ hne => absurd rfl hne) _ _ ⟨k8, le8 _ _ z6, at_H8⟩ (fun H9 hI => ?_)
  have hI := hI.resolve_right id
  obtain ⟨k9, _, s9⟩ := hI
  clear k8 le8 at_H8 ot_H8 le_bs n_bs at_bs ot_bs z6 k6
  conv => whnf
  refine ⟨_, loadC0 aggBool s9 rfl, ?_⟩
  conv => whnf
  refine new_intro (o := rowO 3 [.int .i64 0]) (fun bn HA n_bn le_bn at_bn ot_bn => ?_)
  conv => whnf
  refine new_intro (o := rowO 3 [.int .i64 0]) (fun bl HB n_bl le_bl at_bl ot_bl => ?_)
  conv => whnf
  have dnl : bn ≠ bl := fun e => by subst e; rw [at_bn] at n_bl; cases n_bl
  have lb := Hp.le_trans le_bn le_bl
  have kB := k9.up lb
  have nwn : ∀ c o, H9 c = some o → c ≠ bn ∧ c ≠ bl := fun c o e => ⟨Hp.ne n_bn e, Hp.ne n_bl (le_bn _ _ e)⟩
  refine wr_intro (by exact storeC0 (z := .int .i64 0) intS (le_bl _ _ at_bn) (Nat.zero_lt_succ _) rfl rfl) (fun HC at_HC ot_HC => ?_)
  try (conv => whnf)
  refine wr_intro (by exact storeC0 (z := .int .i64 0) intS ((ot_HC bl dnl.symm).trans at_bl) (Nat.zero_lt_succ _) rfl rfl) (fun HD at_HD ot_HD => ?_)
  try (conv => whnf)
  have le9D : H9.le HD := fun c o e => by
    obtain ⟨c1, c2⟩ := nwn c o e
    rw [ot_HD c c2, ot_HC c c1]; exact lb _ _ e
  have nD : HD bn = some (rowO 3 [.int .i64 0]) := (ot_HD bn dnl).trans at_HC
  have lD : HD bl = some (rowO 3 [.int .i64 0]) := at_HD
  have dm : bm ≠ bn ∧ bm ≠ bl := nwn _ _ k9.m
  have dk : ∀ c o, H9 c = some o → c ≠ bn ∧ c ≠ bl := nwn
  clear at_HC ot_HC at_HD ot_HD kB lb le_bl n_bl at_bl ot_bl le_bn n_bn at_bn ot_bn nwn
  refine new_intro (o := rowO 4 [.bool false]) (fun bfi HE n_bfi le_bfi at_bfi ot_bfi => ?_)
  conv => whnf
  refine wr_intro (by exact storeC0 (z := .bool true) boolS at_bfi (Nat.zero_lt_succ _) rfl rfl) (fun HF at_HF ot_HF => ?_)
  try (conv => whnf)
  have leDF : HD.le HF := Hp.le_st n_bfi le_bfi ot_HF
  have kF := k9.up (Hp.le_trans le9D leDF)
  have nF := leDF _ _ nD
  have lF := leDF _ _ lD
  have dfi : ∀ c o, H9 c = some o → c ≠ bn ∧ c ≠ bl ∧ c ≠ bfi := fun c o e => ⟨(dk c o e).1, (dk c o e).2, Hp.ne n_bfi (le9D _ _ e)⟩
  have kk : ∀ H H' : Hp, Kp w0 H bw bm bf bp x y most → (∀ c, c ≠ bn → c ≠ bfi → c ≠ bl → H' c = H c) → Kp w0 H' bw bm bf bp x y most := fun H H' k hh => k.keep fun c o e hc => by
    have : ∃ o, H9 c = some o := by
      rcases hc with rfl | rfl | rfl | rfl | hc
      · exact ⟨_, k9.w⟩
      · exact ⟨_, k9.m⟩
      · exact ⟨_, k9.f⟩
      · exact ⟨_, k9.p⟩
      · cases h0 : w0 c with
        | none => exact absurd h0 hc
        | some o => exact ⟨o, k9.le _ _ h0⟩
    obtain ⟨o', e'⟩ := this
    obtain ⟨c1, c2, c3⟩ := dfi c o' e'
    rw [hh c c1 c3 c2]; exact e
  clear leDF le9D le_bfi n_bfi at_bfi ot_bfi ot_HF nD lD
  refine each_x (by kernel_rfl) (pf := .pointer (some ⟨bf, 0, none⟩)) y (fun j H => Is w0 H bw bm bf bp bn bfi bl x y most j) (fun H => Ds w0 H bw bm bf bp bn bfi x y most) (fun j h hI => hI.k.p)
    (fun j h K hj hI hK => get_x hI.k.f _ (kq hK (iI (by unfold getI; rw [if_pos (by omega)]; simp)))) (fun j h hj h0 hI => ?_) (fun j h K hj hne hI hyes hno => ?_) _ _ ⟨kF, nF, at_HF, ⟨0, lF, .inr rfl⟩, by show most ≤ 0 ∨ ((0 : Nat) : Int) < most; omega⟩ (fun HG hG => ?_)
  · have e := cnt_succ y j
    rw [if_neg (by simpa using h0), Nat.add_zero] at e
    obtain ⟨last, l1, l2⟩ := hI.l
    exact ⟨hI.k, by rw [e]; exact hI.n, hI.fi, ⟨last, l1, by omega⟩, by rw [e]; exact hI.wants⟩
  · have e := cnt_succ y j
    rw [if_pos hne] at e
    have hj0 : j ≠ 0 := fun e => by subst e; exact hne hy0
    have hc := cnt_le y j
    obtain ⟨last, l1, l2⟩ := hI.l
    have ex := hy j hj0
    rw [ex] at hne ⊢
    refine told_x hj h K hI.n hI.fi l1 hI.k.w hI.k.m (by omega) (by omega) hne dnl dm (fun H q1 q2 q3 q4 => ?_)
    by_cases hm : (cnt y j : Int) + 1 = most
    · rw [decide_eq_false (fun hh => hh hm)]
      exact hno H ⟨kk _ _ hI.k q4, by rw [← hm]; exact q1, q2, by have := cnt_mono y (show j + 1 ≤ 32 by omega); omega⟩
    · rw [decide_eq_true hm]
      exact hyes H ⟨kk _ _ hI.k q4, by rw [e]; exact q1, q2, ⟨j, q3, by omega⟩, by have := hI.wants; omega⟩
  have done : ∃ n : Int, Kp w0 HG bw bm bf bp x y most ∧ HG bn = some (rowO 3 [.int .i64 n]) ∧ HG bfi = some (rowO 4 [.bool true]) ∧ n = if 0 < most ∧ most < cnt y 32 then most else cnt y 32 := by
    rcases hG with hG | hG
    · exact ⟨_, hG.k, hG.n, hG.fi, by have := hG.wants; split <;> omega⟩
    · exact ⟨_, hG.k, hG.n, hG.fi, by have := hG.few; split <;> omega⟩
  obtain ⟨n, kG, nG, fG, en⟩ := done
  have hc32 := cnt_le y 32
  clear hG kk dfi nF lF kF dk k9 s9 at_HF
  conv => whnf
  refine loop_at [14, 13] [] (fun r vs _ h' => h' = HG ∧ ∃ j : Nat, 1 ≤ j ∧ j ≤ 32 ∧ r = 32 - j ∧ vs = [.v (.int .i64 j), .v (.int .i64 (cnt y j))]) 31 ⟨rfl, 1, by omega, by omega, by omega, ?_⟩ ?_
  · have : cnt y 1 = 0 := by rw [cnt_succ, if_neg (by simpa using hy0)]; rfl
    rw [this]; rfl
  rintro r vs cs mm bx _ ⟨rfl, j, hj1, hj, rfl, rfl⟩
  conv => whnf
  refine bsel_intro (fun q1 => ?_) (fun q1 => ?_) <;> try simp only [decide_eq_true_eq, decide_eq_false_iff_not, beq_iff_eq, beq_eq_false_iff_ne, ne_eq, Bool.not_eq_true', Bool.not_eq_false', bne_iff_ne, bne_eq_false_iff_eq, Bool.not_eq_true, Bool.not_eq_false, Bool.and_eq_true, Bool.or_eq_true, bs_size] at q1
  · have hj32 : j < 32 := by omega
    have e := cnt_succ y j
    have hc := cnt_le y j
    rw [hy j (by omega)] at e
    conv => whnf
    refine need_intro (by omega) ?_
    conv => whnf
    refine ⟨_, loadC1 (i := j) u64A kG.w (wC_get x hj32), ?_⟩
    conv => whnf
    refine bsel_intro (fun q2 => ?_) (fun q2 => ?_) <;> try simp only [decide_eq_true_eq, decide_eq_false_iff_not, beq_iff_eq, beq_eq_false_iff_ne, ne_eq, Bool.not_eq_true', Bool.not_eq_false', bne_iff_ne, bne_eq_false_iff_eq, Bool.not_eq_true, Bool.not_eq_false, Bool.and_eq_true, Bool.or_eq_true, bs_size] at q2
    · rw [if_pos q2] at e
      conv => whnf
      first | refine ov_i64 (by omega) ?_ | refine ov_u64 (by omega) ?_ | refine ov_i64 (by decide) ?_ | refine ov_u64 (by decide) ?_ | refine ov_u8 (by omega) ?_ | refine ov_i32 (by omega) ?_ | refine ov_u32 (by omega) ?_
      conv => whnf
      first | refine ov_i64 (by omega) ?_ | refine ov_u64 (by omega) ?_ | refine ov_i64 (by decide) ?_ | refine ov_u64 (by decide) ?_ | refine ov_u8 (by omega) ?_ | refine ov_i32 (by omega) ?_ | refine ov_u32 (by omega) ?_
      conv => whnf
      exact ⟨32 - (j + 1), by omega, rfl, j + 1, by omega, by omega, rfl, by rw [e]; rfl⟩
    · rw [if_neg (fun hh => hh q2)] at e
      conv => whnf
      first | refine ov_i64 (by omega) ?_ | refine ov_u64 (by omega) ?_ | refine ov_i64 (by decide) ?_ | refine ov_u64 (by decide) ?_ | refine ov_u8 (by omega) ?_ | refine ov_i32 (by omega) ?_ | refine ov_u32 (by omega) ?_
      conv => whnf
      exact ⟨32 - (j + 1), by omega, rfl, j + 1, by omega, by omega, rfl, by rw [e]; rfl⟩
  · obtain rfl : j = 32 := by omega
    conv => whnf
    refine ⟨_, loadC0 aggInt kG.m rfl, ?_⟩
    conv => whnf
    refine bsel_intro (fun q2 => ?_) (fun q2 => ?_) <;> try simp only [decide_eq_true_eq, decide_eq_false_iff_not, beq_iff_eq, beq_eq_false_iff_ne, ne_eq, Bool.not_eq_true', Bool.not_eq_false', bne_iff_ne, bne_eq_false_iff_eq, Bool.not_eq_true, Bool.not_eq_false, Bool.and_eq_true, Bool.or_eq_true, bs_size] at q2
    · conv => whnf
      refine ⟨_, loadC0 aggInt kG.m rfl, ?_⟩
      conv => whnf
      refine bsel_intro (fun q3 => ?_) (fun q3 => ?_) <;> try simp only [decide_eq_true_eq, decide_eq_false_iff_not, beq_iff_eq, beq_eq_false_iff_ne, ne_eq, Bool.not_eq_true', Bool.not_eq_false', bne_iff_ne, bne_eq_false_iff_eq, Bool.not_eq_true, Bool.not_eq_false, Bool.and_eq_true, Bool.or_eq_true, bs_size] at q3
      · rw [if_pos ⟨q2, q3⟩] at en
        conv => whnf
        refine ⟨_, loadC0 aggInt kG.m rfl, ?_⟩
        conv => whnf
        refine ⟨_, loadC0 aggBool fG rfl, ?_⟩
        conv => whnf
        refine ⟨_, loadC0 aggInt nG rfl, ?_⟩
        conv => whnf
        refine bsel_true ?_ ?_
        · simp [en]
        conv => whnf
        refine live_x ?_
        conv => whnf
        exact ⟨rfl, kG.le⟩
      · rw [if_neg (fun hh => q3 hh.2)] at en
        conv => whnf
        refine ⟨_, loadC0 aggBool fG rfl, ?_⟩
        conv => whnf
        refine ⟨_, loadC0 aggInt nG rfl, ?_⟩
        conv => whnf
        refine bsel_true ?_ ?_
        · simp [en]
        conv => whnf
        refine live_x ?_
        conv => whnf
        exact ⟨rfl, kG.le⟩
    · rw [if_neg (fun hh => q2 hh.1)] at en
      conv => whnf
      refine ⟨_, loadC0 aggBool fG rfl, ?_⟩
      conv => whnf
      refine ⟨_, loadC0 aggInt nG rfl, ?_⟩
      conv => whnf
      refine bsel_true ?_ ?_
      · simp [en]
      conv => whnf
      refine live_x ?_
      conv => whnf
      exact ⟨rfl, kG.le⟩
theorem regsSome_w {cs0 cs1 : List Value} (w : World) (w0 : Wf (whole w) (.array 32 (.int .u64)) cs0) (_ : cs0.length = 32) (w1 : Wf (whole w) (.int .i64) cs1) (_ : cs1.length = 1) :
    X Tryd.prog 6 #[.agg cs0.toArray, cs1.headD undef] (whole w) fun v h' => v = .bool true ∧ (whole w).le h' := by
  obtain ⟨x, rfl⟩ := words_of w0
  unfold Wf at w1
  obtain ⟨n, rfl, _⟩ := w1
  exact some_law x n _
end
end Go.Proofs.YtcapmnambpgemaaDoor
