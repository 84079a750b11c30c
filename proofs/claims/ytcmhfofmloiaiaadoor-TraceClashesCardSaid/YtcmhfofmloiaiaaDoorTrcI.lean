/-
  Clashes: the statement's function.
-/
import Derived.Test.YtcmhfofmloiaiaaDoorTrcH
import Derived.Test.YtcmhfofmloiaiaaDoorRows
namespace Go.Proofs.YtcmhfofmloiaiaaDoor
set_option linter.unusedSimpArgs false
set_option linter.unusedVariables false
open Go Go.Mid Go.RowKit
attribute [local irreducible] mid
section
set_option maxHeartbeats 8000000
set_option maxRecDepth 10000
variable {h : Hp} {K : Value → Hp → Prop}
abbrev pc (p : Nat × Nat) : List Value := [.int .i64 p.1, .int .i64 p.2]
abbrev pv (p : Nat × Nat) : Value := .agg (pc p).toArray
theorem flat_le {α β : Type} {f : α → List β} {n : Nat} (hf : ∀ x, (f x).length ≤ n) : ∀ l : List α, (l.flatMap f).length ≤ l.length * n
  | [] => by simp
  | x :: l => by
    have h1 := hf x
    have h2 := flat_le hf l
    rw [List.flatMap_cons, List.length_append, List.length_cons, Nat.succ_mul]
    omega
theorem rowUp_len (L : List Ev) (i k : Nat) : (rowUp L i k).length ≤ k := by
  unfold rowUp
  rw [List.length_map]
  exact Nat.le_trans (List.length_filter_le _ _) (by simp)
theorem wantL_len {L : List Ev} (hL : L.length ≤ 60) : (wantL L).length ≤ 3600 := by
  have := flat_le (f := fun j => rowUp L j L.length) (fun j => rowUp_len L j L.length) (List.range L.length)
  rw [List.length_range] at this
  exact Nat.le_trans this (Nat.le_trans (Nat.mul_le_mul hL hL) (by omega))
theorem pre_len {L : List Ev} {i k : Nat} (hL : L.length ≤ 60) (hi : i < L.length) (hk : k ≤ L.length) : (pre L i k).length ≤ 3600 :=
  Nat.le_trans (pre_want hi hk).length_le (wantL_len hL)
theorem aggW : isAggT Tryd.prog 27 = some false := by kernel_rfl
theorem sizW : sizeT Tryd.prog 27 = some 1 := by kernel_rfl
theorem agg2 : isAggT Tryd.prog 43 = some true := by kernel_rfl
theorem siz2 : sizeT Tryd.prog 43 = some 2 := by kernel_rfl
theorem inf2 : Tryd.prog.info? 43 = some Tryd.prog.types[43] := by kernel_rfl
theorem aggIt : isAggT Tryd.prog 3 = some false := by kernel_rfl
theorem sizIt : sizeT Tryd.prog 3 = some 1 := by kernel_rfl
/-- The pairs that are wanted, as they grow: in block w, beside what k knows. -/
def Wt (k h : Hp) (w : Nat) (ps : List (Nat × Nat)) : Prop := ∃ s ob, h w = some (rowO 27 [s]) ∧ Gr h 43 2 s ps.length (ps.flatMap pc) ob ∧ k.le h ∧ k w = none ∧ ∀ c, ob = some c → c ≠ w ∧ k c = none
theorem Wt.le {k h : Hp} {w : Nat} {xs : List (Nat × Nat)} (hw : Wt k h w xs) : k.le h := by
  obtain ⟨s, ob, _, _, hle, _⟩ := hw
  exact hle
/-- A block of a pair, laid; then it is appended and the slice put back. -/
theorem Wt.push {k h1 h2 : Hp} {w : Nat} {xs : List (Nat × Nat)} {s' : Value} {ob' : Option Nat} {p : Nat × Nat} {x : Obj} {ob : Option Nat} (hx : h1 w = some x) (h3 : k.le h1) (h4 : k w = none) (h5 : ∀ c, ob = some c → c ≠ w ∧ k c = none)
    (hg : Gr h2 43 2 s' (xs.length + 1) (xs.flatMap pc ++ pc p) ob') (ht : Turn h1 h2 ob ob') {H : Hp} (at_H : H w = some (rowO 27 [s'])) (ot_H : ∀ c, c ≠ w → H c = h2 c) : Wt k H w (xs ++ [p]) := by
  have hkeep := ht.keep hx (fun c hc => (h5 c hc).1)
  have hle := ht.le h3 (fun c hc => (h5 c hc).2)
  have hgH : H = h2.set w (rowO 27 [s']) := Hp.eq_set at_H ot_H
  refine ⟨s', ob', at_H, ?_, ?_, h4, fun c hc => ⟨hkeep.2 c hc, hle.2 c hc⟩⟩
  · rw [hgH, List.flatMap_append, List.length_append]
    have := hg.set (o := rowO 27 [s']) (fun c hc => hkeep.2 c hc)
    simpa using this
  · rw [hgH]; exact Hp.le_keep hle.1 h4
theorem Wt.rd {k h : Hp} {w : Nat} {xs : List (Nat × Nat)} (hw : Wt k h w xs) : ∃ s, h w = some (rowO 27 [s]) ∧ Rd Tryd.prog 43 2 h s (xs.map pv) := by
  obtain ⟨s, ob, h1, g, _⟩ := hw
  exact ⟨s, h1, Gr.rdN (f := pc) agg2 siz2 (fun _ => rfl) g⟩
theorem rd2 {s : Value} {ps : List (Nat × Nat)} (r : Rd Tryd.prog 43 2 h s (ps.map pv)) : ∃ base cap, s = .slice base ps.length cap ∧ ∀ (i : Nat) (x : Nat × Nat), ps[i]? = some x → ∃ a, base = some a ∧ loadH Tryd.prog 43 h (a.add (((i : Int)).toNat * 2)) = some (pv x) := by
  obtain ⟨base, cap, e, f⟩ := r
  refine ⟨base, cap, by rw [e]; simp, fun i x hx => ?_⟩
  rw [Int.toNat_natCast]
  refine f i _ ?_
  rw [List.getElem?_map, hx]; rfl
theorem eq2 (a b c d : Int) : eqW Tryd.prog 10000 43 (.agg #[.int .i64 a, .int .i64 b]) (.agg #[.int .i64 c, .int .i64 d]) = some ((a == c) && ((b == d) && true)) := by kernel_rfl
theorem cloT_x (bf bn bw bm : Nat) (s : Value) (ps : List (Nat × Nat)) (i k m : Nat) (most : Int) (hx : ps[m]? = some (i, k)) (hr : Rd Tryd.prog 43 2 h s (ps.map pv)) (hL : ps.length ≤ 2 ^ 20)
    (f1 : h bf = some (rowO 4 [.bool true])) (f2 : h bn = some (rowO 3 [.int .i64 m])) (f3 : h bw = some (rowO 27 [s])) (f4 : h bm = some (rowO 3 [.int .i64 most])) (d1 : bm ≠ bn)
    (hk : ∀ h', h' bf = some (rowO 4 [.bool true]) → h' bn = some (rowO 3 [.int .i64 (m + 1 : Nat)]) → (∀ c, c ≠ bf → c ≠ bn → h' c = h c) → K (.bool (decide (((m + 1 : Nat) : Int) ≠ most))) h') :
    X Tryd.prog 7 #[.int .i64 i, .int .i64 k, .pointer (some ⟨bf, 0, none⟩), .pointer (some ⟨bn, 0, none⟩), .pointer (some ⟨bw, 0, none⟩), .pointer (some ⟨bm, 0, none⟩)] h K := by
  obtain ⟨base, cap, es, f⟩ := rd2 hr
  subst es
  obtain ⟨a, rfl, e1⟩ := f m _ hx
  have hi : m < ps.length := (List.getElem?_eq_some_iff.1 hx).1
  have ne : ∀ (t1 t2 : TypeId) (u v : Nat) (l1 l2 : List Value), t1 ≠ t2 → h u = some (rowO t1 l1) → h v = some (rowO t2 l2) → u ≠ v := fun t1 t2 u v l1 l2 ht h1 h2 e => by
    subst e; rw [h1] at h2; cases h2; exact ht rfl
  have d2 : bn ≠ bf := ne _ _ _ _ _ _ (by decide) f2 f1
  have d3 : bm ≠ bf := ne _ _ _ _ _ _ (by decide) f4 f1
  refine fnv (args := _) mixed [] [] [] Tryd.func7 rfl (by kernel_rfl) ?_
  conv => whnf
  refine ⟨_, loadC0 aggBo f1 rfl, ?_⟩
  conv => whnf
  refine ⟨_, loadC0 aggIt f2 rfl, ?_⟩
  conv => whnf
  refine ⟨_, loadC0 aggW f3 rfl, ?_⟩
  conv => whnf
  refine bsel_true ?_ ?_
  · simp; omega
  conv => whnf
  refine ⟨_, loadC0 aggW f3 rfl, ?_⟩
  conv => whnf
  refine ⟨_, loadC0 aggIt f2 rfl, ?_⟩
  conv => whnf
  first | refine need_intro (⟨by omega, by omega⟩) ?_ | refine must.mk (⟨by omega, by omega⟩) ?_
  conv => whnf
  refine ⟨_, e1, ?_⟩
  conv => whnf
  refine must_via (b := true) (by kernel_rfl) ((eq2 _ _ _ _).trans (by simp)) ?_
  conv => whnf
  refine wr_intro (by exact storeC0 sizBo f1 (Nat.zero_lt_succ 0) rfl rfl) (fun H1 at_H1 ot_H1 => ?_)
  try (conv => whnf)
  have g1 : H1 bf = some (rowO 4 [.bool true]) := at_H1
  have g2 := (ot_H1 bn d2).trans f2
  have g4 := (ot_H1 bm d3).trans f4
  conv => whnf
  refine ⟨_, loadC0 aggIt g2 rfl, ?_⟩
  conv => whnf
  first | refine ov_i64 (by omega) ?_ | refine ov_u64 (by omega) ?_ | refine ov_i64 (by decide) ?_ | refine ov_u64 (by decide) ?_ | refine ov_u8 (by omega) ?_ | refine ov_i32 (by omega) ?_ | refine ov_u32 (by omega) ?_
  conv => whnf
  refine wr_intro (by exact storeC0 sizIt g2 (Nat.zero_lt_succ 0) rfl rfl) (fun H2 at_H2 ot_H2 => ?_)
  try (conv => whnf)
  have k1 := (ot_H2 bf (Ne.symm d2)).trans g1
  have k2 : H2 bn = some (rowO 3 [.int .i64 (m + 1 : Nat)]) := at_H2.trans (by
    show some (rowO 3 [.int .i64 ((m : Int) + 1)]) = _
    rw [show ((m + 1 : Nat) : Int) = (m : Int) + 1 by omega])
  have k4 := (ot_H2 bm d1).trans g4
  have hK := hk H2 k1 k2 fun c c1 c2 => by rw [ot_H2 c c2, ot_H1 c c1]
  conv => whnf
  refine ⟨_, loadC0 aggBo k1 rfl, ?_⟩
  conv => whnf
  refine ⟨_, loadC0 aggIt k2 rfl, ?_⟩
  conv => whnf
  refine ⟨_, loadC0 aggIt k4 rfl, ?_⟩
  conv => whnf
  exact kq hK (bI (by rw [Bool.eq_iff_iff]; simp))
/-- TraceClashes. -/
theorem tclashes_x (hp : Pow h) (s : Value) (L : List Ev) (most : Int) (hr : RdE h s L) (hok : ∀ e ∈ L, e.ok) (hk : ∀ h', h.le h' → K (.bool true) h') : X Tryd.prog 3 #[s, .int .i64 most] h K := by
  have hr0 := hr
  obtain ⟨base, cap, rfl, f⟩ := rdE_at hr0
  refine fnv (args := _) mixed [] [] [] Tryd.func3 rfl (by kernel_rfl) ?_
  conv => whnf
  refine new_intro (o := rowO 3 [.int .i64 most]) (fun m h1 n_m le_m at_m ot_m => ?_)
  conv => whnf
  refine bsel_intro (fun q0 => ?_) (fun q0 => ?_) <;> try simp only [decide_eq_true_eq, decide_eq_false_iff_not, beq_iff_eq, beq_eq_false_iff_ne, ne_eq, Bool.not_eq_true', Bool.not_eq_false', bne_iff_ne, bne_eq_false_iff_eq, Bool.not_eq_true, Bool.not_eq_false, Bool.and_eq_true, Bool.or_eq_true, bs_size] at q0
  · conv => whnf
    refine live46_x (hp.le le_m) ?_
    conv => whnf
    exact hk _ le_m
  have hL : L.length ≤ 60 := by omega
  conv => whnf
  refine clashes_x base L.length cap fun b h2 n_b le_b at_b ot_b => ?_
  have m2 := le_b m _ at_m
  have le2 := Hp.le_trans le_m le_b
  conv => whnf
  refine new_intro (o := rowO 27 [.slice none 0 0]) (fun w h3 n_w le_w at_w ot_w => ?_)
  conv => whnf
  have hW3 : Wt h2 h3 w (pre L 0 1) := by
    rw [pre_zero]
    exact ⟨_, none, at_w, Gr.nil, le_w, n_w, fun c hc => by cases hc⟩
  refine loop_at [7] [] (fun r vs cs h' => ∃ i : Nat, i ≤ L.length ∧ r = L.length - i ∧ vs = [.v (.int .i64 i)] ∧ Wt h2 h' w (pre L i (i + 1))) L.length ⟨0, by omega, by omega, rfl, hW3⟩ ?_
  clear hW3 at_w le_w
  rintro r vs cs mm bx h3 ⟨i, hi, rfl, rfl, hW3⟩
  conv => whnf
  refine bsel_intro (fun q1 => ?_) (fun q1 => ?_) <;> try simp only [decide_eq_true_eq, decide_eq_false_iff_not, beq_iff_eq, beq_eq_false_iff_ne, ne_eq, Bool.not_eq_true', Bool.not_eq_false', bne_iff_ne, bne_eq_false_iff_eq, Bool.not_eq_true, Bool.not_eq_false, Bool.and_eq_true, Bool.or_eq_true, bs_size] at q1
  · have hiL : i < L.length := by omega
    obtain ⟨ea, hea⟩ : ∃ e, L[i]? = some e := ⟨_, List.getElem?_eq_getElem hiL⟩
    have hao := hok ea (List.mem_of_getElem? hea)
    obtain ⟨a, rfl, l1⟩ := f i ea hea
    conv => whnf
    first | refine ov_i64 (by omega) ?_ | refine ov_u64 (by omega) ?_ | refine ov_i64 (by decide) ?_ | refine ov_u64 (by decide) ?_ | refine ov_u8 (by omega) ?_ | refine ov_i32 (by omega) ?_ | refine ov_u32 (by omega) ?_
    conv => whnf
    refine loop_at [8] [] (fun r vs cs h' => ∃ k : Nat, i + 1 ≤ k ∧ k ≤ L.length ∧ r = L.length - k ∧ vs = [.v (.int .i64 k)] ∧ Wt h2 h' w (pre L i k)) (L.length - (i + 1)) ⟨i + 1, by omega, by omega, by omega, rfl, hW3⟩ ?_
    rintro r vs cs mm bx h4 ⟨k, k1, k2, rfl, rfl, hW4⟩
    conv => whnf
    refine bsel_intro (fun q2 => ?_) (fun q2 => ?_) <;> try simp only [decide_eq_true_eq, decide_eq_false_iff_not, beq_iff_eq, beq_eq_false_iff_ne, ne_eq, Bool.not_eq_true', Bool.not_eq_false', bne_iff_ne, bne_eq_false_iff_eq, Bool.not_eq_true, Bool.not_eq_false, Bool.and_eq_true, Bool.or_eq_true, bs_size] at q2
    · have hkL : k < L.length := by omega
      obtain ⟨eb, heb⟩ : ∃ e, L[k]? = some e := ⟨_, List.getElem?_eq_getElem hkL⟩
      have hbo := hok eb (List.mem_of_getElem? heb)
      obtain ⟨_, ea2, l2⟩ := f k eb heb
      cases ea2
      have hcl := clN_at hea heb (show i < k by omega)
      have le4 := Hp.le_trans le2 hW4.le
      have l14 := loadH_le le4 l1
      have l24 := loadH_le le4 l2
      conv => whnf
      first | refine need_intro (⟨by omega, by omega⟩) ?_ | refine must.mk (⟨by omega, by omega⟩) ?_
      conv => whnf
      refine ⟨_, l14, ?_⟩
      conv => whnf
      first | refine need_intro (⟨by omega, by omega⟩) ?_ | refine must.mk (⟨by omega, by omega⟩) ?_
      conv => whnf
      refine ⟨_, l24, ?_⟩
      conv => whnf
      refine rclash_x ea eb hao hbo ?_
      refine ⟨trivial, ?_⟩
      conv => whnf
      have hps := pre_succ L i k
      have hpl := pre_len hL hiL k2
      refine bsel_intro (fun q3 => ?_) (fun q3 => ?_)
      · have hc : clN L i k = true := hcl.trans q3
        rw [if_pos hc] at hps
        obtain ⟨s4, ob4, w1, w2, w3, w4, w5⟩ := hW4
        conv => whnf
        refine ⟨_, loadC0 aggW w1 rfl, ?_⟩
        conv => whnf
        refine new_intro (o := rowO 43 [.int .i64 i, .int .i64 k]) (fun y h5 n_y le_y at_y ot_y => ?_)
        conv => whnf
        have w1' := le_y _ _ w1
        refine appOne (z := .agg #[.int .i64 0, .int .i64 0]) (by kernel_rfl) inf2 (by kernel_rfl) (by kernel_rfl) (by kernel_rfl) rfl (bytes := 16) (by decide) rfl rfl rfl (w2.le le_y) at_y rfl rfl (by omega) fun s6 h6 ob6 hg6 ht6 => ?_
        have hv := Gr.val hg6
        have hkp := ht6.keep w1' (fun c hc => (w5 c hc).1)
        conv => whnf
        refine wr_intro (by exact storeC0 sizW hkp.1 (Nat.zero_lt_succ 0) hv.1 hv.2) (fun h7 at_h7 ot_h7 => ?_)
        try (conv => whnf)
        have hW7 : Wt h2 h7 w (pre L i (k + 1)) := by
          rw [hps]
          exact Wt.push (p := (i, k)) w1' (Hp.le_trans w3 le_y) w4 w5 hg6 ht6 at_h7 ot_h7
        conv => whnf
        first | refine ov_i64 (by omega) ?_ | refine ov_u64 (by omega) ?_ | refine ov_i64 (by decide) ?_ | refine ov_u64 (by decide) ?_ | refine ov_u8 (by omega) ?_ | refine ov_i32 (by omega) ?_ | refine ov_u32 (by omega) ?_
        conv => whnf
        refine ⟨L.length - (k + 1), by omega, k + 1, by omega, by omega, rfl, rfl, hW7⟩
      · have hc : clN L i k = false := hcl.trans q3
        rw [if_neg (by simp [hc]), List.append_nil] at hps
        conv => whnf
        first | refine ov_i64 (by omega) ?_ | refine ov_u64 (by omega) ?_ | refine ov_i64 (by decide) ?_ | refine ov_u64 (by decide) ?_ | refine ov_u8 (by omega) ?_ | refine ov_i32 (by omega) ?_ | refine ov_u32 (by omega) ?_
        conv => whnf
        refine ⟨L.length - (k + 1), by omega, k + 1, by omega, by omega, rfl, rfl, ?_⟩
        rw [hps]; exact hW4
    · have : k = L.length := by omega
      subst this
      conv => whnf
      first | refine ov_i64 (by omega) ?_ | refine ov_u64 (by omega) ?_ | refine ov_i64 (by decide) ?_ | refine ov_u64 (by decide) ?_ | refine ov_u8 (by omega) ?_ | refine ov_i32 (by omega) ?_ | refine ov_u32 (by omega) ?_
      conv => whnf
      refine ⟨L.length - (i + 1), by omega, i + 1, by omega, rfl, rfl, ?_⟩
      rw [pre_next]; exact hW4
  have : i = L.length := by omega
  subst this
  rw [pre_end] at hW3
  have hwl := wantL_len hL
  obtain ⟨s3, w3, hr3⟩ := hW3.rd
  have le3 := hW3.le
  clear hW3
  obtain ⟨sb, sc, es, -⟩ := rd2 hr3
  have m3 := le3 _ _ m2
  have b3 := le3 _ _ at_b
  have e3 := hr.le (Hp.le_trans le2 le3)
  have le03 := Hp.le_trans le2 le3
  conv => whnf
  refine new_intro (o := rowO 3 [.int .i64 0]) (fun n h4 n_n le_n at_n ot_n => ?_)
  conv => whnf
  refine wr_intro (by exact storeC0 sizIt at_n (Nat.zero_lt_succ 0) rfl rfl) (fun h5 at_h5 ot_h5 => ?_)
  try (conv => whnf)
  conv => whnf
  refine new_intro (o := rowO 4 [.bool false]) (fun g h6 n_g le_g at_g ot_g => ?_)
  conv => whnf
  refine wr_intro (by exact storeC0 sizBo at_g (Nat.zero_lt_succ 0) rfl rfl) (fun h7 at_h7 ot_h7 => ?_)
  try (conv => whnf)
  have le35 : h3.le h5 := Hp.le_st n_n le_n ot_h5
  have n5 : h5 n = some (rowO 3 [.int .i64 0]) := at_h5
  have le57 : h5.le h7 := Hp.le_st n_g le_g ot_h7
  have n7 := le57 _ _ n5
  have g7 : h7 g = some (rowO 4 [.bool true]) := at_h7
  have dgn : n ≠ g := Hp.ne n_g n5
  have le9 : ∀ c o, h3 c = some o → h7 c = some o ∧ c ≠ n ∧ c ≠ g := fun c o e => ⟨le57 _ _ (le35 _ _ e), Hp.ne n_n e, Hp.ne n_g (le35 _ _ e)⟩
  obtain ⟨m7, dm1, dm2⟩ := le9 m _ m3
  obtain ⟨b7, db1, db2⟩ := le9 b _ b3
  obtain ⟨w7, dw1, dw2⟩ := le9 w _ w3
  conv => whnf
  refine X.mono (K := fun v h' => v = .tuple #[] ∧ ∃ q : Nat, q ≤ (wantL L).length ∧ (q = (wantL L).length ∨ (1 ≤ q ∧ (q : Int) = most)) ∧ (∀ j : Nat, 1 ≤ j → j < q → (j : Int) ≠ most) ∧ (q = (wantL L).length → (q : Int) ≠ most → ∀ j : Nat, 1 ≤ j → j ≤ q → (j : Int) ≠ most) ∧ h' g = some (rowO 4 [.bool true]) ∧ h' n = some (rowO 3 [.int .i64 q]) ∧ ∀ c, c ≠ g → c ≠ n → h' c = h7 c) ?_ ?_
  · refine clashes1_x _ b _ L (fun q h' => q ≤ (wantL L).length ∧ (∀ j : Nat, 1 ≤ j → j ≤ q → (j : Int) ≠ most) ∧ h' g = some (rowO 4 [.bool true]) ∧ h' n = some (rowO 3 [.int .i64 q]) ∧ ∀ c, c ≠ g → c ≠ n → h' c = h7 c) hL hok (fun q h' hi => ⟨(hi.2.2.2.2 b db2 db1).trans b7, e3.le fun c o e => ?_⟩) ⟨by omega, fun j _ _ => by omega, g7, n7, fun _ _ _ => rfl⟩ (fun q i k h' hx hi => ?_) (fun h' hi => ?_)
    · obtain ⟨e9, c1, c2⟩ := le9 c o e
      exact (hi.2.2.2.2 c c2 c1).trans e9
    · obtain ⟨i1, i2, i3, i4, i5⟩ := hi
      have hql : q < (wantL L).length := (List.getElem?_eq_some_iff.1 hx).1
      refine yv_x (by kernel_rfl) ?_
      refine cloT_x g n w m s3 (wantL L) i k q most hx (hr3.le fun c o e => ?_) (by omega) i3 i4 ((i5 w dw2 dw1).trans w7) ((i5 m dm2 dm1).trans m7) dm1 fun h'' j1 j2 j3 => ?_
      · obtain ⟨e9, c1, c2⟩ := le9 c o e
        exact (i5 c c2 c1).trans e9
      · refine ⟨_, rfl, fun hgo => ⟨by omega, fun j ja jb => ?_, j1, j2, fun c c1 c2 => by rw [j3 c c1 c2, i5 c c1 c2]⟩, fun hgo => ⟨rfl, q + 1, by omega, .inr ⟨by omega, ?_⟩, fun j ja jb => i2 j ja (by omega), fun _ hne => ?_, j1, j2, fun c c1 c2 => by rw [j3 c c1 c2, i5 c c1 c2]⟩⟩
        · by_cases hj : j = q + 1
          · subst hj; exact of_decide_eq_true hgo
          · exact i2 j ja (by omega)
        · have := of_decide_eq_false hgo
          exact Decidable.byContradiction fun hn => this hn
        · exact absurd (of_decide_eq_false hgo) (fun hh => hh hne)
    · obtain ⟨i1, i2, i3, i4, i5⟩ := hi
      exact ⟨rfl, (wantL L).length, Nat.le_refl _, .inl rfl, fun j ja jb => i2 j ja (by omega), fun _ _ => i2, i3, i4, i5⟩
  rintro v hh ⟨rfl, q, hq1, hq2, hq3, hq4, i1, i2, i3⟩
  have iw := (i3 w dw2 dw1).trans w7
  have im := (i3 m dm2 dm1).trans m7
  have hleh : h.le hh := fun c o e => by
    obtain ⟨e9, c1, c2⟩ := le9 c o (le03 c o e)
    exact (i3 c c2 c1).trans e9
  have hfin : K (.bool true) hh := hk hh hleh
  have hpow := hp.le hleh
  subst es
  have hw1 : 0 ≤ (wantL L).length := Nat.zero_le _
  have key : (0 < most ∧ most < (wantL L).length → (q : Int) = most) ∧ (¬ (0 < most ∧ most < (wantL L).length) → q = (wantL L).length) := by
    refine ⟨fun hh => ?_, fun hh => ?_⟩
    · rcases hq2 with e | e
      · by_cases hne : (q : Int) = most
        · exact hne
        · exact absurd (show ((most.toNat : Nat) : Int) = most by omega) (hq4 e hne most.toNat (by omega) (by omega))
      · exact e.2
    · rcases hq2 with e | ⟨e1, e2⟩
      · exact e
      · omega
  generalize (wantL L).length = wn at *
  clear le9 i3
  conv => whnf
  refine ⟨_, loadC0 aggW iw rfl, ?_⟩
  conv => whnf
  refine ⟨_, loadC0 aggIt im rfl, ?_⟩
  conv => whnf
  refine bsel_intro (fun qa => ?_) (fun qa => ?_) <;> try simp only [decide_eq_true_eq, decide_eq_false_iff_not, beq_iff_eq, beq_eq_false_iff_ne, ne_eq, Bool.not_eq_true', Bool.not_eq_false', bne_iff_ne, bne_eq_false_iff_eq, Bool.not_eq_true, Bool.not_eq_false, Bool.and_eq_true, Bool.or_eq_true, bs_size] at qa
  · conv => whnf
    refine ⟨_, loadC0 aggIt im rfl, ?_⟩
    conv => whnf
    refine bsel_intro (fun qb => ?_) (fun qb => ?_) <;> try simp only [decide_eq_true_eq, decide_eq_false_iff_not, beq_iff_eq, beq_eq_false_iff_ne, ne_eq, Bool.not_eq_true', Bool.not_eq_false', bne_iff_ne, bne_eq_false_iff_eq, Bool.not_eq_true, Bool.not_eq_false, Bool.and_eq_true, Bool.or_eq_true, bs_size] at qb
    · have hall := key.1 ⟨qa, qb⟩
      conv => whnf
      refine ⟨_, loadC0 aggIt im rfl, ?_⟩
      conv => whnf
      conv => whnf
      refine ⟨_, loadC0 aggBo i1 rfl, ?_⟩
      conv => whnf
      refine ⟨_, loadC0 aggIt i2 rfl, ?_⟩
      conv => whnf
      refine bsel_true ?_ ?_
      · simp [hall]
      conv => whnf
      refine live46_x hpow ?_
      conv => whnf
      exact hfin
    · have hall := key.2 (fun hh => qb hh.2)
      conv => whnf
      refine ⟨_, loadC0 aggBo i1 rfl, ?_⟩
      conv => whnf
      refine ⟨_, loadC0 aggIt i2 rfl, ?_⟩
      conv => whnf
      refine bsel_true ?_ ?_
      · simp [hall]
      conv => whnf
      refine live46_x hpow ?_
      conv => whnf
      exact hfin
  · have hall := key.2 (fun hh => qa hh.1)
    conv => whnf
    refine ⟨_, loadC0 aggBo i1 rfl, ?_⟩
    conv => whnf
    refine ⟨_, loadC0 aggIt i2 rfl, ?_⟩
    conv => whnf
    refine bsel_true ?_ ?_
    · simp [hall]
    conv => whnf
    refine live46_x hpow ?_
    conv => whnf
    exact hfin
theorem traceClashes_w (w : World) (hL : laidMetH Tryd.prog Rows.traceClashesRow.laid w) {cs0 cs1 : List Value} (w0 : Wf (whole w) (.slice shEv) cs0) (l0 : cs0.length = Sh.n (.slice shEv)) (w1 : Wf (whole w) (.int .i64) cs1) (l1 : cs1.length = Sh.n (.int .i64)) :
    X Tryd.prog 3 #[Sh.v (.slice shEv) cs0, Sh.v (.int .i64) cs1] (whole w) fun v h' => v = .bool true ∧ (whole w).le h' := by
  have hs := slice_of (P := Tryd.prog) (t := 42) (n := 65) (ok := Ev.ok) (cells := Ev.cs) aggEv sizEv (by decide) rfl (fun es hw => ev_of hw) w0
  obtain ⟨a, cap, L, rfl, _, hok, hL2⟩ := hs
  obtain ⟨k, rfl, _⟩ := wfI w1
  have hr : RdE (whole w) (.slice a L.length cap) L := ⟨a, cap, by rw [List.length_map], fun i v hv => by
    rw [List.getElem?_map] at hv
    cases hx : L[i]? with
    | none => rw [hx] at hv; cases hv
    | some x => rw [hx] at hv; cases hv; exact hL2 i x hx⟩
  exact tclashes_x (pow_of hL (by rfl)) (.slice a L.length cap) L k hr hok (fun h' hle => ⟨rfl, hle⟩)
end
end Go.Proofs.YtcmhfofmloiaiaaDoor
