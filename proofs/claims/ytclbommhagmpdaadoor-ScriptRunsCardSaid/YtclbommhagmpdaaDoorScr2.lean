/-
  The chapter's example: a script's text.
-/
import Derived.Test.YtclbommhagmpdaaDoorScr1
import Derived.Test.YtclbommhagmpdaaDoorShelf
namespace Go.Proofs.YtclbommhagmpdaaDoor
set_option linter.unusedSimpArgs false
set_option linter.unusedVariables false
open Go Go.Mid Go.RowKit
attribute [local irreducible] mid
section
set_option maxHeartbeats 8000000
set_option maxRecDepth 10000
variable {h : Hp} {K : Value → Hp → Prop}
theorem w99_x (a b : Int) (hk : K (.bool (decide (1 ≤ a ∧ a ≤ b))) h) : X Tryd.prog 99 #[.int .i64 a, .int .i64 b] h K := by
  refine fnv (args := _) mixed [] [] [] Tryd.func99 rfl (by kernel_rfl) ?_
  conv => whnf
  refine bsel_intro (fun q1 => ?_) (fun q1 => ?_) <;> try simp only [decide_eq_true_eq, decide_eq_false_iff_not, beq_iff_eq, beq_eq_false_iff_ne, ne_eq, Bool.not_eq_true', Bool.not_eq_false', bne_iff_ne, bne_eq_false_iff_eq, Bool.not_eq_true, Bool.not_eq_false, Bool.and_eq_true, Bool.or_eq_true, bs_size] at q1
  · conv => whnf
    exact kq hk (bI (by rw [Bool.eq_iff_iff]; simp; omega))
  · conv => whnf
    exact kq hk (bI (by rw [Bool.eq_iff_iff]; simp; omega))
theorem w100_x (a b c : Int) (hk : K (.bool (decide (b ≤ a ∧ a ≤ c))) h) : X Tryd.prog 100 #[.int .i64 a, .int .i64 b, .int .i64 c] h K := by
  refine fnv (args := _) mixed [] [] [] Tryd.func100 rfl (by kernel_rfl) ?_
  conv => whnf
  refine bsel_intro (fun q1 => ?_) (fun q1 => ?_) <;> try simp only [decide_eq_true_eq, decide_eq_false_iff_not, beq_iff_eq, beq_eq_false_iff_ne, ne_eq, Bool.not_eq_true', Bool.not_eq_false', bne_iff_ne, bne_eq_false_iff_eq, Bool.not_eq_true, Bool.not_eq_false, Bool.and_eq_true, Bool.or_eq_true, bs_size] at q1
  · conv => whnf
    exact kq hk (bI (by rw [Bool.eq_iff_iff]; simp; omega))
  · conv => whnf
    exact kq hk (bI (by rw [Bool.eq_iff_iff]; simp; omega))
theorem right1_x (hk : K (.bool true) h) : X Tryd.prog 59 #[.agg #[.int .i64 1, .int .i64 1, .int .i64 1, .int .i64 1]] h K := by
  refine fnv (args := _) mixed [(1, 1), (3, 1), (7, 1), (12, 1), (17, 1)] [] [] Tryd.func59 rfl (by kernel_rfl) ?_
  conv => whnf
  refine w99_x 1 8 ?_
  conv => whnf
  refine w99_x 1 64 ?_
  conv => whnf
  refine w99_x 1 4096 ?_
  conv => whnf
  refine w99_x 1 32 ?_
  conv => whnf
  exact hk
abbrev cf1 : Value := .agg #[.int .i64 1, .int .i64 1, .int .i64 1, .int .i64 1]
abbrev bu1 : Value := .agg #[.int .i64 2, .int .i64 0, .int .i64 0, .int .i64 0, .int .i64 0, .int .i64 0, .int .i64 0, .int .i64 0]
abbrev ln0 : Value := .agg #[.int .i64 0, .int .i64 0, .bool false]
theorem budgets1_x (hk : K (.int .i64 0) h) : X Tryd.prog 60 #[cf1, bu1] h K := by
  refine fnv (args := _) mixed [(2, 2), (13, 2), (23, 2), (3, 3)] [] [] Tryd.func60 rfl (by kernel_rfl) ?_
  conv => whnf
  refine loop_step ?_
  conv => whnf
  refine w100_x 2 0 1000 ?_
  conv => whnf
  first | refine ov_i64 (by omega) ?_ | refine ov_u64 (by omega) ?_ | refine ov_i64 (by decide) ?_ | refine ov_u64 (by decide) ?_ | refine ov_u8 (by omega) ?_ | refine ov_i32 (by omega) ?_ | refine ov_u32 (by omega) ?_
  conv => whnf
  refine loop_step ?_
  conv => whnf
  first | refine ov_i64 (by omega) ?_ | refine ov_u64 (by omega) ?_ | refine ov_i64 (by decide) ?_ | refine ov_u64 (by decide) ?_ | refine ov_u8 (by omega) ?_ | refine ov_i32 (by omega) ?_ | refine ov_u32 (by omega) ?_
  conv => whnf
  refine loop_step ?_
  conv => whnf
  first | refine ov_i64 (by omega) ?_ | refine ov_u64 (by omega) ?_ | refine ov_i64 (by decide) ?_ | refine ov_u64 (by decide) ?_ | refine ov_u8 (by omega) ?_ | refine ov_i32 (by omega) ?_ | refine ov_u32 (by omega) ?_
  conv => whnf
  refine loop_step ?_
  conv => whnf
  first | refine ov_i64 (by omega) ?_ | refine ov_u64 (by omega) ?_ | refine ov_i64 (by decide) ?_ | refine ov_u64 (by decide) ?_ | refine ov_u8 (by omega) ?_ | refine ov_i32 (by omega) ?_ | refine ov_u32 (by omega) ?_
  conv => whnf
  refine loop_step ?_
  conv => whnf
  first | refine ov_i64 (by omega) ?_ | refine ov_u64 (by omega) ?_ | refine ov_i64 (by decide) ?_ | refine ov_u64 (by decide) ?_ | refine ov_u8 (by omega) ?_ | refine ov_i32 (by omega) ?_ | refine ov_u32 (by omega) ?_
  conv => whnf
  refine loop_step ?_
  conv => whnf
  first | refine ov_i64 (by omega) ?_ | refine ov_u64 (by omega) ?_ | refine ov_i64 (by decide) ?_ | refine ov_u64 (by decide) ?_ | refine ov_u8 (by omega) ?_ | refine ov_i32 (by omega) ?_ | refine ov_u32 (by omega) ?_
  conv => whnf
  refine loop_step ?_
  conv => whnf
  first | refine ov_i64 (by omega) ?_ | refine ov_u64 (by omega) ?_ | refine ov_i64 (by decide) ?_ | refine ov_u64 (by decide) ?_ | refine ov_u8 (by omega) ?_ | refine ov_i32 (by omega) ?_ | refine ov_u32 (by omega) ?_
  conv => whnf
  refine loop_step ?_
  conv => whnf
  first | refine ov_i64 (by omega) ?_ | refine ov_u64 (by omega) ?_ | refine ov_i64 (by decide) ?_ | refine ov_u64 (by decide) ?_ | refine ov_u8 (by omega) ?_ | refine ov_i32 (by omega) ?_ | refine ov_u32 (by omega) ?_
  conv => whnf
  refine loop_step ?_
  conv => whnf
  exact hk
theorem line1_x (hk : K (.int .i64 0) h) : X Tryd.prog 62 #[cf1, ln0] h K := by
  refine fnv (args := _) mixed [(2, 2), (12, 2), (3, 3), (6, 3), (10, 3), (18, 3), (23, 3), (28, 3), (32, 3), (37, 3), (40, 3)] [] [] Tryd.func62 rfl (by kernel_rfl) ?_
  conv => whnf
  first | refine ov_i64 (by omega) ?_ | refine ov_u64 (by omega) ?_ | refine ov_i64 (by decide) ?_ | refine ov_u64 (by decide) ?_ | refine ov_u8 (by omega) ?_ | refine ov_i32 (by omega) ?_ | refine ov_u32 (by omega) ?_
  conv => whnf
  refine w100_x 0 0 _ ?_
  conv => whnf
  exact hk
abbrev sc1 (a : Addr) : Value := .agg #[.int .i64 1, .int .i64 1, .int .i64 1, .int .i64 1, .int .i64 2, .int .i64 0, .int .i64 0, .int .i64 0, .int .i64 0, .int .i64 0, .int .i64 0, .int .i64 0, .slice none 0 0, .slice (some a) 2 2]
theorem check1_x (a : Addr) (e0 : loadH Tryd.prog 47 h (a.add (0 * 3)) = some ln0) (e1 : loadH Tryd.prog 47 h (a.add (1 * 3)) = some ln0) (hk : K (.int .i64 0) h) : X Tryd.prog 20 #[sc1 a] h K := by
  refine fnv (args := _) mixed [(1, 1), (10, 1), (14, 1), (16, 1), (22, 1), (27, 1), (32, 1), (39, 1), (47, 1), (54, 1), (5, 5), (8, 8)] [] [] Tryd.func20 rfl (by kernel_rfl) ?_
  conv => whnf
  refine right1_x ?_
  conv => whnf
  refine budgets1_x ?_
  conv => whnf
  refine loop_step ?_
  conv => whnf
  refine loop_step ?_
  conv => whnf
  refine ⟨_, e0, ?_⟩
  conv => whnf
  refine line1_x ?_
  conv => whnf
  first | refine ov_i64 (by omega) ?_ | refine ov_u64 (by omega) ?_ | refine ov_i64 (by decide) ?_ | refine ov_u64 (by decide) ?_ | refine ov_u8 (by omega) ?_ | refine ov_i32 (by omega) ?_ | refine ov_u32 (by omega) ?_
  conv => whnf
  refine loop_step ?_
  conv => whnf
  refine ⟨_, e1, ?_⟩
  conv => whnf
  refine line1_x ?_
  conv => whnf
  first | refine ov_i64 (by omega) ?_ | refine ov_u64 (by omega) ?_ | refine ov_i64 (by decide) ?_ | refine ov_u64 (by decide) ?_ | refine ov_u8 (by omega) ?_ | refine ov_i32 (by omega) ?_ | refine ov_u32 (by omega) ?_
  conv => whnf
  refine loop_step ?_
  conv => whnf
  exact hk
theorem itoa_x (i : Nat) (hi : i < 100) (hk : K (.string (bs (Lib.decDigits i))) h) : X Tryd.prog 44 #[.int .i64 i] h K :=
  X.ofBelow (fun w0 w s => by
    refine (Tryd.strconv_Itoa_small i hi w).mono fun e w' hh => ?_
    obtain ⟨h1, h2⟩ := hh
    exact ⟨h1, by subst h2; exact Below.refl _ _⟩) hk
theorem num_x (i : Nat) (hi : i < 100) (hk : K (.string (bs (Lib.decDigits i))) h) : X Tryd.prog 55 #[.int .i64 i] h K := by
  refine fnv (args := _) mixed [] [] [] Tryd.func55 rfl (by kernel_rfl) ?_
  conv => whnf
  refine itoa_x i hi ?_
  conv => whnf
  exact hk
theorem join_x (b o c : Nat) (xs : List Str) (sep : Str) (hcell : ∀ (j : Nat) x, xs[j]? = some x → h.cell? ⟨b, o + j, none⟩ = some (.string (bs x))) (hb : ∃ ob, h b = some ob) (hN : xs.length ≤ 2 ^ 40) (hcap : xs.length ≤ c) (hlen : (Lib.join xs sep).length ≤ 2 ^ 40)
    (hk : K (.string (bs (Lib.join xs sep))) h) : X Tryd.prog 49 #[.slice (some ⟨b, o, none⟩) xs.length c, .string (bs sep)] h K := by
  have e : (xs.map bs).map (fun z : ByteArray => z.data.toList) = xs := by
    rw [List.map_map]
    have : ((fun z : ByteArray => z.data.toList) ∘ bs) = id := by funext l; rfl
    rw [this, List.map_id]
  refine X.ofBelow (v := .string (bs (Lib.join xs sep))) (fun w0 w s => ?_) hk
  obtain ⟨ob, hob⟩ := hb
  have hj := Tryd.strings_Join b o c (xs.map bs) (bs sep) w (fun j x hx => by
    rw [List.getElem?_map] at hx
    cases hy : xs[j]? with
    | none => rw [hy] at hx; cases hx
    | some y => rw [hy] at hx; cases hx; exact s.cell (hcell j y hy)) (s.lt hob) (by rw [List.length_map]; omega) (by rw [List.length_map]; exact hcap) (by rw [e]; exact Nat.le_trans hlen (by decide))
  rw [e, List.length_map] at hj
  exact hj
theorem liesW : liesAt Tryd.prog Tryd.prog.depth 129 (2 / Tryd.prog.cellsOf 129) 0 119 1 = true := by kernel_rfl
/-- A line of words. -/
theorem put_x (b : Nat) (l : Str) (ob : Option Nat) (c cap : Nat) (xs : List Str) (hB : Bd 129 h b l ob) (hcell : ∀ (j : Nat) x, xs[j]? = some x → h.cell? ⟨c, 0 + j, none⟩ = some (.string (bs x))) (hc : ∃ o, h c = some o) (hN : xs.length ≤ 2 ^ 40) (hcap : xs.length ≤ cap) (hlen : l.length + (Lib.join xs [32]).length + 1 ≤ 2 ^ 29)
    (hk : ∀ h' ob', Bd 129 h' b (l ++ Lib.join xs [32] ++ [10]) ob' → Bt h h' b ob ob' → K (.tuple #[]) h') : X Tryd.prog 54 #[.pointer (some ⟨b, 0, none⟩), .slice (some ⟨c, 0, none⟩) xs.length cap] h K := by
  refine fnv (args := _) mixed [] [] [] Tryd.func54 rfl (by kernel_rfl) ?_
  conv => whnf
  refine join_x c 0 cap xs [32] hcell hc hN hcap (by omega) ?_
  refine ⟨trivial, ?_⟩
  conv => whnf
  refine writeString_x liesW b l (Lib.join xs [32]) ob hB (by omega) fun h1 ob1 hB1 ht1 => ?_
  refine ⟨trivial, ?_⟩
  conv => whnf
  refine writeByte_x liesW b _ 10 ob1 hB1 (by rw [List.length_append]; omega) fun h2 ob2 hB2 ht2 => ?_
  conv => whnf
  exact hk h2 ob2 hB2 (ht1.trans ht2)
theorem dig1 : Lib.decDigits 1 = [49] := by unfold Lib.decDigits; rfl
theorem dig2 : Lib.decDigits 2 = [50] := by unfold Lib.decDigits; rfl
theorem dig0 : Lib.decDigits 0 = [48] := by unfold Lib.decDigits; rfl
def sMachine : Str := [109, 97, 99, 104, 105, 110, 101]
def sBudget : Str := [98, 117, 100, 103, 101, 116]
def sPick : Str := [112, 105, 99, 107]
def tx1 : Str := Lib.join [sMachine, [49], [49], [49], [49]] [32] ++ [10]
def tx2 : Str := tx1 ++ Lib.join [sBudget, [50]] [32] ++ [10]
def tx3 : Str := tx2 ++ Lib.join [sPick, [48], [50]] [32] ++ [10]
theorem cellsS {b : Nat} {el : TypeId} {xs : List Str} {rest : List Value} (hb : h b = some (rowO el ((xs.map fun z => Value.string (bs z)) ++ rest))) : ∀ (j : Nat) x, xs[j]? = some x → h.cell? ⟨b, 0 + j, none⟩ = some (.string (bs x)) := fun j x hj => by
  rw [Nat.zero_add]
  have := (List.getElem?_eq_some_iff.1 hj).1
  exact cell_row hb (by rw [List.getElem?_append_left (by simpa using this), List.getElem?_map, hj]; rfl)
theorem Bd.le {el : TypeId} {h h' : Hp} {b : Nat} {l : Str} {ob : Option Nat} (hB : Bd el h b l ob) (hle : h.le h') : Bd el h' b l ob := by
  obtain ⟨u, s, hb, hg, hne⟩ := hB
  exact ⟨u, s, hle _ _ hb, hg.le hle, hne⟩
theorem Bd.turn {el : TypeId} {h h' : Hp} {b : Nat} {l : Str} {ob o2 o3 : Option Nat} (hB : Bd el h b l ob) (t : Turn h h' o2 o3) (h2 : ∀ c, o2 = some c → c ≠ b ∧ ob ≠ some c) : Bd el h' b l ob := by
  obtain ⟨u, s, hb, hg, hne⟩ := hB
  rcases t with ⟨rfl, rfl⟩ | ⟨y, o, rfl, rfl, hn | hn⟩
  · exact ⟨u, s, hb, hg, hne⟩
  · exact ⟨u, s, by rw [Hp.set_other _ _ (Hp.ne hn hb)]; exact hb, hg.fresh hn, hne⟩
  · obtain ⟨c1, c2⟩ := h2 y hn
    exact ⟨u, s, by rw [Hp.set_other _ _ (Ne.symm c1)]; exact hb, hg.set (fun c hc e => c2 (by rw [hc, e])), hne⟩
theorem Bd.off {el : TypeId} {h : Hp} {b : Nat} {l : Str} {ob : Option Nat} (hB : Bd el h b l ob) {c : Nat} (hc : h c = none) : c ≠ b ∧ ob ≠ some c := by
  obtain ⟨u, s, hb, ⟨_, ⟨e, _⟩ | ⟨y, _, _, e, _, _, _, hy⟩⟩, hne⟩ := hB
  · exact ⟨fun ee => (by rw [ee, hb] at hc; cases hc), fun ee => (by rw [e] at ee; cases ee)⟩
  · exact ⟨fun ee => (by rw [ee, hb] at hc; cases hc), fun ee => (by rw [e] at ee; cases ee; rw [hy] at hc; cases hc)⟩
theorem Bd.setL {el : TypeId} {h : Hp} {b : Nat} {l : Str} {ob : Option Nat} {m : Nat} {c : Loop} (hB : Bd el h b l ob) (hm : h m = some (.loop c)) (o : Obj) : Bd el (h.set m o) b l ob := by
  obtain ⟨u, s, hb, hg, hne⟩ := hB
  have h1 : b ≠ m := fun e => by subst e; rw [hm] at hb; cases hb
  exact ⟨u, s, by rw [Hp.set_other _ _ h1]; exact hb, hg.set (hg.off hm (fun el l e => by cases e)), hne⟩
abbrev l00 : Ln := ⟨0, 0, false⟩
theorem isRun00 : IsRun [l00, l00] 0 2 := ⟨l00, rfl, by decide, by decide, fun hh => absurd rfl hh, fun j hj => by
  match j, hj with
  | 0, _ => rfl
  | 1, _ => rfl, fun _ => by simp⟩
theorem text1_x (a : Addr) (e0 : loadH Tryd.prog 47 h (a.add (0 * 3)) = some ln0) (e1 : loadH Tryd.prog 47 h (a.add (1 * 3)) = some ln0) (hk : ∀ h', h.le h' → K (.tuple #[.string (bs tx3), .int .i64 0]) h') : X Tryd.prog 17 #[sc1 a] h K := by
  refine fnv (args := _) mixed [(6, 6), (22, 6), (25, 6), (28, 6), (31, 6), (38, 6), (11, 11), (61, 11), (64, 11)] [] [] Tryd.func17 rfl (by kernel_rfl) ?_
  conv => whnf
  refine new_intro (o := rowO 56 [.int .i64 1, .int .i64 1, .int .i64 1, .int .i64 1, .int .i64 2, .int .i64 0, .int .i64 0, .int .i64 0, .int .i64 0, .int .i64 0, .int .i64 0, .int .i64 0, .slice none 0 0, .slice (some a) 2 2]) (fun s h1 n_s le_s at_s ot_s => ?_)
  conv => whnf
  have aggC : isAggT Tryd.prog 52 = some true := by kernel_rfl
  have sizC : sizeT Tryd.prog 52 = some 4 := by kernel_rfl
  have aggT : isAggT Tryd.prog 56 = some true := by kernel_rfl
  have sizT : sizeT Tryd.prog 56 = some 14 := by kernel_rfl
  generalize hC : [Value.int .i64 1, .int .i64 1, .int .i64 1, .int .i64 1, .int .i64 2, .int .i64 0, .int .i64 0, .int .i64 0, .int .i64 0, .int .i64 0, .int .i64 0, .int .i64 0, .slice none 0 0, .slice (some a) 2 2] = C at at_s
  have ldc : ∀ H : Hp, H s = some (rowO 56 C) → loadH Tryd.prog 52 H ((⟨s, 0, none⟩ : Addr).add 0) = some cf1 := fun H hH => by
    subst hC
    unfold loadH
    rw [aggC, sizC]
    simp only [addr_add, hH]
    rfl
  have lds : loadH Tryd.prog 56 h1 ⟨s, 0, none⟩ = some (sc1 a) := by
    rw [loadA0 aggT sizT at_s (by rw [← hC]; rfl), ← hC]
  refine ⟨_, lds, ?_⟩
  conv => whnf
  refine check1_x a (loadH_le le_s e0) (loadH_le le_s e1) ?_
  conv => whnf
  refine new_intro (o := rowO 129 [.pointer none, .slice none 0 0]) (fun w h2 n_w le_w at_w ot_w => ?_)
  conv => whnf
  have s2 := le_w s _ at_s
  have dws : s ≠ w := Hp.ne n_w at_s
  refine ⟨_, ldc h2 s2, ?_⟩
  conv => whnf
  refine num_x 1 (by decide) ?_
  rw [dig1]
  refine ⟨trivial, ?_⟩
  conv => whnf
  refine num_x 1 (by decide) ?_
  rw [dig1]
  refine ⟨trivial, ?_⟩
  conv => whnf
  refine num_x 1 (by decide) ?_
  rw [dig1]
  refine ⟨trivial, ?_⟩
  conv => whnf
  refine num_x 1 (by decide) ?_
  rw [dig1]
  refine ⟨trivial, ?_⟩
  conv => whnf
  refine new_intro (o := rowO 9 [.string (bs sMachine), .string (bs [49]), .string (bs [49]), .string (bs [49]), .string (bs [49])]) (fun x1 h3 n_x1 le_x1 at_x1 ot_x1 => ?_)
  conv => whnf
  have hB3 : Bd 129 h3 w [] none := ⟨false, _, le_x1 w _ at_w, Gr.nil, fun x hx => by cases hx⟩
  have l13 : h1.le h3 := Hp.le_trans le_w le_x1
  refine put_x w [] none x1 5 [sMachine, [49], [49], [49], [49]] hB3 (cellsS (rest := []) at_x1) ⟨_, at_x1⟩ (by decide) (by decide) (by decide) fun h4 ob4 hB4 ht4 => ?_
  have t4 := ht4.le l13 n_w (fun c e => by cases e)
  have hB4 : Bd 129 h4 w tx1 ob4 := hB4
  clear hB3 ht4
  refine ⟨trivial, ?_⟩
  conv => whnf
  refine new_intro (o := rowO 9 [.string (bs sBudget)]) (fun x2 h5 n_x2 le_x2 at_x2 ot_x2 => ?_)
  conv => whnf
  have s5 : h5 s = some (rowO 56 C) := le_x2 s _ (t4.1 s _ at_s)
  have hiS : Tryd.prog.info? 9 = some Tryd.prog.types[9] := by kernel_rfl
  have lda : loadH Tryd.prog 3 h5 (((⟨s, 0, none⟩ : Addr).add 4).add (0 * 1)) = some (.int .i64 2) := by
    rw [loadH_cell aggi, addr_add, addr_add]
    exact cell_row s5 (by rw [← hC]; rfl)
  have g5 : Gr h5 9 1 (.slice (some ⟨x2, 0, none⟩) 1 1) 1 [.string (bs sBudget)] (some x2) := ⟨rfl, .inr ⟨x2, 1, [], rfl, rfl, Nat.le_refl _, rfl, at_x2⟩⟩
  refine loop_step ?_
  conv => whnf
  refine ⟨_, lda, ?_⟩
  conv => whnf
  refine num_x 2 (by decide) ?_
  rw [dig2]
  conv => whnf
  refine new_intro (o := rowO 9 [.string (bs [50])]) (fun x3 h6 n_x3 le_x3 at_x3 ot_x3 => ?_)
  conv => whnf
  refine appOne (z := .string ⟨#[]⟩) (by kernel_rfl) hiS (by kernel_rfl) (by kernel_rfl) (by kernel_rfl) rfl (bytes := 16) (by decide) rfl rfl rfl (g5.le le_x3) at_x3 rfl rfl (by decide) fun s7 h7 ob7 hg7 ht7 => ?_
  have l16 : h1.le h6 := Hp.le_trans t4.1 (Hp.le_trans le_x2 le_x3)
  have nx2 : h1 x2 = none := Hp.none_le t4.1 n_x2
  have t7 := ht7.le l16 (fun c e => by cases e; exact nx2)
  have hB7 : Bd 129 h7 w tx1 ob4 := (hB4.le (Hp.le_trans le_x2 le_x3)).turn ht7 (fun c e => by cases e; exact hB4.off n_x2)
  obtain ⟨_, ⟨_, _, e⟩ | ⟨y, cap, rest, rfl, rfl, hcap, _, hy⟩⟩ := hg7
  · cases e
  conv => whnf
  first | refine ov_i64 (by omega) ?_ | refine ov_u64 (by omega) ?_ | refine ov_i64 (by decide) ?_ | refine ov_u64 (by decide) ?_ | refine ov_u8 (by omega) ?_ | refine ov_i32 (by omega) ?_ | refine ov_u32 (by omega) ?_
  conv => whnf
  refine loop_step ?_
  conv => whnf
  refine put_x w tx1 ob4 y cap [sBudget, [50]] hB7 (cellsS (rest := rest) hy) ⟨_, hy⟩ (by decide) hcap (by decide) fun h8 ob8 hB8 ht8 => ?_
  have t8 := ht8.le t7.1 n_w t4.2
  have hB8 : Bd 129 h8 w tx2 ob8 := hB8
  have s8 := t8.1 s _ at_s
  clear hB7 ht8 hB4 ht7 hy
  have ldp : loadH Tryd.prog 54 h8 ((⟨s, 0, none⟩ : Addr).add 12) = some (.slice none 0 0) := by
    rw [loadH_cell (by kernel_rfl), addr_add]
    exact cell_row s8 (by rw [← hC]; rfl)
  have ldl : loadH Tryd.prog 41 h8 ((⟨s, 0, none⟩ : Addr).add 13) = some (.slice (some a) 2 2) := by
    rw [loadH_cell (by kernel_rfl), addr_add]
    exact cell_row s8 (by rw [← hC]; rfl)
  conv => whnf
  refine ⟨_, ldp, ?_⟩
  conv => whnf
  refine loop_step ?_
  conv => whnf
  refine ⟨_, ldl, ?_⟩
  conv => whnf
  refine runs_x (some a) 2 2 fun b9 h9 n_b le_b at_b ot_b => ?_
  have l19 := Hp.le_trans t8.1 le_b
  have hB9 := hB8.le le_b
  have rd0 : Rd Tryd.prog 47 3 h (.slice (some a) 2 2) (lv [l00, l00]) := ⟨some a, 2, rfl, fun i v hv => by
    match i, hv with
    | 0, hv => cases hv; exact ⟨a, rfl, e0⟩
    | 1, hv => cases hv; exact ⟨a, rfl, e1⟩
    | i + 2, hv => simp at hv⟩
  conv => whnf
  refine ⟨fun lp lc hl hy => ?_⟩
  have nlb : b9 ≠ lp := Hp.ne hl at_b
  have nlh : h1 lp = none := Hp.none_le l19 hl
  refine runs1_x (yieldV lp) b9 (.slice (some a) 2 2) [l00, l00] (fun i h' => h' lp = some (lob lc .ready none) ∧ h' b9 = some (rowO 41 [.slice (some a) 2 2]) ∧ h1.le h' ∧ ((i = 0 ∧ Bd 129 h' w tx2 ob8) ∨ (i = 2 ∧ ∃ ob, Bd 129 h' w tx3 ob ∧ ∀ c, ob = some c → h1 c = none))) (by decide) (fun i h' hi => ⟨hi.2.1, rd0.le (Hp.le_trans le_s hi.2.2.1)⟩)
    ⟨Hp.set_same _ _ _, (Hp.set_other _ _ nlb).trans at_b, Hp.le_trans l19 (Hp.le_set hl), .inl ⟨rfl, hB9.le (Hp.le_set hl)⟩⟩ (fun i n x h' hx hn hi => ?_) (fun h' hi => ?_)
  · obtain ⟨i1, i2, i3, ⟨rfl, hB⟩ | ⟨rfl, _⟩⟩ := hi
    · obtain rfl := hn.one isRun00
      cases hx
      have dlp := hB9.off hl
      have db9 := hB8.off n_b
      refine hy _ _ _ ⟨rfl, i1, ?_⟩
      conv => whnf
      refine new_intro (o := rowO 47 [.int .i64 0, .int .i64 0, .bool false]) (fun z h10 n_z le_z at_z ot_z => ?_)
      conv => whnf
      refine wr_intro (by exact storeA0 sizL at_z rfl rfl rfl) (fun h11 at_h11 ot_h11 => ?_)
      try (conv => whnf)
      have le11 : h'.le h11 := Hp.le_st n_z le_z ot_h11
      have lp11 := le11 lp _ i1
      have dzl : z ≠ lp := fun e => by subst e; rw [i1] at n_z; cases n_z
      have zb : (h11.set lp (lob lc .busy none)) z = some (rowO 47 [.int .i64 0, .int .i64 0, .bool false]) := (Hp.set_other _ _ dzl).trans at_h11
      have hBb := (hB.le le11).setL lp11 (lob lc .busy none)
      have lpb : (h11.set lp (lob lc .busy none)) lp = some (lob lc .busy none) := Hp.set_same _ _ _
      have b9b : (h11.set lp (lob lc .busy none)) b9 = some (rowO 41 [.slice (some a) 2 2]) := (Hp.set_other _ _ nlb).trans (le11 b9 _ i2)
      have leb : h1.le (h11.set lp (lob lc .busy none)) := Hp.le_keep (Hp.le_trans i3 le11) nlh
      generalize h11.set lp (lob lc .busy none) = hb at zb hBb lpb b9b leb ⊢
      refine ⟨lp11, ?_⟩
      conv => whnf
      refine ⟨_, loadC (i := 0) aggK zb rfl, ?_⟩
      conv => whnf
      refine ⟨_, loadC (i := 1) aggi zb rfl, ?_⟩
      conv => whnf
      refine num_x 0 (by decide) ?_
      rw [dig0]
      conv => whnf
      refine num_x 2 (by decide) ?_
      rw [dig2]
      conv => whnf
      refine new_intro (o := rowO 9 [.string (bs sPick), .string (bs [48]), .string (bs [50])]) (fun v h12 n_v le_v at_v ot_v => ?_)
      conv => whnf
      refine put_x w tx2 ob8 v 3 [sPick, [48], [50]] (hBb.le le_v) (cellsS (rest := []) at_v) ⟨_, at_v⟩ (by decide) (by decide) (by decide) fun h13 ob13 hB13 ht13 => ?_
      have t13 := ht13.le (Hp.le_trans leb le_v) n_w t8.2
      have lp13 : h13 lp = some (lob lc .busy none) := ht13.1 lp _ (le_v lp _ lpb) dlp.1 dlp.2
      have b13 := ht13.1 b9 _ (le_v b9 _ b9b) db9.1 db9.2
      have hB13 : Bd 129 h13 w tx3 ob13 := hB13
      conv => whnf
      refine ⟨lp13, ?_⟩
      exact ⟨true, rfl, fun _ => ⟨Hp.set_same _ _ _, (Hp.set_other _ _ nlb).trans b13, Hp.le_keep t13.1 nlh, .inr ⟨rfl, ob13, hB13.setL lp13 _, t13.2⟩⟩, fun e => by cases e⟩
    · cases hx
  · obtain ⟨i1, i2, i3, ⟨e, _⟩ | ⟨_, ob, hB, hob⟩⟩ := hi
    · cases e
    · refine ⟨.ready, none, i1, by simp, ?_⟩
      have hBe := hB.setL i1 (lob lc .exhausted none)
      conv => whnf
      refine string_x w tx3 ob hBe (by decide) (by decide) fun hh hkeep => ?_
      conv => whnf
      refine hk hh fun c o e => hkeep c o ?_ (fun ee => ?_)
      · have c1 := le_s c o e
        rw [Hp.set_other _ _ (Hp.ne nlh c1)]
        exact i3 c o c1
      · have c1 := le_s c o e
        rw [hob c ee] at c1; cases c1
theorem live36_x (h : Hp) (K : Value → Hp → Prop) (hk : K (.bool true) h) : X Tryd.prog 12 #[] h K := by
  refine X.forget ?_
  refine fnv (args := _) mixed [(1, 1)] [] [] Tryd.func12 rfl (by kernel_rfl) ?_
  conv => whnf
  refine new_intro (o := rowO 47 [.int .i64 0, .int .i64 0, .bool false, .int .i64 0, .int .i64 0, .bool false]) (fun b h1 n_b le_b at_b ot_b => ?_)
  conv => whnf
  have e0 : loadH Tryd.prog 47 h1 ((⟨b, 0, none⟩ : Addr).add (0 * 3)) = some ln0 := loadH_at (A := []) (x := [.int .i64 0, .int .i64 0, .bool false]) (B := [.int .i64 0, .int .i64 0, .bool false]) aggL sizL at_b rfl rfl
  have e1 : loadH Tryd.prog 47 h1 ((⟨b, 0, none⟩ : Addr).add (1 * 3)) = some ln0 := loadH_at (A := [.int .i64 0, .int .i64 0, .bool false]) (x := [.int .i64 0, .int .i64 0, .bool false]) (B := []) aggL sizL at_b rfl rfl
  have et : tx3 = [109, 97, 99, 104, 105, 110, 101, 32, 49, 32, 49, 32, 49, 32, 49, 10, 98, 117, 100, 103, 101, 116, 32, 50, 10, 112, 105, 99, 107, 32, 48, 32, 50, 10] := by decide
  refine text1_x ⟨b, 0, none⟩ e0 e1 fun h' hle => ?_
  conv => whnf
  refine seq_true et ?_
  conv => whnf
  exact ⟨h, Hp.le_trans le_b hle, hk⟩
theorem scriptRuns_w (w : World) {cs0 cs1 : List Value} (w0 : Wf (whole w) (.slice (.struct [.int .i64, .int .i64, .bool])) cs0) (l0 : cs0.length = Sh.n (.slice (.struct [.int .i64, .int .i64, .bool]))) (w1 : Wf (whole w) (.int .i64) cs1) (l1 : cs1.length = Sh.n (.int .i64)) :
    X Tryd.prog 4 #[Sh.v (.slice (.struct [.int .i64, .int .i64, .bool])) cs0, Sh.v (.int .i64) cs1] (whole w) fun v h' => v = .bool true ∧ (whole w).le h' := by
  have hs := slice_of (P := Tryd.prog) (t := 47) (n := 3) (ok := fun _ : Ln => True) (cells := fun x : Ln => [.int .i64 x.w, .int .i64 x.n, .bool x.on]) aggL sizL (by decide) rfl (fun es hw => by
    unfold Wf at hw
    unfold Wfs at hw
    obtain ⟨x1, y1, rfl, -, w1, hw⟩ := hw
    unfold Wfs at hw
    obtain ⟨x2, y2, rfl, -, w2, hw⟩ := hw
    unfold Wfs at hw
    obtain ⟨x3, y3, rfl, -, w3, hw⟩ := hw
    unfold Wfs at hw
    subst hw
    unfold Wf at w1 w2 w3
    obtain ⟨a, rfl, _⟩ := w1
    obtain ⟨b, rfl, _⟩ := w2
    obtain ⟨c, rfl⟩ := w3
    exact ⟨⟨a, b, c⟩, trivial, rfl⟩) w0
  obtain ⟨a, cap, L, rfl, _, _, hL⟩ := hs
  unfold Wf at w1
  obtain ⟨k, rfl, _⟩ := w1
  have hr : Rd Tryd.prog 47 3 (whole w) (.slice a L.length cap) (lv L) := ⟨a, cap, by rw [List.length_map], fun i v hv => by
    rw [List.getElem?_map] at hv
    cases hx : L[i]? with
    | none => rw [hx] at hv; cases hv
    | some x => rw [hx] at hv; cases hv; exact hL i x hx⟩
  exact scriptRuns_x (.slice a L.length cap) L k hr (fun h K hk => live36_x h K hk) (fun h' hle => ⟨rfl, hle⟩)
end
end Go.Proofs.YtclbommhagmpdaaDoor
