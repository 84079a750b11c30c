/-
  A deed's text.
-/
import Derived.Test.YtciagjfemgfhgaaGreatDoorLta
import Derived.Test.YtciagjfemgfhgaaGreatDoorLibY
import Derived.Test.YtciagjfemgfhgaaGreatDoorLin
import Derived.Test.YtciagjfemgfhgaaGreatDoorLibX
import Derived.Test.YtciagjfemgfhgaaGreatDoorLtc
/-! A deed's text. -/
namespace Go.Proofs.YtciagjfemgfhgaaGreatDoor
set_option linter.unusedSimpArgs false
set_option linter.unusedVariables false
open Go Go.Mid Go.RowKit
abbrev rfXLtd0 : Go.Mid.RF := [(1, 1), (7, 1), (12, 1), (19, 1), (26, 1), (34, 1)]
abbrev rfXLtd1 : Go.Mid.RF := [(1, 1), (4, 1), (7, 1), (12, 1), (14, 1), (21, 1), (23, 1), (28, 1), (33, 1)]
attribute [local irreducible] mid
/-- What deeds are called. -/
def nms : List Str := [[], [115, 116, 111, 114, 101], [108, 111, 97, 100], [97, 100, 100], [115, 119, 97, 112], [108, 105, 110, 107], [99, 111, 110, 100]]
def nm (w : Nat) : Str := nms.getD w []
abbrev abcd : Str := [97, 98, 99, 100]
abbrev xyzt : Str := [120, 121, 122, 116]
abbrev let1 (l : Str) (i : Nat) : Str := [l.getD i 0]
/-- A deed's words. -/
def dW (d : Dd) : List Str := nm d.what.toNat :: ((if d.what ≠ 1 then [let1 abcd d.reg.toNat] else []) ++ (let1 xyzt d.vr.toNat :: if numB d.what = true then [Lib.itoa d.n] else []))
def dT (d : Dd) : Str := J (dW d)
theorem nm_at {w : Nat} (h : w < 7) : nms[w]? = some (nm w) := by
  match w, h with
  | 0, _ => rfl
  | 1, _ => rfl
  | 2, _ => rfl
  | 3, _ => rfl
  | 4, _ => rfl
  | 5, _ => rfl
  | 6, _ => rfl
theorem let_at {l : Str} (h : l.length = 4) {i : Nat} (hi : i < 4) : l[i]? = some (l.getD i 0) := by
  rw [List.getD_eq_getElem?_getD, List.getElem?_eq_getElem (by omega)]; rfl
theorem deedN {d : Dd} (h : deedE d = 0) : ∃ w r v n : Nat, d = ⟨w, r, v, n⟩ ∧ 1 ≤ w ∧ w ≤ 6 ∧ r < 4 ∧ v < 4 ∧ n ≤ 255 := by
  unfold deedE at h
  split at h
  · cases h
  split at h
  · cases h
  rename_i h1 h2
  obtain ⟨a, b, c, e⟩ := d
  simp only at h1 h2
  refine ⟨a.toNat, b.toNat, c.toNat, e.toNat, ?_, by omega, by omega, by omega, by omega, by omega⟩
  rw [Dd.mk.injEq]
  omega
theorem nm_len (w : Nat) : (nm w).length ≤ 5 := by
  unfold nm
  rw [List.getD_eq_getElem?_getD]
  match w with
  | 0 | 1 | 2 | 3 | 4 | 5 | 6 => decide
  | w + 7 => simp [nms]
section
set_option maxHeartbeats 8000000
set_option maxRecDepth 10000
variable {h : Hp} {K : Value → Hp → Prop}
theorem names_x (hk : K (.agg (nms.map sv).toArray) h) : X Tryz.prog 37 #[] h K := by
  refine fnv (args := _) mixed [(0, 0)] [] [] Tryz.func37 rfl (by kernel_rfl) ?_; conv => whnf
  exact hk
theorem rname_x (w : Nat) (hw : w < 7) (hk : K (sv (nm w)) h) : X Tryz.prog 41 #[zv w] h K := by
  refine X.forget ?_
  refine fnv (args := _) mixed [] [] [] Tryz.func41 rfl (by kernel_rfl) ?_; conv => whnf
  refine new_intro (o := rowO 9 (nms.map sv)) (fun b h1 n_b le_b at_b ot_b => ?_); conv => whnf
  (first | refine need_intro (⟨by omega, by omega⟩) ?_ | refine must.mk (⟨by omega, by omega⟩) ?_); conv => whnf
  refine ⟨_, loadI aggStr at_b rfl (by rw [List.getElem?_map, nm_at hw]; rfl), ?_⟩; conv => whnf
  exact ⟨h, le_b, hk⟩
theorem dshow_x (hp : Pow h) (d : Dd) (hd : deedE d = 0) (hk : ∀ h', h.le h' → K (sv (dT d)) h') : X Tryz.prog 18 #[.agg d.cs.toArray] h K := by
  obtain ⟨w, r, v, n, rfl, hw1, hw6, hr, hv, hn⟩ := deedN hd
  have hwn : nms[w]? = some (nm w) := nm_at (by omega)
  have hr1 : abcd[r]? = some (abcd.getD r 0) := let_at rfl hr
  have hv1 : xyzt[v]? = some (xyzt.getD v 0) := let_at rfl hv
  have hr2 : (abcd.getD r 0).toNat < 128 := by
    match r, hr with
    | 0, _ => decide
    | 1, _ => decide
    | 2, _ => decide
    | 3, _ => decide
  have hv2 : (xyzt.getD v 0).toNat < 128 := by
    match v, hv with
    | 0, _ => decide
    | 1, _ => decide
    | 2, _ => decide
    | 3, _ => decide
  have hdT : dT ⟨(w : Int), r, v, n⟩ = J (nm w :: ((if (w : Int) ≠ 1 then [let1 abcd r] else []) ++ (let1 xyzt v :: if numB w = true then [Lib.itoa n] else []))) := rfl
  have hdc : (Dd.mk (w : Int) (r : Int) (v : Int) (n : Int)).cs = [zv w, zv r, zv v, zv n] := rfl
  rw [hdT] at hk
  rw [hdc]
  clear hd hdT hdc
  refine fnv (args := _) mixed rfXLtd0 [] [] Tryz.func18 rfl (by kernel_rfl) ?_; conv => whnf
  refine names_x ?_
  refine ⟨trivial, ?_⟩; conv => whnf
  (first | refine need_intro (⟨by omega, by omega⟩) ?_ | refine must.mk (⟨by omega, by omega⟩) ?_); conv => whnf
  refine part_cell (k := w) (v := sv (nm w)) aggStr (by rw [Int.toNat_natCast]; exact Nat.mul_one _) (by rw [List.getElem?_map, hwn]; rfl) ?_
  conv => whnf
  refine new_intro (o := rowO 9 [sv (nm w)]) (fun y0 h1 n_y0 le_y0 at_y0 ot_y0 => ?_); conv => whnf
  have hW1 : Owns h h1 9 1 (.slice (some ⟨y0, 0, none⟩) 1 1) 1 [sv (nm w)] := ⟨some y0, ⟨rfl, .inr ⟨y0, 1, [], rfl, rfl, Nat.le_refl _, rfl, at_y0⟩⟩, le_y0, fun c e => by cases e; exact n_y0⟩
  refine uses_x (w : Int) ?_
  conv => whnf
  have hni := itoa_len (n := (n : Int)) (by omega) (by omega)
  have l0 : (nm w).length ≤ 64 := Nat.le_trans (nm_len w) (by decide)
  have l1 : ∀ (l : Str) (i : Nat), (let1 l i).length ≤ 64 := fun l i => (by decide : (1 : Nat) ≤ 64)
  have l2 : (Lib.itoa (n : Int)).length ≤ 64 := by omega
  have s1 : ∀ (x : Str) (q : List Str), x.length ≤ 64 → (∀ y ∈ q, y.length ≤ 64) → ∀ y ∈ x :: q, y.length ≤ 64 := fun x q hx hq y hy => by
    rcases List.mem_cons.1 hy with rfl | hy
    · exact hx
    · exact hq y hy
  have hX := hW1
  clear hW1 at_y0 ot_y0 le_y0 n_y0
  refine bsel_intro (fun q1 => ?_) (fun q1 => ?_) <;> try simp only [bsL] at q1
  · rw [if_pos q1] at hk
    conv => whnf
    refine ch_intro (abcd.getD r 0) (by omega) (by rw [Int.toNat_natCast]; exact hr1) ?_; conv => whnf
    refine toChar (k := .u8) rfl (by kernel_rfl) (by kernel_rfl) rfl hr2 ?_
    conv => whnf
    refine new_intro (o := rowO 9 [sv (let1 abcd r)]) (fun y1 g1 n_y1 le_y1 at_y1 ot_y1 => ?_); conv => whnf
    have at_y := at_y1
    have le_y := le_y1
    refine Owns.app1 (z := .string ⟨#[]⟩) (by kernel_rfl) infS (by kernel_rfl) (by kernel_rfl) (by kernel_rfl) rfl (bytes := 16) (by decide) rfl rfl rfl (hX.up le_y) at_y rfl rfl (by decide) fun s9 h9 hX => ?_
    obtain ⟨sa, sc, rfl⟩ := hX.shape
    clear at_y le_y at_y1 ot_y1 le_y1 n_y1
    conv => whnf
    refine ch_intro (xyzt.getD v 0) (by omega) (by rw [Int.toNat_natCast]; exact hv1) ?_; conv => whnf
    refine toChar (k := .u8) rfl (by kernel_rfl) (by kernel_rfl) rfl hv2 ?_
    conv => whnf
    refine new_intro (o := rowO 9 [sv (let1 xyzt v)]) (fun y g n_y le_y at_y ot_y => ?_); conv => whnf
    refine Owns.app1 (z := .string ⟨#[]⟩) (by kernel_rfl) infS (by kernel_rfl) (by kernel_rfl) (by kernel_rfl) rfl (bytes := 16) (by decide) rfl rfl rfl (hX.up le_y) at_y rfl rfl (by decide) fun s9 h9 hX => ?_
    obtain ⟨sa, sc, rfl⟩ := hX.shape
    clear at_y le_y ot_y n_y
    cases hnb : numB w with
    | true =>
      rw [hnb] at hk
      conv => whnf
      refine itoaA_x (hp.le hX.le) (n : Int) (by omega) (by omega) ?_
      conv => whnf
      refine new_intro (o := rowO 9 [sv (Lib.itoa n)]) (fun y2 g2 n_y2 le_y2 at_y2 ot_y2 => ?_); conv => whnf
      have at_y := at_y2
      have le_y := le_y2
      refine Owns.app1 (z := .string ⟨#[]⟩) (by kernel_rfl) infS (by kernel_rfl) (by kernel_rfl) (by kernel_rfl) rfl (bytes := 16) (by decide) rfl rfl rfl (hX.up le_y) at_y rfl rfl (by decide) fun s9 h9 hX => ?_
      obtain ⟨sa, sc, rfl⟩ := hX.shape
      have hsm : ∀ x ∈ [nm w, let1 abcd r, let1 xyzt v, Lib.itoa (n : Int)], x.length ≤ 64 := s1 _ _ l0 (s1 _ _ (l1 _ _) (s1 _ _ (l1 _ _) (s1 _ _ l2 (fun y hy => by cases hy))))
      have hX : Owns h _ 9 1 _ 4 ([nm w, let1 abcd r, let1 xyzt v, Lib.itoa (n : Int)].map sv) := hX
      conv => whnf
      obtain ⟨b0, cap0, rest0, e0, hcap0, hb0, _⟩ := hX.row (by decide)
      cases e0
      refine join_x b0 0 _ [nm w, let1 abcd r, let1 xyzt v, Lib.itoa (n : Int)] [32] (fun j x hj => ?_) ⟨_, hb0⟩ (by simp) hcap0 (join_len hsm (by simp)) ?_
      · rw [Nat.zero_add]
        refine cell_row hb0 ?_
        have hjl := (List.getElem?_eq_some_iff.1 hj).1
        rw [List.getElem?_append_left (by rw [List.length_map]; exact hjl), List.getElem?_map, hj]; rfl
      conv => whnf
      exact hk _ hX.le
    | false =>
      rw [hnb] at hk
      have hsm : ∀ x ∈ [nm w, let1 abcd r, let1 xyzt v], x.length ≤ 64 := s1 _ _ l0 (s1 _ _ (l1 _ _) (s1 _ _ (l1 _ _) (fun y hy => by cases hy)))
      have hX : Owns h _ 9 1 _ 3 ([nm w, let1 abcd r, let1 xyzt v].map sv) := hX
      conv => whnf
      obtain ⟨b0, cap0, rest0, e0, hcap0, hb0, _⟩ := hX.row (by decide)
      cases e0
      refine join_x b0 0 _ [nm w, let1 abcd r, let1 xyzt v] [32] (fun j x hj => ?_) ⟨_, hb0⟩ (by simp) hcap0 (join_len hsm (by simp)) ?_
      · rw [Nat.zero_add]
        refine cell_row hb0 ?_
        have hjl := (List.getElem?_eq_some_iff.1 hj).1
        rw [List.getElem?_append_left (by rw [List.length_map]; exact hjl), List.getElem?_map, hj]; rfl
      conv => whnf
      exact hk _ hX.le
  · rw [if_neg q1] at hk
    conv => whnf
    refine ch_intro (xyzt.getD v 0) (by omega) (by rw [Int.toNat_natCast]; exact hv1) ?_; conv => whnf
    refine toChar (k := .u8) rfl (by kernel_rfl) (by kernel_rfl) rfl hv2 ?_
    conv => whnf
    refine new_intro (o := rowO 9 [sv (let1 xyzt v)]) (fun y g n_y le_y at_y ot_y => ?_); conv => whnf
    refine Owns.app1 (z := .string ⟨#[]⟩) (by kernel_rfl) infS (by kernel_rfl) (by kernel_rfl) (by kernel_rfl) rfl (bytes := 16) (by decide) rfl rfl rfl (hX.up le_y) at_y rfl rfl (by decide) fun s9 h9 hX => ?_
    obtain ⟨sa, sc, rfl⟩ := hX.shape
    clear at_y le_y ot_y n_y
    cases hnb : numB w with
    | true =>
      rw [hnb] at hk
      conv => whnf
      refine itoaA_x (hp.le hX.le) (n : Int) (by omega) (by omega) ?_
      conv => whnf
      refine new_intro (o := rowO 9 [sv (Lib.itoa n)]) (fun y2 g2 n_y2 le_y2 at_y2 ot_y2 => ?_); conv => whnf
      have at_y := at_y2
      have le_y := le_y2
      refine Owns.app1 (z := .string ⟨#[]⟩) (by kernel_rfl) infS (by kernel_rfl) (by kernel_rfl) (by kernel_rfl) rfl (bytes := 16) (by decide) rfl rfl rfl (hX.up le_y) at_y rfl rfl (by decide) fun s9 h9 hX => ?_
      obtain ⟨sa, sc, rfl⟩ := hX.shape
      have hsm : ∀ x ∈ [nm w, let1 xyzt v, Lib.itoa (n : Int)], x.length ≤ 64 := s1 _ _ l0 (s1 _ _ (l1 _ _) (s1 _ _ l2 (fun y hy => by cases hy)))
      have hX : Owns h _ 9 1 _ 3 ([nm w, let1 xyzt v, Lib.itoa (n : Int)].map sv) := hX
      conv => whnf
      obtain ⟨b0, cap0, rest0, e0, hcap0, hb0, _⟩ := hX.row (by decide)
      cases e0
      refine join_x b0 0 _ [nm w, let1 xyzt v, Lib.itoa (n : Int)] [32] (fun j x hj => ?_) ⟨_, hb0⟩ (by simp) hcap0 (join_len hsm (by simp)) ?_
      · rw [Nat.zero_add]
        refine cell_row hb0 ?_
        have hjl := (List.getElem?_eq_some_iff.1 hj).1
        rw [List.getElem?_append_left (by rw [List.length_map]; exact hjl), List.getElem?_map, hj]; rfl
      conv => whnf
      exact hk _ hX.le
    | false =>
      rw [hnb] at hk
      have hsm : ∀ x ∈ [nm w, let1 xyzt v], x.length ≤ 64 := s1 _ _ l0 (s1 _ _ (l1 _ _) (fun y hy => by cases hy))
      have hX : Owns h _ 9 1 _ 2 ([nm w, let1 xyzt v].map sv) := hX
      conv => whnf
      obtain ⟨b0, cap0, rest0, e0, hcap0, hb0, _⟩ := hX.row (by decide)
      cases e0
      refine join_x b0 0 _ [nm w, let1 xyzt v] [32] (fun j x hj => ?_) ⟨_, hb0⟩ (by simp) hcap0 (join_len hsm (by simp)) ?_
      · rw [Nat.zero_add]
        refine cell_row hb0 ?_
        have hjl := (List.getElem?_eq_some_iff.1 hj).1
        rw [List.getElem?_append_left (by rw [List.length_map]; exact hjl), List.getElem?_map, hj]; rfl
      conv => whnf
      exact hk _ hX.le
end
end Go.Proofs.YtciagjfemgfhgaaGreatDoor
/-! A test's text. -/
namespace Go.Proofs.YtciagjfemgfhgaaGreatDoor
set_option linter.unusedSimpArgs false
set_option linter.unusedVariables false
open Go Go.Mid Go.RowKit
attribute [local irreducible] mid
abbrev sepD : Str := [32, 59, 32]
def lineT (L : List Dd) : Str := Lib.join (L.map dT) sepD
def textT (T : List (List Dd)) : Str := T.flatMap fun L => lineT L ++ [10]
theorem join_snoc (sep : Str) : ∀ (xs : List Str) (x : Str), xs ≠ [] → Lib.join (xs ++ [x]) sep = Lib.join xs sep ++ (sep ++ x)
  | [], _, h => absurd rfl h
  | [a], x, _ => by simp [Lib.join]
  | a :: b :: r, x, _ => by
    have ih := join_snoc sep (b :: r) x (by simp)
    have e : ∀ (y z : Str) (l : List Str), Lib.join (y :: z :: l) sep = y ++ (sep ++ Lib.join (z :: l) sep) := fun y z l => by simp [Lib.join, List.intercalate]
    rw [List.cons_append, List.cons_append, e, e, ← List.cons_append, ih]
    simp
theorem dT_len {d : Dd} (hd : deedE d = 0) : (dT d).length ≤ 31 := by
  obtain ⟨w, r, v, n, rfl, hw1, hw6, hr, hv, hn⟩ := deedN hd
  have hdT : dT ⟨(w : Int), r, v, n⟩ = nm w ++ tl ((if (w : Int) ≠ 1 then [let1 abcd r] else []) ++ (let1 xyzt v :: if numB w = true then [Lib.itoa n] else [])) := join_tl _ _
  have hni := itoa_len (n := (n : Int)) (by omega) (by omega)
  have l0 := nm_len w
  rw [hdT]
  by_cases h1 : (w : Int) ≠ 1
  · rw [if_pos h1]
    by_cases h2 : numB w = true
    · rw [if_pos h2]; simp [tl]; omega
    · rw [if_neg h2]; simp [tl]; omega
  · rw [if_neg h1]
    by_cases h2 : numB w = true
    · rw [if_pos h2]; simp [tl]; omega
    · rw [if_neg h2]; simp [tl]; omega
theorem dT_ne (d : Dd) : dT d ≠ [] := by
  have : dT d = nm d.what.toNat ++ tl ((if d.what ≠ 1 then [let1 abcd d.reg.toNat] else []) ++ (let1 xyzt d.vr.toNat :: if numB d.what = true then [Lib.itoa d.n] else [])) := join_tl _ _
  rw [this]
  intro h
  have := (List.append_eq_nil_iff.1 h).2
  simp [tl] at this
/-- A line's begin. -/
def lineP (L : List Dd) (k : Nat) : Str := Lib.join ((L.take k).map dT) sepD
theorem lineP_zero (L : List Dd) : lineP L 0 = [] := by simp [lineP, Lib.join]
theorem lineP_all (L : List Dd) : lineP L L.length = lineT L := by unfold lineP lineT; rw [List.take_length]
theorem lineP_first {L : List Dd} {d : Dd} (h : L[0]? = some d) : lineP L 1 = dT d := by
  unfold lineP
  cases L with
  | nil => cases h
  | cons a r => cases h; simp [Lib.join]
theorem lineP_next {L : List Dd} {d : Dd} {k : Nat} (hk : 0 < k) (h : L[k]? = some d) : lineP L (k + 1) = lineP L k ++ (sepD ++ dT d) := by
  unfold lineP
  rw [List.take_add_one, h, List.map_append]
  refine join_snoc sepD _ _ ?_
  have := (List.getElem?_eq_some_iff.1 h).1
  intro e
  have e2 := congrArg List.length e
  rw [List.length_map, List.length_take, List.length_nil] at e2
  omega
theorem lineP_len {L : List Dd} (hL : ∀ d ∈ L, deedE d = 0) : ∀ k, k ≤ L.length → (lineP L k).length ≤ 34 * k
  | 0, _ => by rw [lineP_zero]; simp
  | k + 1, hk => by
    obtain ⟨d, hd⟩ : ∃ d, L[k]? = some d := ⟨_, List.getElem?_eq_getElem (by omega)⟩
    have ih := lineP_len hL k (by omega)
    have hdl := dT_len (hL d (List.mem_of_getElem? hd))
    by_cases h0 : k = 0
    · subst h0; rw [lineP_first hd]; omega
    · rw [lineP_next (by omega) hd]; simp; omega
theorem textT_succ {T : List (List Dd)} {i : Nat} {L : List Dd} (h : T[i]? = some L) : textT (T.take (i + 1)) = textT (T.take i) ++ (lineT L ++ [10]) := by
  unfold textT
  rw [List.take_add_one, h, List.flatMap_append]
  simp
theorem textT_len {T : List (List Dd)} (h5 : ∀ L ∈ T, L.length ≤ 5) (hd : ∀ L ∈ T, ∀ d ∈ L, deedE d = 0) : ∀ i, i ≤ T.length → (textT (T.take i)).length ≤ 171 * i
  | 0, _ => by simp [textT]
  | i + 1, hi => by
    obtain ⟨L, hL⟩ : ∃ L, T[i]? = some L := ⟨_, List.getElem?_eq_getElem (by omega)⟩
    have ih := textT_len h5 hd i (by omega)
    have hm := List.mem_of_getElem? hL
    have := lineP_len (hd L hm) L.length (Nat.le_refl _)
    have := h5 L hm
    rw [textT_succ hL, ← lineP_all]
    simp; omega
theorem pickA : ∀ r : Nat, r < 4 → (abcd.take ((r : Int) + 1).toNat).drop (r : Int).toNat = let1 abcd r := by decide +kernel
theorem pickX : ∀ r : Nat, r < 4 → (xyzt.take ((r : Int) + 1).toNat).drop (r : Int).toNat = let1 xyzt r := by decide +kernel
section
set_option maxHeartbeats 8000000
set_option maxRecDepth 10000
variable {h : Hp} {K : Value → Hp → Prop}
theorem one_x (d : Dd) (hd : deedE d = 0) (hk : K (sv (dT d)) h) : X Tryz.prog 21 #[.agg d.cs.toArray] h K := by
  obtain ⟨w, r, v, n, rfl, hw1, hw6, hr, hv, hn⟩ := deedN hd
  have hdT : dT ⟨(w : Int), r, v, n⟩ = nm w ++ tl ((if (w : Int) ≠ 1 then [let1 abcd r] else []) ++ (let1 xyzt v :: if numB w = true then [Lib.itoa n] else [])) := join_tl _ _
  have hdc : (Dd.mk (w : Int) (r : Int) (v : Int) (n : Int)).cs = [zv w, zv r, zv v, zv n] := rfl
  rw [hdT] at hk
  rw [hdc]
  have hr1 := pickA r hr
  have hv1 := pickX v hv
  have hni := itoa_len (n := (n : Int)) (by omega) (by omega)
  have l0 := nm_len w
  have l1 : ∀ (l : Str) (i : Nat), (let1 l i).length = 1 := fun l i => rfl
  generalize hN : nm w = N at *
  generalize hA : let1 abcd r = A at *
  generalize hX : let1 xyzt v = Y at *
  have la : A.length = 1 := by rw [← hA]; rfl
  have ly : Y.length = 1 := by rw [← hX]; rfl
  generalize hZ : Lib.itoa (n : Int) = Z at *
  clear hd hdT hdc l1 hA hX
  refine fnv (args := _) mixed rfXLtd1 [] [] Tryz.func21 rfl (by kernel_rfl) ?_; conv => whnf
  refine rname_x w (by omega) ?_
  rw [hN]
  conv => whnf
  refine reg_x (w : Int) ?_
  conv => whnf
  refine bsel_intro (fun q1 => ?_) (fun q1 => ?_) <;> try simp only [bsL] at q1
  · rw [if_pos q1] at hk
    conv => whnf
    refine cat_intro (b := [32]) (by simp; omega) ?_
    conv => whnf
    (first | refine ov_c (by simp only [loK, hiK]; omega) ?_ | refine ov_c (by decide) ?_); conv => whnf
    (first | refine need_intro (⟨by omega, by show (r : Int) + 1 ≤ ((4 : Nat) : Int); omega⟩) ?_ | refine must.mk (⟨by omega, by show (r : Int) + 1 ≤ ((4 : Nat) : Int); omega⟩) ?_); conv => whnf
    (first | refine need_intro (⟨by omega, by omega⟩) ?_ | refine must.mk (⟨by omega, by omega⟩) ?_); conv => whnf
    refine sub_by hr1 ?_
    conv => whnf
    refine cat_intro (by simp; omega) ?_
    conv => whnf
    refine cat_intro (b := [32]) (by simp; omega) ?_
    conv => whnf
    (first | refine ov_c (by simp only [loK, hiK]; omega) ?_ | refine ov_c (by decide) ?_); conv => whnf
    (first | refine need_intro (⟨by omega, by show (v : Int) + 1 ≤ ((4 : Nat) : Int); omega⟩) ?_ | refine must.mk (⟨by omega, by show (v : Int) + 1 ≤ ((4 : Nat) : Int); omega⟩) ?_); conv => whnf
    (first | refine need_intro (⟨by omega, by omega⟩) ?_ | refine must.mk (⟨by omega, by omega⟩) ?_); conv => whnf
    refine sub_by hv1 ?_
    conv => whnf
    refine cat_intro (by simp; omega) ?_
    conv => whnf
    refine num_x (w : Int) ?_
    cases hnb : numB w with
    | true =>
      rw [hnb] at hk
      conv => whnf
      refine cat_intro (b := [32]) (by simp; omega) ?_
      conv => whnf
      refine rDigits_x (n : Int) (by omega) (by omega) ?_
      rw [hZ]
      conv => whnf
      refine cat_by (m := N ++ tl ([A, Y] ++ [Z])) (by simp; omega) (by simp [tl]) ?_
      conv => whnf
      exact hk
    | false =>
      rw [hnb] at hk
      conv => whnf
      refine kq hk (sI ?_)
      simp [tl]
  · rw [if_neg q1] at hk
    conv => whnf
    refine cat_intro (b := [32]) (by simp; omega) ?_
    conv => whnf
    (first | refine ov_c (by simp only [loK, hiK]; omega) ?_ | refine ov_c (by decide) ?_); conv => whnf
    (first | refine need_intro (⟨by omega, by show (v : Int) + 1 ≤ ((4 : Nat) : Int); omega⟩) ?_ | refine must.mk (⟨by omega, by show (v : Int) + 1 ≤ ((4 : Nat) : Int); omega⟩) ?_); conv => whnf
    (first | refine need_intro (⟨by omega, by omega⟩) ?_ | refine must.mk (⟨by omega, by omega⟩) ?_); conv => whnf
    refine sub_by hv1 ?_
    conv => whnf
    refine cat_intro (by simp; omega) ?_
    conv => whnf
    refine num_x (w : Int) ?_
    cases hnb : numB w with
    | true =>
      rw [hnb] at hk
      conv => whnf
      refine cat_intro (b := [32]) (by simp; omega) ?_
      conv => whnf
      refine rDigits_x (n : Int) (by omega) (by omega) ?_
      rw [hZ]
      conv => whnf
      refine cat_by (m := N ++ tl ([Y] ++ [Z])) (by simp; omega) (by simp [tl]) ?_
      conv => whnf
      exact hk
    | false =>
      rw [hnb] at hk
      conv => whnf
      refine kq hk (sI ?_)
      simp [tl]
theorem text_x (hp : Pow h) (v : Value) (Ts : List Th) (hr : RdP h v Ts)
    (hk0 : ∀ h', h.le h' → chk (Ts.map (·.L)) ≠ 0 → K (.tuple #[.string (bs []), zv (chk (Ts.map (·.L)))]) h') (hk : ∀ h', h.le h' → chk (Ts.map (·.L)) = 0 → K (.tuple #[.string (bs (textT (Ts.map (·.L)))), zv 0]) h') : X Tryz.prog 6 #[.agg #[v]] h K := by
  have hob_ := hr
  obtain ⟨base, cap, rfl, hf1, hf2⟩ := hob_
  refine fnv (args := _) mixed [(1, 1), (15, 1), (9, 9)] [] [] Tryz.func6 rfl (by kernel_rfl) ?_; conv => whnf
  refine check_x _ Ts hr ?_
  conv => whnf
  refine bsel_intro (fun q1 => ?_) (fun q1 => ?_) <;> try simp only [bsL] at q1
  · conv => whnf
    exact hk0 _ (Hp.le_refl _) q1
  obtain ⟨c1, c2, c3, c4⟩ := chk_ok q1
  have hTi : ∀ (i : Nat) (p : Th), Ts[i]? = some p → (Ts.map (·.L))[i]? = some p.L := fun i p hp => by rw [List.getElem?_map, hp]; rfl
  have hTl : (Ts.map (·.L)).length = Ts.length := by rw [List.length_map]
  clear hk0
  generalize Ts.map (·.L) = T at *
  have tlen := textT_len c3 c4
  conv => whnf
  refine new_intro (o := rowO 54 [.pointer none, .slice none 0 0]) (fun b h1 n_b le_b at_b ot_b => ?_); conv => whnf
  have hB1 := Bds.of (k := h) le_b n_b at_b
  refine loop_at [18] [] (fun r vs _ h' => ∃ i : Nat, i ≤ Ts.length ∧ r = Ts.length - i ∧ vs = [.v (zv i)] ∧ Bds 54 h h' b (textT (T.take i))) Ts.length ⟨0, by omega, by omega, rfl, by simpa [textT] using hB1⟩ ?_
  clear hB1 at_b ot_b le_b n_b
  rintro r vs cs mm bx h2 ⟨i, hi, rfl, rfl, hB⟩
  have hti := tlen i (by omega)
  conv => whnf
  refine bsel_intro (fun q2 => ?_) (fun q2 => ?_) <;> try simp only [bsL] at q2
  · have hiT : i < Ts.length := by omega
    obtain ⟨⟨pa, pc, pL⟩, hp9⟩ : ∃ p, Ts[i]? = some p := ⟨_, List.getElem?_eq_getElem hiT⟩
    obtain ⟨b1, rfl, l1⟩ := hf1 i _ hp9
    have g1 := hf2 _ (List.mem_of_getElem? hp9)
    have hTp := hTi _ _ hp9
    simp only [] at g1 hTp
    have h5 := c3 _ (List.mem_of_getElem? hTp)
    have hd0 := c4 _ (List.mem_of_getElem? hTp)
    have hts := textT_succ hTp
    have lpl := lineP_len hd0
    conv => whnf
    (first | refine need_intro (⟨by omega, by omega⟩) ?_ | refine must.mk (⟨by omega, by omega⟩) ?_); conv => whnf
    refine ⟨_, loadH_le hB.le l1, ?_⟩; conv => whnf
    refine loop_at [24] [] (fun r vs _ h' => ∃ k : Nat, k ≤ pL.length ∧ r = pL.length - k ∧ vs = [.v (zv k)] ∧ Bds 54 h h' b (textT (T.take i) ++ lineP pL k)) pL.length ⟨0, by omega, by omega, rfl, by rw [lineP_zero, List.append_nil]; exact hB⟩ ?_
    clear hB
    rintro r vs cs mm bx h3 ⟨k, hk9, rfl, rfl, hB⟩
    have hlk := lpl k hk9
    conv => whnf
    refine bsel_intro (fun q3 => ?_) (fun q3 => ?_) <;> try simp only [bsL] at q3
    · have hkL : k < pL.length := by omega
      obtain ⟨d, hdd⟩ : ∃ d, pL[k]? = some d := ⟨_, List.getElem?_eq_getElem hkL⟩
      obtain ⟨b2, rfl, l2⟩ := g1 k d hdd
      have hde := hd0 d (List.mem_of_getElem? hdd)
      have hdl := dT_len hde
      conv => whnf
      (first | refine need_intro (⟨by omega, by omega⟩) ?_ | refine must.mk (⟨by omega, by omega⟩) ?_); conv => whnf
      refine ⟨_, loadH_le hB.le l2, ?_⟩; conv => whnf
      refine bsel_intro (fun q4 => ?_) (fun q4 => ?_) <;> try simp only [bsL] at q4
      · have hnx := lineP_next (L := pL) (show 0 < k by omega) hdd
        conv => whnf
        refine hB.ws liesB sepD (by simp) (by simp; omega) fun h4 hB => ?_
        conv => whnf
        refine dshow_x (hp.le hB.le) d hde fun h5 le5 => ?_
        have hB := hB.up le5
        conv => whnf
        refine hB.ws liesB (dT d) (dT_ne d) (by simp; omega) fun h6 hB => ?_
        have hB : Bds 54 h h6 b (textT (T.take i) ++ lineP pL (k + 1)) := by
          rw [hnx]; simpa using hB
        conv => whnf
        (first | refine ov_c (by simp only [loK, hiK]; omega) ?_ | refine ov_c (by decide) ?_); conv => whnf
        exact ⟨pL.length - (k + 1), by omega, k + 1, by omega, rfl, rfl, hB⟩
      · have hk0 : k = 0 := by omega
        subst hk0
        have hnx := lineP_first hdd
        rw [lineP_zero, List.append_nil] at hB
        conv => whnf
        refine dshow_x (hp.le hB.le) d hde fun h5 le5 => ?_
        have hB := hB.up le5
        conv => whnf
        refine hB.ws liesB (dT d) (dT_ne d) (by simp; omega) fun h6 hB => ?_
        have hB : Bds 54 h h6 b (textT (T.take i) ++ lineP pL (0 + 1)) := by
          rw [hnx]; exact hB
        conv => whnf
        (first | refine ov_c (by simp only [loK, hiK]; omega) ?_ | refine ov_c (by decide) ?_); conv => whnf
        exact ⟨pL.length - (0 + 1), by omega, 0 + 1, by omega, rfl, rfl, hB⟩
    · have hkn : k = pL.length := by omega
      subst hkn
      rw [lineP_all] at hB hlk
      conv => whnf
      refine hB.wb liesB 10 (by simp; omega) fun h4 hB => ?_
      rw [List.append_assoc, ← hts] at hB
      conv => whnf
      (first | refine ov_c (by simp only [loK, hiK]; omega) ?_ | refine ov_c (by decide) ?_); conv => whnf
      exact ⟨Ts.length - (i + 1), by omega, i + 1, by omega, rfl, rfl, hB⟩
  · have hin : i = Ts.length := by omega
    subst hin
    rw [← hTl, List.take_length] at hB hti
    conv => whnf
    refine hB.str (by omega) fun h3 le3 => ?_
    conv => whnf
    exact hk _ le3 q1
end
end Go.Proofs.YtciagjfemgfhgaaGreatDoor
/-! A test's text: the document's. -/
namespace Go.Proofs.YtciagjfemgfhgaaGreatDoor
set_option linter.unusedSimpArgs false
set_option linter.unusedVariables false
open Go Go.Mid Go.RowKit
attribute [local irreducible] mid
section
set_option maxHeartbeats 8000000
set_option maxRecDepth 10000
variable {h : Hp} {K : Value → Hp → Prop}
theorem rtext_x (v : Value) (Ts : List Th) (hr : RdR h v Ts)
    (hk0 : chk (Ts.map (·.L)) ≠ 0 → K (.tuple #[.string (bs []), zv (chk (Ts.map (·.L)))]) h) (hk : chk (Ts.map (·.L)) = 0 → K (.tuple #[.string (bs (textT (Ts.map (·.L)))), zv 0]) h) : X Tryz.prog 7 #[v] h K := by
  have hob_ := hr
  obtain ⟨base, cap, rfl, hf1, hf2⟩ := hob_
  refine fnv (args := _) mixed [] [] [] Tryz.func7 rfl (by kernel_rfl) ?_; conv => whnf
  refine rcheck_x _ Ts hr ?_
  conv => whnf
  refine bsel_intro (fun q1 => ?_) (fun q1 => ?_) <;> try simp only [bsL] at q1
  · conv => whnf
    exact hk0 q1
  have q1 : chk (Ts.map (·.L)) = 0 := by simpa using q1
  obtain ⟨c1, c2, c3, c4⟩ := chk_ok q1
  have hTi : ∀ (i : Nat) (p : Th), Ts[i]? = some p → (Ts.map (·.L))[i]? = some p.L := fun i p hp => by rw [List.getElem?_map, hp]; rfl
  have hTl : (Ts.map (·.L)).length = Ts.length := by rw [List.length_map]
  clear hk0
  generalize Ts.map (·.L) = T at *
  have tlen := textT_len c3 c4
  conv => whnf
  refine loop_at [6, 5] [] (fun r vs _ h' => h = h' ∧ ∃ i : Nat, i ≤ Ts.length ∧ r = Ts.length - i ∧ vs = [.v (zv i), .v (.string (bs (textT (T.take i))))]) Ts.length ⟨rfl, 0, by omega, by omega, rfl⟩ ?_
  rintro r vs cs mm bx _ ⟨rfl, i, hi, rfl, rfl⟩
  have hti := tlen i (by omega)
  conv => whnf
  refine bsel_intro (fun q2 => ?_) (fun q2 => ?_) <;> try simp only [bsL] at q2
  · have hiT : i < Ts.length := by omega
    obtain ⟨⟨pa, pc, pL⟩, hp9⟩ : ∃ p, Ts[i]? = some p := ⟨_, List.getElem?_eq_getElem hiT⟩
    obtain ⟨b1, rfl, l1⟩ := hf1 i _ hp9
    have g1 := hf2 _ (List.mem_of_getElem? hp9)
    have hTp := hTi _ _ hp9
    simp only [] at g1 hTp
    have h5 := c3 _ (List.mem_of_getElem? hTp)
    have hd0 := c4 _ (List.mem_of_getElem? hTp)
    have hts := textT_succ hTp
    have lpl := lineP_len hd0
    conv => whnf
    refine loop_at [7, 5] [] (fun r vs _ h' => h = h' ∧ ∃ (k : Nat) (s : Str), s = textT (T.take i) ++ lineP pL k ∧ k ≤ pL.length ∧ r = pL.length - k ∧ vs = [.v (zv k), .v (.string (bs s))]) pL.length ⟨rfl, 0, _, by rw [lineP_zero, List.append_nil], by omega, by omega, rfl⟩ ?_
    rintro r vs cs mm bx _ ⟨rfl, k, s, hs, hk9, rfl, rfl⟩
    have hlk := lpl k hk9
    have hsl : s.length ≤ 800 := by rw [hs]; simp; omega
    conv => whnf
    (first | refine need_intro (⟨by omega, by omega⟩) ?_ | refine must.mk (⟨by omega, by omega⟩) ?_); conv => whnf
    refine ⟨_, l1, ?_⟩; conv => whnf
    refine bsel_intro (fun q3 => ?_) (fun q3 => ?_) <;> try simp only [bsL] at q3
    · have hkL : k < pL.length := by omega
      obtain ⟨d, hdd⟩ : ∃ d, pL[k]? = some d := ⟨_, List.getElem?_eq_getElem hkL⟩
      obtain ⟨b2, rfl, l2⟩ := g1 k d hdd
      have hde := hd0 d (List.mem_of_getElem? hdd)
      have hdl := dT_len hde
      conv => whnf
      refine bsel_intro (fun q4 => ?_) (fun q4 => ?_) <;> try simp only [bsL] at q4
      · have hnx := lineP_next (L := pL) (show 0 < k by omega) hdd
        conv => whnf
        refine cat_intro (b := sepD) (by simp; omega) ?_
        conv => whnf
        (first | refine need_intro (⟨by omega, by omega⟩) ?_ | refine must.mk (⟨by omega, by omega⟩) ?_); conv => whnf
        refine ⟨_, l1, ?_⟩; conv => whnf
        (first | refine need_intro (⟨by omega, by omega⟩) ?_ | refine must.mk (⟨by omega, by omega⟩) ?_); conv => whnf
        refine ⟨_, l2, ?_⟩; conv => whnf
        refine one_x d hde ?_
        conv => whnf
        refine cat_by (m := s ++ sepD ++ dT d) (by simp; omega) rfl ?_
        conv => whnf
        (first | refine ov_c (by simp only [loK, hiK]; omega) ?_ | refine ov_c (by decide) ?_); conv => whnf
        exact ⟨pL.length - (k + 1), by omega, rfl, k + 1, s ++ sepD ++ dT d, by rw [hs, hnx]; simp, by omega, rfl, rfl⟩
      · have hk0 : k = 0 := by omega
        subst hk0
        have hnx := lineP_first hdd
        rw [lineP_zero, List.append_nil] at hs
        conv => whnf
        (first | refine need_intro (⟨by omega, by omega⟩) ?_ | refine must.mk (⟨by omega, by omega⟩) ?_); conv => whnf
        refine ⟨_, l1, ?_⟩; conv => whnf
        (first | refine need_intro (⟨by omega, by omega⟩) ?_ | refine must.mk (⟨by omega, by omega⟩) ?_); conv => whnf
        refine ⟨_, l2, ?_⟩; conv => whnf
        refine one_x d hde ?_
        conv => whnf
        refine cat_by (m := s ++ dT d) (by omega) rfl ?_
        conv => whnf
        (first | refine ov_c (by simp only [loK, hiK]; omega) ?_ | refine ov_c (by decide) ?_); conv => whnf
        exact ⟨pL.length - (0 + 1), by omega, rfl, 0 + 1, s ++ dT d, by rw [hs, hnx], by omega, rfl, rfl⟩
    · have hkn : k = pL.length := by omega
      subst hkn
      rw [lineP_all] at hs hlk
      have hs2 : s ++ [10] = textT (T.take (i + 1)) := by rw [hs, hts, List.append_assoc]
      conv => whnf
      refine cat_by (b := [10]) (m := textT (T.take (i + 1))) (by simp; omega) hs2 ?_
      conv => whnf
      (first | refine ov_c (by simp only [loK, hiK]; omega) ?_ | refine ov_c (by decide) ?_); conv => whnf
      exact ⟨Ts.length - (i + 1), by omega, rfl, i + 1, by omega, rfl, rfl⟩
  · have hin : i = Ts.length := by omega
    subst hin
    have hk := hk q1
    rw [← List.take_length (l := T), hTl] at hk
    conv => whnf
    exact hk
end
end Go.Proofs.YtciagjfemgfhgaaGreatDoor
/-! Tests of texts: the plain law. -/
namespace Go.Proofs.YtciagjfemgfhgaaGreatDoor
set_option linter.unusedSimpArgs false
set_option linter.unusedVariables false
open Go Go.Mid Go.RowKit
attribute [local irreducible] mid
/-- Where a letter stands. -/
def letF (among : Str) : Str → Option Nat
  | [c] => among.findIdx? (· == c)
  | _ => none
/-- Which deed a word names; 0: none. -/
def whatN (w : Str) : Nat := if w = nm 1 then 1 else if w = nm 2 then 2 else if w = nm 3 then 3 else if w = nm 4 then 4 else if w = nm 5 then 5 else if w = nm 6 then 6 else 0
/-- A number that isn't below 0, written as numbers are. -/
def natS (s : Str) : Option Nat := match Lib.parseIntB 64 s with
  | .ok v => if 0 ≤ v ∧ Lib.itoa v = s then some v.toNat else none
  | _ => none
abbrev dZ : Dd := ⟨0, 0, 0, 0⟩
def readV (k r : Nat) : List Str → Dd × Int
  | [] => (dZ, 2)
  | b :: l => match letF xyzt b with
    | none => (dZ, 2)
    | some v => if numB k = true then match l with
        | [c] => match natS c with
          | none => (dZ, 2)
          | some n => if 255 < n then (dZ, 3) else (⟨k, r, v, n⟩, 0)
        | _ => (dZ, 2)
      else if l = [] then (⟨k, r, v, 0⟩, 0) else (dZ, 2)
def readL (k : Nat) (l : List Str) : Dd × Int := if k = 0 then (dZ, 2) else if k = 1 then readV k 0 l else match l with
  | [] => (dZ, 2)
  | a :: l => match letF abcd a with
    | none => (dZ, 2)
    | some r => readV k r l
/-- The deed of a text. -/
def readS (s : Str) : Dd × Int := readL (whatN ((sp [32] s).headD [])) (sp [32] s).tail
def goS : List Str → List Dd → List Dd × Int
  | [], acc => (acc, 0)
  | s :: r, acc => if (readS s).2 ≠ 0 then ([], (readS s).2) else if acc.length = 5 then ([], 4) else goS r (acc ++ [(readS s).1])
/-- The deeds of a line. -/
def threadS (line : Str) : List Dd × Int := if line = [] then ([], 0) else goS (sp sepD line) []
abbrev lineOf (text : Str) : Str := text.takeWhile (· != 10)
def parseF : Nat → Nat → List (List Dd) → Str → List (List Dd) × Int × Int
  | 0, _, _, _ => ([], 0, 0)
  | f + 1, n, acc, text => if text = [] ∧ n ≠ 1 then (acc, 0, 0) else if (10 : UInt8) ∉ text then ([], n, 5) else if 3 < n then ([], n, 4)
    else if (threadS (lineOf text)).2 ≠ 0 then ([], n, (threadS (lineOf text)).2) else parseF f (n + 1) (acc ++ [(threadS (lineOf text)).1]) (text.drop ((lineOf text).length + 1))
/-- The test of a text. -/
def parseS (text : Str) : List (List Dd) × Int × Int := parseF 5 1 [] text
theorem occ_cons {s sub : Str} {i : Nat} : Lib.occAt s sub i = sub.isPrefixOf (s.drop i) := rfl
theorem sp_J : ∀ {xs : List Str}, xs ≠ [] → (∀ x ∈ xs, (32 : UInt8) ∉ x) → sp [32] (J xs) = xs
  | [], h, _ => absurd rfl h
  | [x], _, h => by
    show sp [32] (Lib.join [x] [32]) = _
    have : Lib.join [x] [32] = x := by simp [Lib.join]
    rw [this]
    exact sp_end (h x (by simp))
  | x :: y :: r, _, h => by
    have ih := sp_J (xs := y :: r) (by simp) (fun z hz => h z (by simp [hz]))
    have e : J (x :: y :: r) = x ++ 32 :: J (y :: r) := by simp [Lib.join, List.intercalate]
    rw [e, sp_one (h x (by simp)), ih]
theorem idx_sep {x r : Str} (h : (59 : UInt8) ∉ x) : Lib.index (x ++ (sepD ++ r)) sepD = (x.length : Nat) := by
  refine Lib.index_first (by simp) ?_ fun j hj => ?_
  · rw [occ_cons, List.drop_left]; simp [List.isPrefixOf]
  · rw [occ_cons, List.drop_append_of_le_length (by omega), List.drop_eq_getElem_cons hj]
    by_cases h1 : j + 1 < x.length
    · rw [List.drop_eq_getElem_cons h1]
      have : x[j + 1] ≠ 59 := fun e => h (e ▸ List.getElem_mem h1)
      simp only [List.cons_append, List.isPrefixOf, Bool.and_eq_false_iff, beq_eq_false_iff_ne]
      exact .inr (.inl (Ne.symm this))
    · rw [List.drop_eq_nil_of_le (by omega)]
      simp [List.isPrefixOf]
theorem idx_sepno {x : Str} (h : (59 : UInt8) ∉ x) : Lib.index x sepD = -1 := by
  rcases Lib.index_spec x sepD with ⟨h1, _⟩ | ⟨i, h1, h2, h3, _⟩
  · exact h1
  · rw [occ_cons] at h3
    match hd : x.drop i with
    | [] => rw [hd] at h3; simp at h3
    | [a] => rw [hd] at h3; simp [List.isPrefixOf] at h3
    | a :: b :: q =>
      rw [hd] at h3
      simp only [List.isPrefixOf, Bool.and_eq_true, beq_iff_eq] at h3
      refine absurd (List.mem_of_mem_drop (i := i) ?_) h
      rw [hd, h3.2.1]; simp
theorem sp_lines : ∀ {xs : List Str}, xs ≠ [] → (∀ x ∈ xs, (59 : UInt8) ∉ x) → sp sepD (Lib.join xs sepD) = xs
  | [], h, _ => absurd rfl h
  | [x], _, h => by
    have : Lib.join [x] sepD = x := by simp [Lib.join]
    rw [this]
    exact sp_miss (idx_sepno (h x (by simp)))
  | x :: y :: r, _, h => by
    have ih := sp_lines (xs := y :: r) (by simp) (fun z hz => h z (by simp [hz]))
    have e : Lib.join (x :: y :: r) sepD = x ++ (sepD ++ Lib.join (y :: r) sepD) := by simp [Lib.join, List.intercalate]
    rw [e, sp_hit (by simp) (idx_sep (h x (by simp))), List.take_left, ← List.drop_drop, List.drop_left, List.drop_left, ih]
theorem line_split {text : Str} (h : (10 : UInt8) ∈ text) : text = lineOf text ++ 10 :: text.drop ((lineOf text).length + 1) ∧ (10 : UInt8) ∉ lineOf text := by
  induction text with
  | nil => cases h
  | cons a r ih =>
    unfold lineOf
    by_cases ha : a = 10
    · subst ha
      simp
    · have hr : (10 : UInt8) ∈ r := (List.mem_cons.1 h).resolve_left (Ne.symm ha)
      obtain ⟨h1, h2⟩ := ih hr
      have e : List.takeWhile (fun x => x != 10) (a :: r) = a :: lineOf r := by simp [lineOf, List.takeWhile_cons, ha]
      rw [e]
      refine ⟨?_, ?_⟩
      · rw [List.length_cons, List.drop_succ_cons, List.cons_append, ← h1]
      · intro hm
        rcases List.mem_cons.1 hm with hm | hm
        · exact ha hm.symm
        · exact h2 hm
theorem cut_yes {text : Str} (h : (10 : UInt8) ∈ text) : Lib.cut text [10] = (lineOf text, text.drop ((lineOf text).length + 1), true) := by
  obtain ⟨h1, h2⟩ := line_split h
  have hi : Lib.index text [10] = ((lineOf text).length : Nat) := by
    have := idx_byte (r := text.drop ((lineOf text).length + 1)) h2
    rwa [← h1] at this
  unfold Lib.cut
  rw [hi, if_pos (by omega), Int.toNat_natCast]
  congr 1
  have e : text.take (lineOf text).length = (lineOf text ++ 10 :: text.drop ((lineOf text).length + 1)).take (lineOf text).length := by rw [← h1]
  rw [e, List.take_left]
theorem cut_no {text : Str} (h : (10 : UInt8) ∉ text) : Lib.cut text [10] = (text, [], false) := by
  unfold Lib.cut
  rw [idx_no h, if_neg (by decide)]
theorem letF_lt {l w : Str} {i : Nat} (h : letF l w = some i) : i < l.length := by
  unfold letF at h
  split at h
  · exact (List.findIdx?_eq_some_iff_findIdx_eq.1 h).1
  · cases h
theorem indexByte_eq (c : UInt8) : ∀ l : Str, Lib.indexByte l c = match l.findIdx? (· == c) with
    | some i => (i : Int)
    | none => -1
  | [] => rfl
  | b :: l => by
    unfold Lib.indexByte
    rw [List.findIdx?_cons, indexByte_eq c l]
    by_cases hb : (b == c) = true
    · rw [if_pos hb, if_pos hb]; rfl
    · rw [if_neg hb, if_neg hb]
      cases l.findIdx? (· == c) with
      | none => rfl
      | some i => simp
theorem idxOf_nm (w : Str) : (Lib.idxOfS (nms.map bs) (bs w) < 1 ↔ whatN w = 0) ∧ (1 ≤ Lib.idxOfS (nms.map bs) (bs w) → Lib.idxOfS (nms.map bs) (bs w) = whatN w) := by
  have e : ∀ z : Str, (bs z = bs w) ↔ (w = z) := fun z => ⟨fun h => (congrArg (fun b : ByteArray => b.data.toList) h).symm, fun h => by rw [h]⟩
  have h0 : ([] : Str) = w ∨ ([] : Str) ≠ w := Classical.em _
  unfold Lib.idxOfS whatN nms
  simp only [List.map_cons, List.map_nil, Lib.idxFromS, e]
  show _ ∧ _
  have m1 : nm 1 = [115, 116, 111, 114, 101] := rfl
  have m2 : nm 2 = [108, 111, 97, 100] := rfl
  have m3 : nm 3 = [97, 100, 100] := rfl
  have m4 : nm 4 = [115, 119, 97, 112] := rfl
  have m5 : nm 5 = [108, 105, 110, 107] := rfl
  have m6 : nm 6 = [99, 111, 110, 100] := rfl
  rw [m1, m2, m3, m4, m5, m6]
  by_cases c0 : w = []
  · subst c0; decide
  rw [if_neg c0]
  by_cases c1 : w = [115, 116, 111, 114, 101]
  · subst c1; decide
  rw [if_neg c1, if_neg c1]
  by_cases c2 : w = [108, 111, 97, 100]
  · subst c2; decide
  rw [if_neg c2, if_neg c2]
  by_cases c3 : w = [97, 100, 100]
  · subst c3; decide
  rw [if_neg c3, if_neg c3]
  by_cases c4 : w = [115, 119, 97, 112]
  · subst c4; decide
  rw [if_neg c4, if_neg c4]
  by_cases c5 : w = [108, 105, 110, 107]
  · subst c5; decide
  rw [if_neg c5, if_neg c5]
  by_cases c6 : w = [99, 111, 110, 100]
  · subst c6; decide
  rw [if_neg c6, if_neg c6]
  decide
theorem whatN_le (w : Str) : whatN w ≤ 6 := by
  unfold whatN
  (repeat' split) <;> omega
theorem whatN_nm {w k : Nat} (h : k = w) (h1 : 1 ≤ w) (h6 : w ≤ 6) : whatN (nm k) = w := by
  subst h
  match k, h1, h6 with
  | 1, _, _ => decide +kernel
  | 2, _, _ => decide +kernel
  | 3, _, _ => decide +kernel
  | 4, _, _ => decide +kernel
  | 5, _, _ => decide +kernel
  | 6, _, _ => decide +kernel
theorem pm_dv {M : Nat} (hM : M = 18446744073709551615) : ∀ (l : Str) (acc : Nat), digs l → (l.foldl (fun a b => 10 * a + (b.toNat - 48)) acc) ≤ M → Lib.parseUintM M acc l = .ok (l.foldl (fun a b => 10 * a + (b.toNat - 48)) acc)
  | [], acc, _, _ => rfl
  | b :: r, acc, hd, hle => by
    have hb := hd b (by simp)
    have mono : ∀ (q : Str) (a : Nat), a ≤ q.foldl (fun a b => 10 * a + (b.toNat - 48)) a := fun q => by
      induction q with
      | nil => intro a; exact Nat.le_refl _
      | cons y q ih => intro a; exact Nat.le_trans (by omega) (ih (10 * a + (y.toNat - 48)))
    have hm := mono r (10 * acc + (b.toNat - 48))
    simp only [List.foldl_cons] at hle ⊢
    unfold Lib.parseUintM
    rw [if_pos hb, if_neg (by omega), if_neg (by omega), show acc * 10 + (b.toNat - 48) = 10 * acc + (b.toNat - 48) by omega]
    exact pm_dv hM r _ (fun x hx => hd x (by simp [hx])) hle
theorem natS_dec {n : Nat} (h : n < 9223372036854775808) : natS (Lib.decDigits n) = some n := by
  obtain ⟨h1, h2⟩ := dec_dv n
  have hne : Lib.decDigits n ≠ [] := fun e => by
    have l1 := Lib.decDigits_length n
    have l2 := Lib.nDigits_pos n
    rw [e] at l1; simp at l1; omega
  have hp : Lib.parseIntB 64 (Lib.decDigits n) = .ok (n : Int) := by
    have hu : Lib.parseUintB 64 (Lib.decDigits n) = .ok n := by
      unfold Lib.parseUintB
      rw [if_neg hne]
      have := pm_dv (M := 2 ^ 64 - 1) (by decide) (Lib.decDigits n) 0 h2 (by
        show dv _ ≤ _
        rw [h1]; omega)
      rw [this]
      show Lib.NumEnd.ok (dv _) = _
      rw [h1]
    cases hl : Lib.decDigits n with
    | nil => exact absurd hl hne
    | cons c r =>
      have hc := h2 c (by rw [hl]; simp)
      rw [hl] at hu
      unfold Lib.parseIntB
      simp only
      rw [if_neg (by omega), hu]
      simp only
      rw [if_neg (by omega), if_neg (by omega), if_neg (by omega)]
  unfold natS
  rw [hp]
  simp only
  rw [if_pos ⟨by omega, Lib.itoa_nonneg n⟩, Int.toNat_natCast]
theorem natS_inv {s : Str} {n : Nat} (h : natS s = some n) : s = Lib.decDigits n ∧ n < 9223372036854775808 := by
  unfold natS at h
  split at h
  · rename_i v hv
    split at h
    · rename_i hc
      cases h
      have hb := Lib.parseIntB_bounds hv
      obtain ⟨m, rfl⟩ : ∃ m : Nat, v = m := ⟨v.toNat, by omega⟩
      rw [Int.toNat_natCast]
      rw [Lib.itoa_nonneg] at hc
      exact ⟨hc.2.symm, by omega⟩
    · cases h
  · cases h
end Go.Proofs.YtciagjfemgfhgaaGreatDoor
