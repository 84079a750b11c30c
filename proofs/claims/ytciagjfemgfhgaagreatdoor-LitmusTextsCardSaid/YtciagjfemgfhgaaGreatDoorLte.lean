/-
  Tests of texts: what is written is read as it was.
-/
import Derived.Test.YtciagjfemgfhgaaGreatDoorLtd
import Derived.Test.YtciagjfemgfhgaaGreatDoorLibY
/-! Tests of texts: what is written is read as it was. -/
namespace Go.Proofs.YtciagjfemgfhgaaGreatDoor
set_option linter.unusedSimpArgs false
set_option linter.unusedVariables false
open Go Go.Mid Go.RowKit
abbrev rfXLte0 : Go.Mid.RF := [(2, 2), (6, 6), (25, 6), (30, 6), (55, 6), (67, 6), (108, 6)]
attribute [local irreducible] mid
/-- A digit, or a small letter. -/
def okB (b : UInt8) : Prop := (48 ≤ b.toNat ∧ b.toNat ≤ 57) ∨ (97 ≤ b.toNat ∧ b.toNat ≤ 122)
theorem nm_ok : ∀ w : Nat, w < 7 → ∀ b ∈ nm w, okB b := by unfold okB; decide +kernel
theorem abcd_ok : ∀ r : Nat, r < 4 → ∀ b ∈ let1 abcd r, okB b := by unfold okB; decide +kernel
theorem xyzt_ok : ∀ r : Nat, r < 4 → ∀ b ∈ let1 xyzt r, okB b := by unfold okB; decide +kernel
theorem abcd_F : ∀ r : Nat, r < 4 → letF abcd (let1 abcd r) = some r := by decide +kernel
theorem xyzt_F : ∀ r : Nat, r < 4 → letF xyzt (let1 xyzt r) = some r := by decide +kernel
theorem dW_at {w r v n : Nat} : dW ⟨(w : Int), r, v, n⟩ = nm w :: ((if (w : Int) ≠ 1 then [let1 abcd r] else []) ++ (let1 xyzt v :: if numB w = true then [Lib.decDigits n] else [])) := by
  unfold dW
  simp only [Int.toNat_natCast, Lib.itoa_nonneg]
theorem dW_ok {d : Dd} (hd : deedE d = 0) : ∀ x ∈ dW d, ∀ b ∈ x, okB b := by
  obtain ⟨w, r, v, n, rfl, hw1, hw6, hr, hv, hn⟩ := deedN hd
  rw [dW_at]
  intro x hx
  rcases List.mem_cons.1 hx with rfl | hx
  · exact nm_ok w (by omega)
  rcases List.mem_append.1 hx with hx | hx
  · split at hx
    · simp only [List.mem_singleton] at hx; subst hx; exact abcd_ok r hr
    · cases hx
  rcases List.mem_cons.1 hx with rfl | hx
  · exact xyzt_ok v hv
  · split at hx
    · simp only [List.mem_singleton] at hx; subst hx
      intro b hb
      exact .inl ((dec_dv n).2 b hb)
    · cases hx
theorem join_mem {sep : Str} {b : UInt8} : ∀ {xs : List Str}, b ∈ Lib.join xs sep → b ∈ sep ∨ ∃ x ∈ xs, b ∈ x
  | [], h => by simp [Lib.join] at h
  | [x], h => .inr ⟨x, by simp, by simpa [Lib.join] using h⟩
  | x :: y :: r, h => by
    have e : Lib.join (x :: y :: r) sep = x ++ (sep ++ Lib.join (y :: r) sep) := by simp [Lib.join, List.intercalate]
    rw [e] at h
    rcases List.mem_append.1 h with h | h
    · exact .inr ⟨x, by simp, h⟩
    rcases List.mem_append.1 h with h | h
    · exact .inl h
    rcases join_mem h with h | ⟨z, hz, h⟩
    · exact .inl h
    · exact .inr ⟨z, by simp [hz], h⟩
theorem dT_mem {d : Dd} (hd : deedE d = 0) {b : UInt8} (h : b ∈ dT d) : okB b ∨ b = 32 := by
  rcases join_mem h with h | ⟨x, hx, h⟩
  · simp only [List.mem_singleton] at h; exact .inr h
  · exact .inl (dW_ok hd x hx b h)
theorem ok_ne {b : UInt8} (h : okB b) : b ≠ 32 ∧ b ≠ 59 ∧ b ≠ 10 := by
  unfold okB at h
  refine ⟨fun e => ?_, fun e => ?_, fun e => ?_⟩ <;> (subst e; revert h; decide)
theorem readS_dT {d : Dd} (hd : deedE d = 0) : readS (dT d) = (d, 0) := by
  have hsp : sp [32] (dT d) = dW d := sp_J (by unfold dW; simp) fun x hx hm => (ok_ne (dW_ok hd x hx 32 hm)).1 rfl
  unfold readS
  rw [hsp]
  obtain ⟨w, r, v, n, rfl, hw1, hw6, hr, hv, hn⟩ := deedN hd
  rw [dW_at]
  show readL (whatN (nm w)) ((if (w : Int) ≠ 1 then [let1 abcd r] else []) ++ (let1 xyzt v :: if numB w = true then [Lib.decDigits n] else [])) = _
  rw [whatN_nm rfl hw1 hw6]
  have hnat := natS_dec (n := n) (by omega)
  have hn0 : ¬ numB w = true → n = 0 := fun hb => by
    unfold deedE at hd
    split at hd
    · cases hd
    split at hd
    · cases hd
    split at hd
    · cases hd
    · rename_i h1
      apply Classical.byContradiction
      intro h2
      exact h1 (.inr ⟨by simpa using hb, by simpa using h2⟩)
  have hv2 : ∀ q : Nat, readV w q (let1 xyzt v :: if numB w = true then [Lib.decDigits n] else []) = (⟨w, q, v, n⟩, 0) := fun q => by
    by_cases hb : numB w = true
    · simp only [readV, xyzt_F v hv, hb, if_true, hnat]
      rw [if_neg (by omega)]
    · simp only [readV, xyzt_F v hv, hb, hn0 hb]
      rfl
  have hr0 : w = 1 → r = 0 := fun hb => by
    unfold deedE at hd
    split at hd
    · cases hd
    split at hd
    · cases hd
    split at hd
    · cases hd
    · rename_i h1
      apply Classical.byContradiction
      intro h2
      exact h1 (.inl ⟨by simp [hb], by simpa using h2⟩)
  unfold readL
  rw [if_neg (by omega)]
  by_cases h1 : w = 1
  · rw [if_pos h1, if_neg (by omega), List.nil_append, hv2, hr0 h1]
  · rw [if_neg h1, if_pos (by omega)]
    show (match letF abcd (let1 abcd r) with
      | none => (dZ, 2)
      | some r => readV w r (let1 xyzt v :: if numB w = true then [Lib.decDigits n] else [])) = _
    rw [abcd_F r hr]
    simp only
    rw [hv2]
theorem goS_map : ∀ (L acc : List Dd), (∀ d ∈ L, deedE d = 0) → acc.length + L.length ≤ 5 → goS (L.map dT) acc = (acc ++ L, 0)
  | [], acc, _, _ => by simp [goS]
  | d :: L, acc, hd, hl => by
    have h1 := readS_dT (hd d (by simp))
    simp only [List.map_cons, goS, h1]
    rw [if_neg (by simp), if_neg (by simp at hl; omega), goS_map L _ (fun x hx => hd x (by simp [hx])) (by simp at hl ⊢; omega)]
    simp
theorem threadS_line {L : List Dd} (hd : ∀ d ∈ L, deedE d = 0) (hl : L.length ≤ 5) : threadS (lineT L) = (L, 0) := by
  unfold threadS
  cases hL : L with
  | nil => rfl
  | cons d r =>
    rw [← hL]
    have hne : L.map dT ≠ [] := by rw [hL]; simp
    have hl0 : lineT L ≠ [] := by
      rw [← lineP_all, hL]
      intro e
      have h1 : (lineP (d :: r) (d :: r).length).length = 0 := by rw [e]; rfl
      have hmono : ∀ k, 0 < k → k ≤ (d :: r).length → 0 < (lineP (d :: r) k).length := fun k => by
        induction k with
        | zero => intro h; omega
        | succ k ih =>
          intro _ hk
          obtain ⟨x, hx⟩ : ∃ x, (d :: r)[k]? = some x := ⟨_, List.getElem?_eq_getElem (by omega)⟩
          have := List.length_pos_iff.2 (dT_ne x)
          by_cases h0 : k = 0
          · subst h0; rw [lineP_first hx]; exact this
          · rw [lineP_next (by omega) hx]; simp; omega
      have := hmono (d :: r).length (by simp) (Nat.le_refl _)
      omega
    rw [if_neg hl0]
    unfold lineT
    rw [sp_lines hne (fun x hx hm => by
      obtain ⟨z, hz, rfl⟩ := List.mem_map.1 hx
      rcases dT_mem (hd z hz) hm with h | h
      · exact (ok_ne h).2.1 rfl
      · cases h), goS_map L [] hd (by simpa using hl)]
    rfl
theorem line_no {L : List Dd} (hd : ∀ d ∈ L, deedE d = 0) : (10 : UInt8) ∉ lineT L := fun hm => by
  rcases join_mem hm with h | ⟨x, hx, h⟩
  · simp at h
  · obtain ⟨z, hz, rfl⟩ := List.mem_map.1 hx
    rcases dT_mem (hd z hz) h with h | h
    · exact (ok_ne h).2.2 rfl
    · cases h
theorem take_line {l r : Str} (h : (10 : UInt8) ∉ l) : lineOf (l ++ 10 :: r) = l := by
  unfold lineOf
  rw [List.takeWhile_append_of_pos (fun x hx => by simp only [bne_iff_ne, ne_eq]; exact fun e => h (e ▸ hx))]
  simp
theorem parseF_text : ∀ (T : List (List Dd)) (f n : Nat) (acc : List (List Dd)), (∀ L ∈ T, L.length ≤ 5) → (∀ L ∈ T, ∀ d ∈ L, deedE d = 0) → T.length < f → 1 ≤ n ∧ n + T.length ≤ 4 → (n = 1 → T ≠ []) → parseF f n acc (textT T) = (acc ++ T, 0, 0)
  | [], f + 1, n, acc, _, _, _, _, h1 => by
    unfold parseF
    rw [if_pos ⟨rfl, fun e => h1 e rfl⟩]
    simp
  | L :: T, f + 1, n, acc, h5, hd, hf, hn, _ => by
    have hlc : (L :: T).length = T.length + 1 := rfl
    have e : textT (L :: T) = lineT L ++ 10 :: textT T := by simp [textT]
    have hno := line_no (hd L (by simp))
    have hth := threadS_line (hd L (by simp)) (h5 L (by simp))
    unfold parseF
    rw [e, take_line hno, hth, if_neg (by simp), if_neg (by simp), if_neg (by omega), if_neg (by simp)]
    have e2 : (lineT L ++ 10 :: textT T).drop ((lineT L).length + 1) = textT T := by rw [← List.drop_drop, List.drop_left]; rfl
    rw [e2, parseF_text T f (n + 1) _ (fun x hx => h5 x (by simp [hx])) (fun x hx => hd x (by simp [hx])) (by omega) (by omega) (fun e => by omega)]
    simp
theorem parseS_text {T : List (List Dd)} (h : chk T = 0) : parseS (textT T) = (T, 0, 0) := by
  obtain ⟨c1, c2, c3, c4⟩ := chk_ok h
  unfold parseS
  rw [parseF_text T 5 1 [] c3 c4 (by omega) (by omega) (fun _ e => by rw [e] at c2; simp at c2)]
  rfl
end Go.Proofs.YtciagjfemgfhgaaGreatDoor
/-! A deed of a text: the program's. -/
namespace Go.Proofs.YtciagjfemgfhgaaGreatDoor
set_option linter.unusedSimpArgs false
set_option linter.unusedVariables false
open Go Go.Mid Go.RowKit
attribute [local irreducible] mid
theorem splitK_len (sep : Str) : ∀ (k : Nat) (s : Str), ∀ x ∈ Lib.splitK sep 0 k s, x.length ≤ s.length
  | 0, s, x, h => by
    simp only [Lib.splitK, List.mem_singleton] at h
    rw [h]; exact Nat.le_refl _
  | k + 1, s, x, h => by
    unfold Lib.splitK at h
    split at h
    · simp only [List.mem_singleton] at h
      rw [h]; exact Nat.le_refl _
    · rcases List.mem_cons.1 h with rfl | h
      · rw [List.length_take]; omega
      · have := splitK_len sep k _ x h
        rw [List.length_drop] at this; omega
theorem sp_mem_len {sep s x : Str} (h : x ∈ sp sep s) : x.length ≤ s.length := splitK_len sep _ s x h
theorem readV_num {k r : Nat} {l : List Str} (hn : numB k = true) (h : l.length ≠ 2) : readV k r l = (dZ, 2) := by
  unfold readV
  match l, h with
  | [], _ => rfl
  | [b], _ => simp only [hn, if_true]; cases letF xyzt b <;> rfl
  | b :: c :: d :: q, _ => simp only [hn, if_true]; cases letF xyzt b <;> rfl
theorem readV_no {k r : Nat} {l : List Str} (hn : numB k = false) (h : l.length ≠ 1) : readV k r l = (dZ, 2) := by
  unfold readV
  match l, h with
  | [], _ => rfl
  | b :: c :: q, _ => simp only [hn]; cases letF xyzt b <;> rfl
theorem readL_one {k : Nat} {l : List Str} (h : k = 1) : readL k l = readV k 0 l := by unfold readL; rw [if_neg (by omega), if_pos h]
theorem readL_reg {k : Nat} {a : Str} {l : List Str} (h0 : k ≠ 0) (h : k ≠ 1) : readL k (a :: l) = match letF abcd a with
    | none => (dZ, 2)
    | some r => readV k r l := by
  unfold readL
  rw [if_neg h0, if_neg h]
  rfl
theorem readL_bad {k m : Nat} {l : List Str} (h0 : k ≠ 0) (h : k ≠ 1) (hm : m = if numB k = true then 3 else 2) (hl : l.length ≠ m) : readL k l = (dZ, 2) := by
  match l, hl with
  | [], _ => unfold readL; rw [if_neg h0, if_neg h]
  | a :: q, hl =>
    rw [readL_reg h0 h]
    cases letF abcd a with
    | none => rfl
    | some r =>
      simp only
      cases hn : numB k with
      | true => rw [hn, if_pos rfl] at hm; exact readV_num hn (by simp at hl; omega)
      | false => rw [hn, if_neg (by simp)] at hm; exact readV_no hn (by simp at hl; omega)
section
set_option maxHeartbeats 8000000
set_option maxRecDepth 10000
variable {h : Hp} {K : Value → Hp → Prop}
theorem letter_x (w among : Str) (hk : K (.tuple #[zv ((letF among w).getD 0 : Nat), .bool (letF among w).isSome]) h) : X Tryz.prog 60 #[sv w, sv among] h K := by
  refine fnv (args := _) mixed [] [] [] Tryz.func60 rfl (by kernel_rfl) ?_; conv => whnf
  refine bsel_intro (fun q1 => ?_) (fun q1 => ?_) <;> try simp only [bsL] at q1
  · have hn : letF among w = none := by
      unfold letF
      split
      · simp at q1
      · rfl
    rw [hn] at hk
    conv => whnf
    exact hk
  obtain ⟨c, rfl⟩ : ∃ c, w = [c] := by
    match w, (by omega : w.length = 1) with
    | [c], _ => exact ⟨c, rfl⟩
  conv => whnf
  refine ch_intro (c) (by omega) (by rfl) ?_; conv => whnf
  refine indexByte_x among c ?_
  rw [indexByte_eq]
  have e : letF among [c] = among.findIdx? (· == c) := rfl
  rw [e] at hk
  cases hf : among.findIdx? (· == c) with
  | none =>
    rw [hf] at hk
    conv => whnf
    exact hk
  | some i =>
    rw [hf] at hk
    simp only []
    conv => whnf
    rw [if_neg (by omega), decide_eq_true (by omega)]
    exact hk
theorem fmtI_x (hp : Pow h) (n : Int) (h0 : -9223372036854775808 ≤ n) (h1 : n ≤ 9223372036854775807) (hk : K (.string (bs (Lib.itoa n))) h) : X Tryz.prog 62 #[.int .i64 n, .int .i64 10] h K :=
  X.ofGrow (fun w0 w s => (Tryz.strconv_FormatInt_10 n h0 h1 w (hp.tab s)).mono fun e w' hh => ⟨hh.1, hh.2⟩) hk
theorem read_x (hm : Mx h) (he : Er h) (hp : Pow h) (s : Str) (hs : s.length ≤ 1000) (hk : ∀ h', h.le h' → K (.tuple #[.agg (readS s).1.cs.toArray, zv (readS s).2]) h') : X Tryz.prog 45 #[sv s] h K := by
  obtain ⟨w0, l, hW⟩ : ∃ w0 l, sp [32] s = w0 :: l := by
    cases hc : sp [32] s with
    | nil => exact absurd hc (sp_ne _ _)
    | cons a b => exact ⟨a, b, rfl⟩
  have hR : readS s = readL (whatN w0) l := by unfold readS; rw [hW]; rfl
  rw [hR] at hk
  have hkle := whatN_le w0
  obtain ⟨hq1, hq2⟩ := idxOf_nm w0
  generalize whatN w0 = k at *
  refine fnv (args := _) mixed rfXLte0 [] [100] Tryz.func45 rfl (by kernel_rfl) ?_; conv => whnf
  refine split_x hm s [32] (by omega) (by simp) fun bw h1 hbn e1 => ?_
  have hbw : h1 bw = some (rowO 9 ((w0 :: l).map sv)) := by rw [e1, Hp.set_same, hW]
  have le1 : h.le h1 := by rw [e1]; exact Hp.le_set hbn
  rw [hW]
  clear e1 hbn
  conv => whnf
  refine names_x ?_
  conv => whnf
  refine new_intro (o := _) (fun ba h2 n_ba le_ba at_ba ot_ba => ?_); conv => whnf
  refine wr_intro (by exact storeA0 (z := .agg (nms.map sv).toArray) (by kernel_rfl : sizeT Tryz.prog 89 = some 7) at_ba rfl rfl (by decide +kernel)) (fun h3 at_h3 ot_h3 => ?_)
  try (conv => whnf)
  have ba3 : h3 ba = some (rowO 89 (nms.map sv)) := at_h3
  have le13 : h1.le h3 := Hp.le_st n_ba le_ba ot_h3
  have hbw := le13 _ _ hbw
  have le3 := Hp.le_trans le1 le13
  clear at_ba ot_ba le_ba n_ba at_h3 ot_h3 le13 le1
  have hm := hm.le le3
  have he := he.le le3
  have hp := hp.le le3
  conv => whnf
  have hlen1 : 0 < (w0 :: l).length := by simp
  (first | refine need_intro (⟨by omega, by omega⟩) ?_ | refine must.mk (⟨by omega, by omega⟩) ?_); conv => whnf
  refine ⟨_, loadI aggStr hbw rfl rfl, ?_⟩; conv => whnf
  refine idxS_x ba 7 7 nms w0 _ ba3 rfl (by decide) ?_
  generalize Lib.idxOfS (nms.map bs) (bs w0) = Q at *
  by_cases hk0 : k = 0
  · have hQ := hq1.2 hk0
    rw [hk0] at hk
    refine ⟨trivial, ?_⟩; conv => whnf
    refine bsel_true (by simpa using hQ) ?_; conv => whnf
    exact hk _ le3
  have hQ : Q = k := hq2 (by have : ¬ Q < 1 := fun hh => hk0 (hq1.1 hh); omega)
  rw [hQ]
  clear hQ hq1 hq2
  refine ⟨trivial, ?_⟩; conv => whnf
  refine bsel_false (by simp; omega) ?_; conv => whnf
  refine uses_x (k : Int) ?_
  have hwl : ∀ x ∈ w0 :: l, x.length ≤ 1000 := fun x hx => Nat.le_trans (sp_mem_len (hW ▸ hx)) hs
  by_cases hk1 : k = 1
  · subst hk1
    rw [readL_one rfl] at hk
    rw [decide_eq_false (by decide), show numB ((1 : Nat) : Int) = true from rfl]
    have hnb : numB ((1 : Nat) : Int) = true := rfl
    conv => whnf
    (first | refine ov_c (by simp only [loK, hiK]; omega) ?_ | refine ov_c (by decide) ?_); conv => whnf
    refine bsel_intro (fun q5 => ?_) (fun q5 => ?_) <;> try simp only [bsL] at q5
    · rw [readV_num rfl (by simp at q5; omega)] at hk
      conv => whnf
      exact hk _ le3
    obtain ⟨b, c, rfl⟩ : ∃ b c, l = [b, c] := by
      match l, (by simp at q5; omega : l.length = 2) with
      | [b, c], _ => exact ⟨b, c, rfl⟩
    conv => whnf
    refine ⟨_, loadI (j := 1) aggStr hbw rfl rfl, ?_⟩; conv => whnf
    refine letter_x b xyzt ?_
    cases hB : letF xyzt b with
    | none =>
      have hv : readV 1 0 [b, c] = (dZ, 2) := by simp only [readV, hB]
      rw [hv] at hk
      conv => whnf
      exact hk _ le3
    | some v =>
      have hv : readV 1 0 [b, c] = match natS c with
            | none => (dZ, 2)
            | some n => if 255 < n then (dZ, 3) else (⟨((1 : Nat) : Int), ((0 : Nat) : Int), v, n⟩, 0) := by simp only [readV, hB, hnb, if_true]; rfl
      rw [hv] at hk
      conv => whnf
      (first | refine ov_c (by simp only [loK, hiK]; omega) ?_ | refine ov_c (by decide) ?_); conv => whnf
      refine ⟨_, loadI (j := 2) aggStr hbw rfl rfl, ?_⟩; conv => whnf
      have hcl : c.length ≤ 2 ^ 40 := Nat.le_trans (hwl c (by simp)) (by decide)
      refine parseInt_x he c hcl (fun vv hvv => ?_) (fun vv T p hno => ?_)
      · have hnat : natS c = if 0 ≤ vv ∧ Lib.itoa vv = c then some vv.toNat else none := by unfold natS; rw [hvv]
        have hbd := Lib.parseIntB_bounds hvv
        rw [hnat] at hk
        conv => whnf
        refine ⟨fun h' => h' bw = some (rowO 9 ((w0 :: [b, c]).map sv)), hbw, ?_⟩
        conv => whnf
        refine bsel_intro (fun q7 => ?_) (fun q7 => ?_) <;> try simp only [bsL] at q7
        · rw [if_neg (by omega)] at hk
          conv => whnf
          exact hk _ le3
        conv => whnf
        refine fmtI_x hp vv (by omega) (by omega) ?_
        refine ⟨hbw, ?_⟩
        conv => whnf
        refine ⟨_, fun _ hh => loadI (j := 2) aggStr hh rfl rfl, ?_⟩
        conv => whnf
        by_cases hc : Lib.itoa vv = c
        · rw [if_pos ⟨by omega, hc⟩] at hk
          simp only [] at hk
          refine seq_true (hc) ?_; conv => whnf
          refine bsel_intro (fun q8 => ?_) (fun q8 => ?_) <;> try simp only [bsL] at q8
          · rw [if_pos (by omega)] at hk
            conv => whnf
            exact hk _ le3
          · rw [if_neg (by omega)] at hk
            have hvt : ((vv.toNat : Nat) : Int) = vv := Int.toNat_of_nonneg (by omega)
            have hk := hk _ le3
            have hcs : (Dd.mk ((1 : Nat) : Int) ((0 : Nat) : Int) v (vv.toNat : Nat)).cs = [zv ((1 : Nat) : Int), zv ((0 : Nat) : Int), zv v, zv vv] := by rw [hvt]; rfl
            rw [hcs] at hk
            conv => whnf
            exact hk
        · rw [if_neg (fun hh => hc hh.2)] at hk
          refine seq_false (hc) ?_; conv => whnf
          exact hk _ le3
      · have hnat : natS c = none := by
          unfold natS
          split
          · rename_i v9 h9; exact absurd h9 (hno v9)
          · rfl
        rw [hnat] at hk
        conv => whnf
        refine ⟨fun h' => h' bw = some (rowO 9 ((w0 :: [b, c]).map sv)), hbw, ?_⟩
        conv => whnf
        exact hk _ le3
  rw [decide_eq_true (by omega)]
  cases hnb : numB (k : Int) with
  | true =>
    conv => whnf
    (first | refine ov_c (by simp only [loK, hiK]; omega) ?_ | refine ov_c (by decide) ?_); conv => whnf
    (first | refine ov_c (by simp only [loK, hiK]; omega) ?_ | refine ov_c (by decide) ?_); conv => whnf
    refine bsel_intro (fun q5 => ?_) (fun q5 => ?_) <;> try simp only [bsL] at q5
    · rw [readL_bad (m := 3) hk0 hk1 (by rw [hnb]; rfl) (by simp at q5; omega)] at hk
      conv => whnf
      exact hk _ le3
    obtain ⟨a, b, c, rfl⟩ : ∃ a b c, l = [a, b, c] := by
      match l, (by simp at q5; omega : l.length = 3) with
      | [a, b, c], _ => exact ⟨a, b, c, rfl⟩
    rw [readL_reg hk0 hk1] at hk
    conv => whnf
    refine ⟨_, loadI (j := 1) aggStr hbw rfl rfl, ?_⟩; conv => whnf
    refine letter_x a abcd ?_
    cases hA : letF abcd a with
    | none =>
      rw [hA] at hk
      conv => whnf
      (first | refine ov_c (by simp only [loK, hiK]; omega) ?_ | refine ov_c (by decide) ?_); conv => whnf
      refine ⟨_, loadI (j := 2) aggStr hbw rfl rfl, ?_⟩; conv => whnf
      refine letter_x b xyzt ?_
      conv => whnf
      exact hk _ le3
    | some r =>
      rw [hA] at hk
      simp only [] at hk
      conv => whnf
      (first | refine ov_c (by simp only [loK, hiK]; omega) ?_ | refine ov_c (by decide) ?_); conv => whnf
      refine ⟨_, loadI (j := 2) aggStr hbw rfl rfl, ?_⟩; conv => whnf
      refine letter_x b xyzt ?_
      cases hB : letF xyzt b with
      | none =>
        have hv : readV k r [b, c] = (dZ, 2) := by simp only [readV, hB]
        rw [hv] at hk
        conv => whnf
        exact hk _ le3
      | some v =>
        have hv : readV k r [b, c] = match natS c with
              | none => (dZ, 2)
              | some n => if 255 < n then (dZ, 3) else (⟨k, r, v, n⟩, 0) := by simp only [readV, hB, hnb, if_true]; rfl
        rw [hv] at hk
        conv => whnf
        (first | refine ov_c (by simp only [loK, hiK]; omega) ?_ | refine ov_c (by decide) ?_); conv => whnf
        refine ⟨_, loadI (j := 3) aggStr hbw rfl rfl, ?_⟩; conv => whnf
        have hcl : c.length ≤ 2 ^ 40 := Nat.le_trans (hwl c (by simp)) (by decide)
        refine parseInt_x he c hcl (fun vv hvv => ?_) (fun vv T p hno => ?_)
        · have hnat : natS c = if 0 ≤ vv ∧ Lib.itoa vv = c then some vv.toNat else none := by unfold natS; rw [hvv]
          have hbd := Lib.parseIntB_bounds hvv
          rw [hnat] at hk
          conv => whnf
          refine ⟨fun h' => h' bw = some (rowO 9 ((w0 :: [a, b, c]).map sv)), hbw, ?_⟩
          conv => whnf
          refine bsel_intro (fun q7 => ?_) (fun q7 => ?_) <;> try simp only [bsL] at q7
          · rw [if_neg (by omega)] at hk
            conv => whnf
            exact hk _ le3
          conv => whnf
          refine fmtI_x hp vv (by omega) (by omega) ?_
          refine ⟨hbw, ?_⟩
          conv => whnf
          refine ⟨_, fun _ hh => loadI (j := 3) aggStr hh rfl rfl, ?_⟩
          conv => whnf
          by_cases hc : Lib.itoa vv = c
          · rw [if_pos ⟨by omega, hc⟩] at hk
            simp only [] at hk
            refine seq_true (hc) ?_; conv => whnf
            refine bsel_intro (fun q8 => ?_) (fun q8 => ?_) <;> try simp only [bsL] at q8
            · rw [if_pos (by omega)] at hk
              conv => whnf
              exact hk _ le3
            · rw [if_neg (by omega)] at hk
              have hvt : ((vv.toNat : Nat) : Int) = vv := Int.toNat_of_nonneg (by omega)
              have hk := hk _ le3
              have hcs : (Dd.mk k r v (vv.toNat : Nat)).cs = [zv k, zv (r : Nat), zv v, zv vv] := by rw [hvt]; rfl
              rw [hcs] at hk
              conv => whnf
              exact hk
          · rw [if_neg (fun hh => hc hh.2)] at hk
            refine seq_false (hc) ?_; conv => whnf
            exact hk _ le3
        · have hnat : natS c = none := by
            unfold natS
            split
            · rename_i v9 h9; exact absurd h9 (hno v9)
            · rfl
          rw [hnat] at hk
          conv => whnf
          refine ⟨fun h' => h' bw = some (rowO 9 ((w0 :: [a, b, c]).map sv)), hbw, ?_⟩
          conv => whnf
          exact hk _ le3
  | false =>
    conv => whnf
    (first | refine ov_c (by simp only [loK, hiK]; omega) ?_ | refine ov_c (by decide) ?_); conv => whnf
    refine bsel_intro (fun q5 => ?_) (fun q5 => ?_) <;> try simp only [bsL] at q5
    · rw [readL_bad (m := 2) hk0 hk1 (by rw [hnb]; rfl) (by simp at q5; omega)] at hk
      conv => whnf
      exact hk _ le3
    obtain ⟨a, b, rfl⟩ : ∃ a b, l = [a, b] := by
      match l, (by simp at q5; omega : l.length = 2) with
      | [a, b], _ => exact ⟨a, b, rfl⟩
    rw [readL_reg hk0 hk1] at hk
    conv => whnf
    refine ⟨_, loadI (j := 1) aggStr hbw rfl rfl, ?_⟩; conv => whnf
    refine letter_x a abcd ?_
    cases hA : letF abcd a with
    | none =>
      rw [hA] at hk
      conv => whnf
      (first | refine ov_c (by simp only [loK, hiK]; omega) ?_ | refine ov_c (by decide) ?_); conv => whnf
      refine ⟨_, loadI (j := 2) aggStr hbw rfl rfl, ?_⟩; conv => whnf
      refine letter_x b xyzt ?_
      conv => whnf
      exact hk _ le3
    | some r =>
      rw [hA] at hk
      simp only [] at hk
      conv => whnf
      (first | refine ov_c (by simp only [loK, hiK]; omega) ?_ | refine ov_c (by decide) ?_); conv => whnf
      refine ⟨_, loadI (j := 2) aggStr hbw rfl rfl, ?_⟩; conv => whnf
      refine letter_x b xyzt ?_
      cases hB : letF xyzt b with
      | none =>
        have hv : readV k r [b] = (dZ, 2) := by simp only [readV, hB]
        rw [hv] at hk
        conv => whnf
        exact hk _ le3
      | some v =>
        have hv : readV k r [b] = (⟨k, r, v, 0⟩, 0) := by simp only [readV, hB, hnb]; rfl
        rw [hv] at hk
        conv => whnf
        exact hk _ le3
end
end Go.Proofs.YtciagjfemgfhgaaGreatDoor
/-! A line's deeds, and a text's test: the program's. -/
namespace Go.Proofs.YtciagjfemgfhgaaGreatDoor
set_option linter.unusedSimpArgs false
set_option linter.unusedVariables false
open Go Go.Mid Go.RowKit
attribute [local irreducible] mid
theorem goS_cons (s : Str) (r : List Str) (acc : List Dd) : goS (s :: r) acc = if (readS s).2 ≠ 0 then ([], (readS s).2) else if acc.length = 5 then ([], 4) else goS r (acc ++ [(readS s).1]) := rfl
section
set_option maxHeartbeats 8000000
set_option maxRecDepth 10000
variable {h : Hp} {K : Value → Hp → Prop}
theorem infDd : Tryz.prog.info? 56 = some Tryz.prog.types[56] := by kernel_rfl
theorem infDl : Tryz.prog.info? 41 = some Tryz.prog.types[41] := by kernel_rfl
theorem thread_x (hm : Mx h) (he : Er h) (hp : Pow h) (line : Str) (hl : line.length ≤ 1000)
    (hk0 : ∀ h', h.le h' → (threadS line).2 ≠ 0 → K (.tuple #[.slice none 0 0, zv (threadS line).2]) h')
    (hk : ∀ sl h', (threadS line).2 = 0 → Owns h h' 56 4 sl (threadS line).1.length ((threadS line).1.flatMap Dd.cs) → K (.tuple #[sl, zv 0]) h') : X Tryz.prog 26 #[sv line] h K := by
  have hT : threadS line = if line = [] then ([], 0) else goS (sp sepD line) [] := rfl
  generalize threadS line = R at *
  refine fnv (args := _) mixed [(7, 7)] [] [] Tryz.func26 rfl (by kernel_rfl) ?_; conv => whnf
  refine new_intro (o := rowO 56 []) (fun z h1 n_z le_z at_z ot_z => ?_); conv => whnf
  have hz : Owns h h1 56 4 (.slice (some ⟨z, 0, none⟩) 0 0) 0 [] := ⟨some z, ⟨rfl, .inr ⟨z, 0, [], rfl, rfl, Nat.le_refl _, rfl, at_z⟩⟩, le_z, fun c e => by cases e; exact n_z⟩
  clear at_z ot_z le_z n_z
  conv => whnf
  by_cases hl0 : line = []
  · rw [if_pos hl0] at hT
    refine seq_true (hl0) ?_; conv => whnf
    exact hk _ h1 (by rw [hT]) (by rw [hT]; exact hz)
  rw [if_neg hl0] at hT
  refine seq_false (hl0) ?_; conv => whnf
  have hpl : ∀ x ∈ sp sepD line, x.length ≤ 1000 := fun x hx => Nat.le_trans (sp_mem_len hx) hl
  have hlen : (sp sepD line).length ≤ 2 ^ 32 := by
    rw [sp_len sepD line (by simp)]
    have := Lib.countB_le (bs sepD) (by decide) _ (bs line) (Nat.le_refl _)
    rw [bs_size] at this; omega
  refine split_x (hm.le hz.le) line sepD (by omega) (by simp) fun bw h2 hbn e2 => ?_
  have hbw : h2 bw = some (rowO 9 ((sp sepD line).map sv)) := by rw [e2, Hp.set_same]
  have le2 : h1.le h2 := by rw [e2]; exact Hp.le_set hbn
  have hO := hz.new hbn le2 hbw
  have lk : h.le (h.set bw (rowO 9 ((sp sepD line).map sv))) := Hp.le_set' (Hp.none_le hz.le hbn)
  have kbw : (h.set bw (rowO 9 ((sp sepD line).map sv))) bw = some (rowO 9 ((sp sepD line).map sv)) := Hp.set_same _ _ _
  generalize (h.set bw (rowO 9 ((sp sepD line).map sv))) = k at *
  generalize sp sepD line = ps at *
  clear hbw le2 e2 hbn hz
  conv => whnf
  refine loop_at [16, 4] [] (fun r vs _ h' => ∃ (i : Nat) (sl : Value) (acc : List Dd), i ≤ ps.length ∧ r = ps.length - i ∧ vs = [.v (zv i), .v sl] ∧ Owns k h' 56 4 sl acc.length (acc.flatMap Dd.cs) ∧ acc.length ≤ 5 ∧ goS (ps.drop i) acc = R) ps.length ⟨0, _, [], by omega, by omega, rfl, hO, by simp, hT.symm⟩ ?_
  clear hO hT
  rintro r vs cs mm bx h3 ⟨i, sl, acc, hi, rfl, rfl, hO, hacc, hg⟩
  obtain ⟨sa, sc, rfl⟩ := hO.shape
  conv => whnf
  refine bsel_intro (fun q1 => ?_) (fun q1 => ?_) <;> try simp only [bsL] at q1
  · have hiP : i < ps.length := by omega
    obtain ⟨s, hs⟩ : ∃ s, ps[i]? = some s := ⟨_, List.getElem?_eq_getElem hiP⟩
    have hd : ps.drop i = s :: ps.drop (i + 1) := by
      rw [List.drop_eq_getElem_cons hiP]
      congr 1
      exact (List.getElem?_eq_some_iff.1 hs).2
    rw [hd, goS_cons] at hg
    have hsl := hpl s (List.mem_of_getElem? hs)
    have lk3 := Hp.le_trans lk hO.le
    have kb3 := hO.le _ _ kbw
    conv => whnf
    (first | refine need_intro (⟨by omega, by omega⟩) ?_ | refine must.mk (⟨by omega, by omega⟩) ?_); conv => whnf
    refine ⟨_, loadI aggStr kb3 rfl (by rw [List.getElem?_map, hs]; rfl), ?_⟩; conv => whnf
    refine read_x (hm.le lk3) (he.le lk3) (hp.le lk3) s hsl fun h4 le4 => ?_
    have hO := hO.up le4
    generalize readS s = Q at *
    obtain ⟨⟨q1', q2', q3', q4'⟩, qe⟩ := Q
    simp only at hg
    conv => whnf
    refine bsel_intro (fun q2 => ?_) (fun q2 => ?_) <;> try simp only [bsL] at q2
    · rw [if_pos q2] at hg
      conv => whnf
      have hR2 : R.2 = qe := by rw [← hg]
      rw [← hR2]
      exact hk0 _ (Hp.le_trans lk hO.le) (by rw [hR2]; exact q2)
    rw [if_neg (fun hh => hh q2)] at hg
    conv => whnf
    refine bsel_intro (fun q3 => ?_) (fun q3 => ?_) <;> try simp only [bsL] at q3
    · rw [if_pos (by omega)] at hg
      have hR2 : R.2 = 4 := by rw [← hg]
      conv => whnf
      have := hk0 h4 (Hp.le_trans lk hO.le) (by rw [hR2]; decide)
      rw [hR2] at this
      exact this
    · rw [if_neg (by omega)] at hg
      conv => whnf
      refine new_intro (o := rowO 56 [zv q1', zv q2', zv q3', zv q4']) (fun y h5 n_y le_y at_y ot_y => ?_); conv => whnf
      refine Owns.app1 (z := .agg #[zv 0, zv 0, zv 0, zv 0]) (by kernel_rfl) infDd (by kernel_rfl) (by kernel_rfl) (by kernel_rfl) rfl (bytes := 32) (by decide) rfl rfl rfl (hO.up le_y) at_y rfl rfl (by omega) fun s6 h6 hO6 => ?_
      conv => whnf
      (first | refine ov_c (by simp only [loK, hiK]; omega) ?_ | refine ov_c (by decide) ?_); conv => whnf
      refine ⟨ps.length - (i + 1), by omega, i + 1, s6, acc ++ [⟨q1', q2', q3', q4'⟩], by omega, rfl, rfl, ?_, by simp; omega, hg⟩
      rw [List.length_append, List.flatMap_append]
      exact hO6
  · have hin : i = ps.length := by omega
    subst hin
    rw [List.drop_length] at hg
    have hR : R = (acc, 0) := hg.symm
    conv => whnf
    exact hk _ h3 (by rw [hR]) (by rw [hR]; exact hO.weak lk)
end
end Go.Proofs.YtciagjfemgfhgaaGreatDoor
/-! A text's test: the program's. -/
namespace Go.Proofs.YtciagjfemgfhgaaGreatDoor
set_option linter.unusedSimpArgs false
set_option linter.unusedVariables false
open Go Go.Mid Go.RowKit
attribute [local irreducible] mid
theorem parseF_at (f n : Nat) (acc : List (List Dd)) (text : Str) : parseF (f + 1) n acc text = if text = [] ∧ n ≠ 1 then (acc, 0, 0) else if (10 : UInt8) ∉ text then ([], (n : Int), 5) else if 3 < n then ([], (n : Int), 4)
    else if (threadS (lineOf text)).2 ≠ 0 then ([], (n : Int), (threadS (lineOf text)).2) else parseF f (n + 1) (acc ++ [(threadS (lineOf text)).1]) (text.drop ((lineOf text).length + 1)) := rfl
theorem lineOf_len (t : Str) : (lineOf t).length ≤ t.length := by
  unfold lineOf
  induction t with
  | nil => simp
  | cons a r ih =>
    rw [List.takeWhile_cons]
    split
    · simp only [List.length_cons]; omega
    · simp
section
set_option maxHeartbeats 8000000
set_option maxRecDepth 10000
variable {h : Hp} {K : Value → Hp → Prop}
theorem RdP_nil : RdP h (.slice none 0 0) [] := ⟨none, 0, rfl, fun i p hp => by simp at hp, fun p hp => by cases hp⟩
theorem parse_x (hm : Mx h) (he : Er h) (hp : Pow h) (text : Str) (hl : text.length ≤ 1000)
    (hk : ∀ v Us h', h.le h' → RdP h' v Us → Us.map (·.L) = (parseS text).1 → K (.tuple #[.agg #[v], zv (parseS text).2.1, zv (parseS text).2.2]) h') : X Tryz.prog 11 #[sv text] h K := by
  have hT : parseS text = parseF 5 1 [] text := rfl
  generalize parseS text = R at *
  have hbad : ∀ h' (n e : Int), h.le h' → R = ([], n, e) → K (.tuple #[.agg #[.slice none 0 0], zv n, zv e]) h' := fun h' n e hle hR => by
    have := hk (.slice none 0 0) [] h' hle RdP_nil (by rw [hR]; rfl)
    rw [hR] at this
    exact this
  refine fnv (args := _) mixed [(2, 2), (5, 5), (44, 5), (49, 5)] [] [] Tryz.func11 rfl (by kernel_rfl) ?_; conv => whnf
  refine loop_at [0, 6] [2, 5] (fun r vs cs h' => ∃ (f n : Nat) (rest : Str) (sl : Value) (Us : List Th) (k : Hp), f + n = 6 ∧ Us.length + 1 = n ∧ n ≤ 4 ∧ f = r ∧ vs = [.v (sv rest), .v (zv n)] ∧ cs = [some [.slice none 0 0], some [sl]] ∧ rest.length ≤ 1000 ∧ parseF f n (Us.map (·.L)) rest = R ∧ h.le k ∧ Reads 56 k Us ∧ Owns k h' 41 1 sl Us.length (Us.map Th.v)) 5
    ⟨5, 1, text, .slice none 0 0, [], h, rfl, rfl, by omega, rfl, rfl, rfl, hl, hT.symm, Hp.le_refl _, Reads.nil _ _, Owns.nil (Hp.le_refl _)⟩ ?_
  clear hT
  rintro r vs cs mm bx h1 ⟨f, n, rest, sl, Us, k, hfn, hn1, hn4, rfl, rfl, rfl, hrl, hR, lk, hRd, hO⟩
  obtain ⟨sa, sc, rfl⟩ := hO.shape
  obtain ⟨f, rfl⟩ : ∃ g, f = g + 1 := ⟨f - 1, by omega⟩
  rw [parseF_at] at hR
  have le1 := Hp.le_trans lk hO.le
  conv => whnf
  by_cases hr0 : rest = []
  · refine seq_true (hr0) ?_; conv => whnf
    refine bsel_intro (fun q0 => ?_) (fun q0 => ?_) <;> try simp only [bsL] at q0
    · have hn9 : n = 1 := by omega
      have hcond : ¬ (rest = [] ∧ n ≠ 1) := fun hh => hh.2 hn9
      conv => whnf
      rw [if_neg hcond] at hR
      refine cut_x (hm.le le1) rest [10] (by omega) ?_
      by_cases hin : (10 : UInt8) ∈ rest
      · rw [cut_yes hin]
        rw [if_neg (fun hh => hh hin)] at hR
        have hll := lineOf_len rest
        simp only []
        conv => whnf
        refine bsel_intro (fun q1 => ?_) (fun q1 => ?_) <;> try simp only [bsL] at q1
        · rw [if_pos (by omega)] at hR
          conv => whnf
          exact hbad _ _ _ le1 hR.symm
        rw [if_neg (by omega)] at hR
        conv => whnf
        refine thread_x (hm.le le1) (he.le le1) (hp.le le1) (lineOf rest) (by omega) (fun h2 le2 hne => ?_) (fun s2 h2 heq hO2 => ?_)
        · rw [if_pos hne] at hR
          conv => whnf
          refine bsel_true (by simpa using hne) ?_; conv => whnf
          exact hbad _ _ _ (Hp.le_trans le1 le2) hR.symm
        · rw [if_neg (fun hh => hh heq)] at hR
          generalize hQ : (threadS (lineOf rest)).1 = Q at *
          have hob_ := hO.alsoN aggDd sizDd (f := Dd.cs) (fun _ => rfl) hO2
          obtain ⟨k', lk', hO', rd'⟩ := hob_
          obtain ⟨a2, c2, rfl, fr⟩ := rd'
          rw [List.length_map]
          conv => whnf
          refine new_intro (o := rowO 41 [.slice a2 Q.length c2]) (fun y h4 n_y le_y at_y ot_y => ?_); conv => whnf
          refine Owns.app1 (z := .slice none 0 0) (by kernel_rfl) infDl (by kernel_rfl) (by kernel_rfl) (by kernel_rfl) rfl (bytes := 24) (by decide) rfl rfl rfl (hO'.up le_y) at_y rfl rfl (by omega) fun s5 h5 hO5 => ?_
          obtain ⟨ta, tc, rfl⟩ := hO5.shape
          conv => whnf
          (first | refine ov_c (by simp only [loK, hiK]; omega) ?_ | refine ov_c (by decide) ?_); conv => whnf
          refine ⟨f, by omega, f, n + 1, _, _, Us ++ [⟨a2, c2, Q⟩], k', by omega, by simp; omega, by omega, rfl, rfl, rfl, by rw [List.length_drop]; omega, ?_, Hp.le_trans lk lk', ?_, ?_⟩
          · rw [List.map_append]; exact hR
          · intro p hp2 j d hd
            rcases List.mem_append.1 hp2 with h9 | h9
            · exact (hRd.le lk') p h9 j d hd
            · simp only [List.mem_singleton] at h9
              subst h9
              rw [Int.toNat_natCast]
              exact fr j _ (by rw [List.getElem?_map, hd]; rfl)
          · rw [List.length_append, List.map_append]
            exact hO5
      · rw [cut_no hin]
        rw [if_pos hin] at hR
        simp only []
        conv => whnf
        exact hbad _ _ _ le1 hR.symm
    · rw [if_pos ⟨hr0, by omega⟩] at hR
      have rs := hO.rd aggDl
      conv => whnf
      have := hk (.slice sa Us.length sc) Us h1 le1 ?_ (by rw [← hR])
      · rw [← hR] at this
        exact this
      · obtain ⟨b, c, e, f3⟩ := rs
        rw [List.length_map] at e
        refine ⟨b, c, e, fun i p hp => ?_, fun p hp j d hd => (hRd.le hO.le) p hp j d hd⟩
        rw [Int.toNat_natCast]
        exact f3 i _ (by rw [List.getElem?_map, hp]; rfl)
  · have hcond : ¬ (rest = [] ∧ n ≠ 1) := fun hh => hr0 hh.1
    refine seq_false (hr0) ?_; conv => whnf
    rw [if_neg hcond] at hR
    refine cut_x (hm.le le1) rest [10] (by omega) ?_
    by_cases hin : (10 : UInt8) ∈ rest
    · rw [cut_yes hin]
      rw [if_neg (fun hh => hh hin)] at hR
      have hll := lineOf_len rest
      simp only []
      conv => whnf
      refine bsel_intro (fun q1 => ?_) (fun q1 => ?_) <;> try simp only [bsL] at q1
      · rw [if_pos (by omega)] at hR
        conv => whnf
        exact hbad _ _ _ le1 hR.symm
      rw [if_neg (by omega)] at hR
      conv => whnf
      refine thread_x (hm.le le1) (he.le le1) (hp.le le1) (lineOf rest) (by omega) (fun h2 le2 hne => ?_) (fun s2 h2 heq hO2 => ?_)
      · rw [if_pos hne] at hR
        conv => whnf
        refine bsel_true (by simpa using hne) ?_; conv => whnf
        exact hbad _ _ _ (Hp.le_trans le1 le2) hR.symm
      · rw [if_neg (fun hh => hh heq)] at hR
        generalize hQ : (threadS (lineOf rest)).1 = Q at *
        have hob_ := hO.alsoN aggDd sizDd (f := Dd.cs) (fun _ => rfl) hO2
        obtain ⟨k', lk', hO', rd'⟩ := hob_
        obtain ⟨a2, c2, rfl, fr⟩ := rd'
        rw [List.length_map]
        conv => whnf
        refine new_intro (o := rowO 41 [.slice a2 Q.length c2]) (fun y h4 n_y le_y at_y ot_y => ?_); conv => whnf
        refine Owns.app1 (z := .slice none 0 0) (by kernel_rfl) infDl (by kernel_rfl) (by kernel_rfl) (by kernel_rfl) rfl (bytes := 24) (by decide) rfl rfl rfl (hO'.up le_y) at_y rfl rfl (by omega) fun s5 h5 hO5 => ?_
        obtain ⟨ta, tc, rfl⟩ := hO5.shape
        conv => whnf
        (first | refine ov_c (by simp only [loK, hiK]; omega) ?_ | refine ov_c (by decide) ?_); conv => whnf
        refine ⟨f, by omega, f, n + 1, _, _, Us ++ [⟨a2, c2, Q⟩], k', by omega, by simp; omega, by omega, rfl, rfl, rfl, by rw [List.length_drop]; omega, ?_, Hp.le_trans lk lk', ?_, ?_⟩
        · rw [List.map_append]; exact hR
        · intro p hp2 j d hd
          rcases List.mem_append.1 hp2 with h9 | h9
          · exact (hRd.le lk') p h9 j d hd
          · simp only [List.mem_singleton] at h9
            subst h9
            rw [Int.toNat_natCast]
            exact fr j _ (by rw [List.getElem?_map, hd]; rfl)
        · rw [List.length_append, List.map_append]
          exact hO5
    · rw [cut_no hin]
      rw [if_pos hin] at hR
      simp only []
      conv => whnf
      exact hbad _ _ _ le1 hR.symm
end
end Go.Proofs.YtciagjfemgfhgaaGreatDoor
/-! A deed of a text: the document's; letters, what a word names. -/
namespace Go.Proofs.YtciagjfemgfhgaaGreatDoor
set_option linter.unusedSimpArgs false
set_option linter.unusedVariables false
open Go Go.Mid Go.RowKit
attribute [local irreducible] mid
def letN (all w : Str) : Int := match letF all w with
  | some i => (i : Int)
  | none => -1
theorem natS_num {s : Str} {k : Int} {ok : Bool} (h : NumR s k ok) : (ok = true → 0 ≤ k → natS s = some k.toNat) ∧ (ok = false ∨ k < 0 → natS s = none) := by
  refine ⟨fun h1 h2 => ?_, fun h1 => ?_⟩
  · obtain ⟨e, b1, b2⟩ := h.1 h1
    obtain ⟨m, rfl⟩ : ∃ m : Nat, k = m := ⟨k.toNat, by omega⟩
    rw [Lib.itoa_nonneg] at e
    rw [← e, Int.toNat_natCast]
    exact natS_dec (by omega)
  · cases hn : natS s with
    | none => rfl
    | some n =>
      obtain ⟨e, hlt⟩ := natS_inv hn
      obtain ⟨h3, h4⟩ := h.2 n hlt e
      rcases h1 with h1 | h1
      · rw [h1] at h3; cases h3
      · omega
theorem what_iff (w : Str) (k : Nat) (h1 : 1 ≤ k) (h6 : k ≤ 6) : nm k = w ↔ whatN w = k := by
  constructor
  · rintro rfl; exact whatN_nm rfl h1 h6
  · intro h
    unfold whatN at h
    split at h
    · rename_i e; rw [← h, e]
    split at h
    · rename_i e; rw [← h, e]
    split at h
    · rename_i e; rw [← h, e]
    split at h
    · rename_i e; rw [← h, e]
    split at h
    · rename_i e; rw [← h, e]
    split at h
    · rename_i e; rw [← h, e]
    · omega
section
set_option maxHeartbeats 8000000
set_option maxRecDepth 10000
variable {h : Hp} {K : Value → Hp → Prop}
theorem find_x (all w : Str) (hl : all.length ≤ 1000) (hk : K (zv (letN all w)) h) : X Tryz.prog 64 #[sv all, sv w] h K := by
  refine fnv (args := _) mixed [] [] [] Tryz.func64 rfl (by kernel_rfl) ?_; conv => whnf
  refine loop_at [5] [] (fun r vs _ h' => h = h' ∧ ∃ i : Nat, i ≤ all.length ∧ r = all.length - i ∧ vs = [.v (zv i)] ∧ ∀ j b, j < i → all[j]? = some b → [b] ≠ w) all.length ⟨rfl, 0, by omega, by omega, rfl, fun j b hj => by omega⟩ ?_
  rintro r vs cs mm bx _ ⟨rfl, i, hi, rfl, rfl, hno⟩
  conv => whnf
  refine bsel_intro (fun q1 => ?_) (fun q1 => ?_) <;> try simp only [bsL] at q1
  · have hiA : i < all.length := by omega
    obtain ⟨b, hb⟩ : ∃ b, all[i]? = some b := ⟨_, List.getElem?_eq_getElem hiA⟩
    conv => whnf
    (first | refine ov_c (by simp only [loK, hiK]; omega) ?_ | refine ov_c (by decide) ?_); conv => whnf
    (first | refine need_intro (⟨by omega, by rw [bs_size]; omega⟩) ?_ | refine must.mk (⟨by omega, by rw [bs_size]; omega⟩) ?_); conv => whnf
    (first | refine need_intro (⟨by omega, by omega⟩) ?_ | refine must.mk (⟨by omega, by omega⟩) ?_); conv => whnf
    refine sub_by (m := [b]) ?_ ?_
    · rw [show ((i : Int) + 1).toNat = i + 1 by omega, Int.toNat_natCast, List.take_add_one, hb]
      exact List.drop_left' (by rw [List.length_take]; omega)
    conv => whnf
    by_cases hbw : [b] = w
    · refine seq_true (hbw) ?_; conv => whnf
      refine kq hk (iI ?_)
      subst hbw
      have : all.findIdx? (· == b) = some i := by
        rw [List.findIdx?_eq_some_iff_getElem]
        refine ⟨hiA, ?_, fun j hj => ?_⟩
        · rw [(List.getElem?_eq_some_iff.1 hb).2]; simp
        · have := hno j _ hj (List.getElem?_eq_getElem (by omega))
          simpa using this
      have this2 : letF all [b] = some i := this
      unfold letN
      rw [this2]
    · refine seq_false (hbw) ?_; conv => whnf
      (first | refine ov_c (by simp only [loK, hiK]; omega) ?_ | refine ov_c (by decide) ?_); conv => whnf
      refine ⟨all.length - (i + 1), by omega, rfl, i + 1, by omega, rfl, rfl, fun j x hj hx => ?_⟩
      by_cases hji : j = i
      · subst hji; rw [hb] at hx; cases hx; exact hbw
      · exact hno j x (by omega) hx
  · have hin : i = all.length := by omega
    subst hin
    conv => whnf
    refine kq hk (iI ?_)
    unfold letN
    have : letF all w = none := by
      unfold letF
      split
      · rename_i c
        rw [List.findIdx?_eq_none_iff]
        intro x hx
        obtain ⟨j, hj⟩ := List.mem_iff_getElem?.1 hx
        have := hno j x (List.getElem?_eq_some_iff.1 hj).1 hj
        simpa using this
      · rfl
    rw [this]
end
end Go.Proofs.YtciagjfemgfhgaaGreatDoor
