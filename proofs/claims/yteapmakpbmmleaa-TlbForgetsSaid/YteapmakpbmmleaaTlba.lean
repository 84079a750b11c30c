/-
  Caches, the plain law: what the program's cache holds and finds is what the document's does.
-/
import Derived.Test.YteapmakpbmmleaaTlb9
namespace Go.Proofs.Yteapmakpbmmleaa
set_option linter.unusedSimpArgs false
set_option linter.unusedVariables false
open Go Go.Mid Go.RowKit
theorem good_nil {size : Int} (h : 1 ≤ size ∧ size ≤ 32) : Good size [] := ⟨h, by simp; omega, by simp, by simp, by simp⟩
theorem good_filter {size : Int} {L : List En} (g : Good size L) (q : En → Bool) : Good size (L.filter q) :=
  ⟨g.sz, by have := List.length_filter_le q L; have := g.len; omega, fun e he => g.ok e (List.mem_filter.1 he).1, fun e he => g.lv e (List.mem_filter.1 he).1, g.dist.sublist (List.filter_sublist.map keyI)⟩
theorem good_tail {size : Int} {L : List En} (g : Good size L) : Good size L.tail :=
  ⟨g.sz, by have := g.len; simp; omega, fun e he => g.ok e (List.mem_of_mem_tail he), fun e he => g.lv e (List.mem_of_mem_tail he), g.dist.sublist ((List.tail_sublist L).map keyI)⟩
theorem fixE_page (e : En) (hl : 0 ≤ e.level ∧ e.level ≤ 2) : pageI (fixE e).page (fixE e).level = (fixE e).page := pageI_page _ _
theorem good_add {size : Int} {L : List En} (g : Good size L) {e : En} (he : e.ok) (hv : 0 ≤ e.level ∧ e.level ≤ 2 ∧ 0 ≤ e.asid ∧ e.asid ≤ 65535) : Good size (addI size L e) := by
  unfold addI
  have g1 := good_filter g (fun x => !decide (keyI x = keyI (fixE e)))
  have hk1 : ∀ x ∈ L.filter (fun x => !decide (keyI x = keyI (fixE e))), keyI x ≠ keyI (fixE e) := fun x hx => by simpa using (List.mem_filter.1 hx).2
  have hl1 := List.length_filter_le (fun x => !decide (keyI x = keyI (fixE e))) L
  have hlt : (L.filter (fun x => !decide (keyI x = keyI (fixE e)))).length = L.length ∨ (L.filter (fun x => !decide (keyI x = keyI (fixE e)))).length < L.length := by omega
  generalize L.filter (fun x => !decide (keyI x = keyI (fixE e))) = L1 at *
  have hlen := g.len
  have hsz := g.sz
  have key : ∀ L2 : List En, Good size L2 → (L2.length : Int) < size → (∀ x ∈ L2, keyI x ≠ keyI (fixE e)) → Good size (L2 ++ [fixE e]) := by
    intro L2 g2 hl2 hn
    refine ⟨g2.sz, by simp; omega, fun x hx => ?_, fun x hx => ?_, ?_⟩
    · rcases List.mem_append.1 hx with hx | hx
      · exact g2.ok x hx
      · simp only [List.mem_singleton] at hx; subst hx; exact ⟨pageI_u he.1, he.2⟩
    · rcases List.mem_append.1 hx with hx | hx
      · exact g2.lv x hx
      · simp only [List.mem_singleton] at hx; subst hx; exact ⟨hv.1, hv.2.1, hv.2.2.1, hv.2.2.2, fixE_page e ⟨hv.1, hv.2.1⟩⟩
    · rw [List.map_append, List.nodup_append]
      refine ⟨g2.dist, by simp, fun x hx y hy => ?_⟩
      obtain ⟨z, hz, rfl⟩ := List.mem_map.1 hx
      simp only [List.map_cons, List.map_nil, List.mem_singleton] at hy
      subst hy
      exact hn z hz
  show Good size ((if L1.length = L.length ∧ (L1.length : Int) = size then L1.tail else L1) ++ [fixE e])
  split
  · rename_i hc
    exact key _ (good_tail g1) (by simp; omega) fun x hx => hk1 x (List.mem_of_mem_tail hx)
  · rename_i hc
    refine key _ g1 ?_ hk1
    rcases hlt with h | h
    · have : ¬ (L1.length : Int) = size := fun hh => hc ⟨h, hh⟩
      omega
    · omega
theorem witI_erase (L : List En) (i : Nat) : witI L i = L.eraseIdx i := by
  unfold witI
  have key : ∀ (L : List En) (k i : Nat), ((L.zipIdx k).filter (fun p => decide ((p.2 : Int) ≠ ((k + i : Nat) : Int)))).map (·.1) = L.eraseIdx i := by
    intro L
    induction L with
    | nil => intro k i; simp
    | cons x L ih =>
      intro k i
      cases i with
      | zero =>
        simp only [List.zipIdx_cons, List.eraseIdx_cons_zero, List.filter_cons, Nat.add_zero, ne_eq, not_true_eq_false, decide_false, Bool.false_eq_true, if_false]
        have : ∀ (L : List En) (m : Nat), k < m → ((L.zipIdx m).filter (fun p => decide (¬ (p.2 : Int) = (k : Int)))).map (·.1) = L := by
          intro L
          induction L with
          | nil => intro m _; simp
          | cons y L ih2 =>
            intro m hm
            have hne : ¬ (m : Int) = (k : Int) := by omega
            simp only [List.zipIdx_cons, List.filter_cons, hne, not_false_eq_true, decide_true, if_true, List.map_cons]
            rw [ih2 (m + 1) (by omega)]
        exact this L (k + 1) (by omega)
      | succ i =>
        have hne : ¬ (k : Int) = ((k + (i + 1) : Nat) : Int) := by omega
        simp only [List.zipIdx_cons, List.eraseIdx_cons_succ, List.filter_cons, ne_eq, hne, not_false_eq_true, decide_true, if_true, List.map_cons]
        have := ih (k + 1) i
        simp only [ne_eq, show k + 1 + i = k + (i + 1) by omega] at this
        rw [this]
  have := key L 0 i
  simpa using this
theorem filter_erase {L : List En} (hd : (L.map keyI).Nodup) {i : Nat} {e : En} (hi : L[i]? = some e) : L.filter (fun x => !decide (keyI x = keyI e)) = L.eraseIdx i := by
  induction L generalizing i with
  | nil => simp at hi
  | cons x L ih =>
    rw [List.map_cons, List.nodup_cons] at hd
    cases i with
    | zero =>
      simp only [List.getElem?_cons_zero, Option.some.injEq] at hi
      subst hi
      simp only [List.filter_cons, decide_true, Bool.not_true, Bool.false_eq_true, if_false, List.eraseIdx_cons_zero]
      exact List.filter_eq_self.2 fun y hy => by
        have : ¬ keyI y = keyI x := fun hh => hd.1 (by rw [← hh]; exact List.mem_map.2 ⟨y, hy, rfl⟩)
        simp [this]
    | succ i =>
      simp only [List.getElem?_cons_succ] at hi
      have : ¬ keyI x = keyI e := fun hh => hd.1 (by rw [hh]; exact List.mem_map.2 ⟨e, List.mem_of_getElem? hi, rfl⟩)
      simp only [List.filter_cons, this, decide_false, Bool.not_false, if_true, List.eraseIdx_cons_succ]
      rw [ih hd.2 hi]
theorem atI_spec (L : List En) (e : En) : ∀ j, j ≤ L.length → (0 ≤ atI L e j → ∃ x, L[(atI L e j).toNat]? = some x ∧ keyI x = keyI e) ∧ (atI L e j < 0 → ∀ x ∈ L.take j, keyI x ≠ keyI e)
  | 0, _ => ⟨fun h => by unfold atI at h; omega, fun _ x hx => by simp at hx⟩
  | j + 1, hj => by
    have hjl : j < L.length := by omega
    have ih := atI_spec L e j (by omega)
    have hget : L[j]? = some L[j] := List.getElem?_eq_getElem hjl
    have hs : atI L e (j + 1) = if keyI L[j] = keyI e then (j : Int) else atI L e j := by
      show (match L[j]? with | some x => _ | none => _) = _
      rw [hget]
    rw [hs]
    split
    · rename_i hk
      exact ⟨fun _ => ⟨L[j], by simp [hjl], hk⟩, fun h => by omega⟩
    · rename_i hk
      refine ⟨ih.1, fun h x hx => ?_⟩
      rw [List.take_succ_eq_append_getElem hjl] at hx
      rcases List.mem_append.1 hx with hx | hx
      · exact ih.2 h x hx
      · simp only [List.mem_singleton] at hx; subst hx; exact hk
theorem raddI_eq {size : Int} {L : List En} (g : Good size L) (e : En) : raddI size L e = addI size L e := by
  unfold raddI addI
  obtain ⟨h1, h2⟩ := atI_spec L (fixE e) L.length (Nat.le_refl _)
  have hlen := g.len
  have hsz := g.sz
  congr 1
  by_cases ha : 0 ≤ atI L (fixE e) L.length
  · rw [if_pos ha]
    obtain ⟨x, hx, hk⟩ := h1 ha
    have hn : atI L (fixE e) L.length = ((atI L (fixE e) L.length).toNat : Int) := by omega
    rw [hn, witI_erase]
    have hf := filter_erase g.dist hx
    rw [hk] at hf
    have hxl := (List.getElem?_eq_some_iff.1 hx).1
    show _ = (if _ ∧ _ then _ else _)
    rw [hf, if_neg]
    · rw [List.length_eraseIdx_of_lt (by simpa using hxl)]; omega
  · rw [if_neg ha]
    have h3 := h2 (by omega)
    rw [List.take_length] at h3
    have hf : L.filter (fun x => !decide (keyI x = keyI (fixE e))) = L := List.filter_eq_self.2 fun y hy => by simp [h3 y hy]
    show _ = (if _ ∧ _ then _ else _)
    rw [hf]
    by_cases hs : size ≤ L.length
    · rw [if_pos hs, if_pos ⟨rfl, by omega⟩]
      have := witI_erase L 0
      rw [show witI L 0 = witI L ((0 : Nat) : Int) from rfl, this]
      simp
    · rw [if_neg hs, if_neg (fun hh => hs (by omega))]

/-! ### Finding -/
def score (e : En) : Int := 2 * e.level + (if globI e.pte then 1 else 0)
theorem mt_key {size : Int} {L : List En} (g : Good size L) {e x : En} (he : e ∈ L) (hx : x ∈ L) {asid va : Int} (h1 : mt e asid va = true) (h2 : mt x asid va = true) (hs : score e = score x) : keyI e = keyI x := by
  have l1 := g.lv e he
  have l2 := g.lv x hx
  unfold score at hs
  simp only [mt, Bool.and_eq_true, Bool.or_eq_true, decide_eq_true_eq] at h1 h2
  have hg : globI e.pte = globI x.pte ∧ e.level = x.level := by
    cases hge : globI e.pte <;> cases hgx : globI x.pte <;> rw [hge, hgx] at hs <;> simp at hs ⊢ <;> omega
  unfold keyI
  rw [hg.1, hg.2, Ky.mk.injEq]
  refine ⟨?_, ?_, rfl⟩
  · cases hgx : globI x.pte with
    | true => rfl
    | false =>
      rw [hg.1, hgx] at h1
      rw [hgx] at h2
      simp at h1 h2 ⊢
      omega
  · rw [← h2.2, ← hg.2, h1.2]
theorem best_spec {size : Int} {L : List En} (g : Good size L) (asid va : Int) : ∀ j, j ≤ L.length → match bestI L asid va j with
    | none => ∀ x ∈ L.take j, mt x asid va = false
    | some i => ∃ y, L[i]? = some y ∧ mt y asid va = true ∧ ∀ x ∈ L.take j, mt x asid va = true → x = y ∨ score y < score x
  | 0, _ => fun x hx => by simp at hx
  | j + 1, hj => by
    have hjl : j < L.length := by omega
    have ih := best_spec g asid va j (by omega)
    have hget : L[j]? = some L[j] := List.getElem?_eq_getElem hjl
    have hs : bestI L asid va (j + 1) = if mt L[j] asid va = true ∧ better L L[j] (bestI L asid va j) = true then some j else bestI L asid va j := by
      show (match L[j]? with | some e => _ | none => _) = _
      rw [hget]
    have hmem : ∀ x, x ∈ L.take (j + 1) ↔ x ∈ L.take j ∨ x = L[j] := fun x => by
      rw [List.take_succ_eq_append_getElem hjl, List.mem_append, List.mem_singleton]
    rw [hs]
    cases hb : bestI L asid va j with
    | none =>
      rw [hb] at ih
      cases hm : mt L[j] asid va with
      | true =>
        rw [if_pos ⟨rfl, rfl⟩]
        refine ⟨L[j], hget, hm, fun x hx hmx => ?_⟩
        rcases (hmem x).1 hx with hx | rfl
        · rw [ih x hx] at hmx; cases hmx
        · exact .inl rfl
      | false =>
        rw [if_neg (by simp)]
        intro x hx
        rcases (hmem x).1 hx with hx | rfl
        · exact ih x hx
        · exact hm
    | some i =>
      rw [hb] at ih
      obtain ⟨y, hy, hmy, hall⟩ := ih
      have hyL := List.mem_of_getElem? hy
      have hjL := List.getElem_mem hjl
      have hbe : better L L[j] (some i) = (decide (L[j].level < y.level) || (decide (L[j].level = y.level) && !globI L[j].pte)) := by
        show (match L[i]? with | some x => _ | none => _) = _
        rw [hy]
      have hil : i < j := bestI_lt L asid va j i hb
      have hne : keyI L[j] ≠ keyI y := by
        have h1 := List.pairwise_iff_getElem.1 g.dist i j (by simp; omega) (by simpa using hjl) hil
        rw [List.getElem_map, List.getElem_map] at h1
        have : L[i] = y := by rw [List.getElem?_eq_getElem (by omega)] at hy; exact Option.some.inj hy
        rw [this] at h1
        exact Ne.symm h1
      have hsne : mt L[j] asid va = true → score L[j] ≠ score y := fun hm hh => hne (mt_key g hjL hyL hm hmy hh)
      by_cases hc : mt L[j] asid va = true ∧ better L L[j] (some i) = true
      · rw [if_pos hc]
        have hsc : score L[j] < score y := by
          have h1 := hc.2
          rw [hbe] at h1
          have h2 := hsne hc.1
          simp only [Bool.or_eq_true, Bool.and_eq_true, decide_eq_true_eq, Bool.not_eq_true'] at h1
          unfold score at h2 ⊢
          rcases h1 with h1 | ⟨h1, h3⟩
          · split <;> split <;> omega
          · rw [h3] at h2 ⊢
            rw [h1] at h2 ⊢
            simp at h2 ⊢
            cases hgy : globI y.pte <;> simp [hgy] at h2 ⊢ <;> omega
        refine ⟨L[j], hget, hc.1, fun x hx hmx => ?_⟩
        rcases (hmem x).1 hx with hx | rfl
        · rcases hall x hx hmx with rfl | h
          · exact .inr hsc
          · exact .inr (by omega)
        · exact .inl rfl
      · rw [if_neg hc]
        refine ⟨y, hy, hmy, fun x hx hmx => ?_⟩
        rcases (hmem x).1 hx with hx | rfl
        · exact hall x hx hmx
        · right
          have h1 : better L L[j] (some i) = false := by
            cases hh : better L L[j] (some i) with
            | false => rfl
            | true => exact absurd ⟨hmx, hh⟩ hc
          have h2 := hsne hmx
          rw [hbe] at h1
          simp only [Bool.or_eq_false_iff, Bool.and_eq_false_imp, decide_eq_false_iff_not, decide_eq_true_eq, Bool.not_eq_false'] at h1
          unfold score at h2 ⊢
          rcases Int.lt_trichotomy L[j].level y.level with h3 | h3 | h3
          · exact absurd h3 h1.1
          · rw [h1.2 h3, h3] at h2 ⊢
            cases hgy : globI y.pte <;> simp [hgy] at h2 ⊢ <;> omega
          · split <;> split <;> omega
theorem first_some {L : List En} (hd : (L.map keyI).Nodup) {e : En} (he : e ∈ L) (b : List Ky) : ∀ a : List Ky, (∀ k ∈ a, ∀ x ∈ L, keyI x ≠ k) → firstE L (a ++ keyI e :: b) = some e
  | [], _ => by
    show (match L.find? (fun x => decide (keyI x = keyI e)) with | some e => some e | none => _) = _
    rw [find_mem hd he]
  | k :: a, hno => by
    show (match L.find? (fun x => decide (keyI x = k)) with | some e => some e | none => _) = _
    rw [List.find?_eq_none.2 (fun x hx => by simpa using hno k (by simp) x hx)]
    exact first_some hd he b a fun k' hk' => hno k' (by simp [hk'])
theorem first_none {L : List En} : ∀ ks : List Ky, (∀ k ∈ ks, ∀ x ∈ L, keyI x ≠ k) → firstE L ks = none
  | [], _ => rfl
  | k :: a, hno => by
    show (match L.find? (fun x => decide (keyI x = k)) with | some e => some e | none => _) = _
    rw [List.find?_eq_none.2 (fun x hx => by simpa using hno k (by simp) x hx)]
    exact first_none a fun k' hk' => hno k' (by simp [hk'])
/-- An entry that has a key that is looked for. -/
theorem key_mt {size : Int} {L : List En} (g : Good size L) {x : En} (hx : x ∈ L) {a va l asid : Int} (ha : a = -1 ∨ (a = asid ∧ 0 ≤ asid)) (hk : keyI x = kyOf a va l) : mt x asid va = true ∧ x.level = l ∧ (globI x.pte = true ↔ a = -1) := by
  have hl := g.lv x hx
  unfold keyI kyOf at hk
  rw [Ky.mk.injEq] at hk
  obtain ⟨h1, h2, h3⟩ := hk
  subst h3
  cases hg : globI x.pte with
  | true =>
    rw [hg] at h1
    simp at h1
    refine ⟨?_, rfl, by simp [← h1]⟩
    simp [mt, hg, h2]
  | false =>
    rw [hg] at h1
    simp at h1
    have : a = asid := by omega
    refine ⟨?_, rfl, by simp; omega⟩
    simp [mt, hg, h2]; omega
theorem mt_kyOf {size : Int} {L : List En} (g : Good size L) {x : En} (hx : x ∈ L) {va asid : Int} (hm : mt x asid va = true) : keyI x = kyOf (if globI x.pte then -1 else asid) va x.level := by
  simp only [mt, Bool.and_eq_true, Bool.or_eq_true, decide_eq_true_eq] at hm
  unfold keyI kyOf
  rw [Ky.mk.injEq]
  refine ⟨?_, hm.2.symm, rfl⟩
  cases hg : globI x.pte with
  | true => rfl
  | false => rw [hg] at hm; simp at hm ⊢; exact hm.1
theorem find_eq {size : Int} {L : List En} (g : Good size L) (asid va : Int) : match bestI L asid va L.length with
    | none => findI L asid va = none
    | some i => ∃ y, L[i]? = some y ∧ findI L asid va = some y := by
  have hb := best_spec g asid va L.length (Nat.le_refl _)
  rw [List.take_length] at hb
  unfold findI cands
  cases hbb : bestI L asid va L.length with
  | none =>
    rw [hbb] at hb
    refine first_none _ fun k hk x hx hkx => ?_
    have : ∃ a l, k = kyOf a va l ∧ (a = -1 ∨ (a = asid ∧ 0 ≤ asid)) := by
      split at hk <;> simp only [List.mem_cons, List.not_mem_nil, or_false] at hk
      · rcases hk with rfl | rfl | rfl <;> exact ⟨_, _, rfl, .inl rfl⟩
      · rcases hk with rfl | rfl | rfl | rfl | rfl | rfl <;> first
          | exact ⟨_, _, rfl, .inl rfl⟩
          | exact ⟨_, _, rfl, .inr ⟨rfl, by omega⟩⟩
    obtain ⟨a, l, rfl, ha⟩ := this
    have := (key_mt g hx ha hkx).1
    rw [hb x hx] at this; cases this
  | some i =>
    rw [hbb] at hb
    obtain ⟨y, hy, hmy, hall⟩ := hb
    refine ⟨y, hy, ?_⟩
    have hyL := List.mem_of_getElem? hy
    have hky := mt_kyOf g hyL hmy
    have hl := g.lv y hyL
    have hfar : ∀ (a l : Int), (a = -1 ∨ (a = asid ∧ 0 ≤ asid)) → (2 * l + (if a = -1 then 1 else 0)) < score y → ∀ x ∈ L, keyI x ≠ kyOf a va l := by
      intro a l ha hsc x hx hkx
      obtain ⟨m1, m2, m3⟩ := key_mt g hx ha hkx
      have hsx : score x = 2 * l + (if a = -1 then 1 else 0) := by
        unfold score
        rw [m2]
        by_cases hh : a = -1
        · rw [if_pos hh, if_pos (m3.2 hh)]
        · rw [if_neg hh, if_neg (fun h => hh (m3.1 h))]
      rcases hall x hx m1 with rfl | h
      · omega
      · omega
    have hsy : score y = 2 * y.level + (if globI y.pte then 1 else 0) := rfl
    have hlv : y.level = 0 ∨ y.level = 1 ∨ y.level = 2 := by omega
    have go : ∀ (a b : List Ky), (∀ k ∈ a, ∃ a' l', k = kyOf a' va l' ∧ (a' = -1 ∨ (a' = asid ∧ 0 ≤ asid)) ∧ (2 * l' + (if a' = -1 then 1 else 0)) < score y) → firstE L (a ++ keyI y :: b) = some y := fun a b ha =>
      first_some g.dist hyL b a fun k hk x hx => by
        obtain ⟨a', l', rfl, h1, h2⟩ := ha k hk
        exact hfar a' l' h1 h2 x hx
    by_cases hneg : asid < 0
    · rw [if_pos hneg]
      have hgl : globI y.pte = true := by
        simp only [mt, Bool.and_eq_true, Bool.or_eq_true, decide_eq_true_eq] at hmy
        rcases hmy.1 with h | h
        · exact h
        · omega
      rw [hgl] at hky hsy
      simp only [if_true] at hky hsy
      rcases hlv with h | h | h <;> rw [h] at hky hsy
      · have := go [] [kyOf (-1) va 1, kyOf (-1) va 2] (fun k hk => by cases hk)
        rw [hky] at this; exact this
      · have := go [kyOf (-1) va 0] [kyOf (-1) va 2] (fun k hk => by
          simp only [List.mem_singleton] at hk; subst hk; exact ⟨-1, 0, rfl, .inl rfl, by rw [hsy]; decide⟩)
        rw [hky] at this; exact this
      · have := go [kyOf (-1) va 0, kyOf (-1) va 1] [] (fun k hk => by
          simp only [List.mem_cons, List.not_mem_nil, or_false] at hk
          rcases hk with rfl | rfl <;> exact ⟨-1, _, rfl, .inl rfl, by rw [hsy]; decide⟩)
        rw [hky] at this; exact this
    · rw [if_neg hneg]
      have hna : ¬ asid = -1 := by omega
      have A : ∀ l : Int, (2 * l + (if asid = -1 then 1 else 0)) < score y ↔ 2 * l < score y := fun l => by rw [if_neg hna]; omega
      have B : ∀ l : Int, (2 * l + (if (-1 : Int) = -1 then 1 else 0)) < score y ↔ 2 * l + 1 < score y := fun l => by rw [if_pos rfl]
      cases hgl : globI y.pte <;> rw [hgl] at hky hsy <;> simp only [if_true, if_false, Bool.false_eq_true] at hky hsy <;> rcases hlv with h | h | h <;> rw [h] at hky hsy
      · have := go [] [kyOf (-1) va 0, kyOf asid va 1, kyOf (-1) va 1, kyOf asid va 2, kyOf (-1) va 2] (fun k hk => by cases hk)
        rw [hky] at this; exact this
      · have := go [kyOf asid va 0, kyOf (-1) va 0] [kyOf (-1) va 1, kyOf asid va 2, kyOf (-1) va 2] (fun k hk => by
          simp only [List.mem_cons, List.not_mem_nil, or_false] at hk
          rcases hk with rfl | rfl
          · exact ⟨asid, 0, rfl, .inr ⟨rfl, by omega⟩, by rw [A]; omega⟩
          · exact ⟨-1, 0, rfl, .inl rfl, by rw [B]; omega⟩)
        rw [hky] at this; exact this
      · have := go [kyOf asid va 0, kyOf (-1) va 0, kyOf asid va 1, kyOf (-1) va 1] [kyOf (-1) va 2] (fun k hk => by
          simp only [List.mem_cons, List.not_mem_nil, or_false] at hk
          rcases hk with rfl | rfl | rfl | rfl
          · exact ⟨asid, 0, rfl, .inr ⟨rfl, by omega⟩, by rw [A]; omega⟩
          · exact ⟨-1, 0, rfl, .inl rfl, by rw [B]; omega⟩
          · exact ⟨asid, 1, rfl, .inr ⟨rfl, by omega⟩, by rw [A]; omega⟩
          · exact ⟨-1, 1, rfl, .inl rfl, by rw [B]; omega⟩)
        rw [hky] at this; exact this
      · have := go [kyOf asid va 0] [kyOf asid va 1, kyOf (-1) va 1, kyOf asid va 2, kyOf (-1) va 2] (fun k hk => by
          simp only [List.mem_cons, List.not_mem_nil, or_false] at hk
          rcases hk with rfl
          · exact ⟨asid, 0, rfl, .inr ⟨rfl, by omega⟩, by rw [A]; omega⟩)
        rw [hky] at this; exact this
      · have := go [kyOf asid va 0, kyOf (-1) va 0, kyOf asid va 1] [kyOf asid va 2, kyOf (-1) va 2] (fun k hk => by
          simp only [List.mem_cons, List.not_mem_nil, or_false] at hk
          rcases hk with rfl | rfl | rfl
          · exact ⟨asid, 0, rfl, .inr ⟨rfl, by omega⟩, by rw [A]; omega⟩
          · exact ⟨-1, 0, rfl, .inl rfl, by rw [B]; omega⟩
          · exact ⟨asid, 1, rfl, .inr ⟨rfl, by omega⟩, by rw [A]; omega⟩)
        rw [hky] at this; exact this
      · have := go [kyOf asid va 0, kyOf (-1) va 0, kyOf asid va 1, kyOf (-1) va 1, kyOf asid va 2] [] (fun k hk => by
          simp only [List.mem_cons, List.not_mem_nil, or_false] at hk
          rcases hk with rfl | rfl | rfl | rfl | rfl
          · exact ⟨asid, 0, rfl, .inr ⟨rfl, by omega⟩, by rw [A]; omega⟩
          · exact ⟨-1, 0, rfl, .inl rfl, by rw [B]; omega⟩
          · exact ⟨asid, 1, rfl, .inr ⟨rfl, by omega⟩, by rw [A]; omega⟩
          · exact ⟨-1, 1, rfl, .inl rfl, by rw [B]; omega⟩
          · exact ⟨asid, 2, rfl, .inr ⟨rfl, by omega⟩, by rw [A]; omega⟩)
        rw [hky] at this; exact this
end Go.Proofs.Yteapmakpbmmleaa
