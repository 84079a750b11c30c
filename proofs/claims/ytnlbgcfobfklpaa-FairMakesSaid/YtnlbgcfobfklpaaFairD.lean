/-
  The plain law of picks: what a chooser makes is fair.
-/
import Derived.Test.YtnlbgcfobfklpaaFairC
namespace Go.Proofs.Ytnlbgcfobfklpaa
open Go Go.Mid Go.RowKit
attribute [local irreducible] X MLoop mid
/-- How many wait as long as t, or longer. -/
def cnt (A : List Int) (t : Int) : Nat := A.countP (fun x => decide (t ≤ x))
/-- Nobody waits too long, whoever is picked. -/
def calm (k : Int) (A : List Int) : Prop := ∀ x ∈ A, x + cnt A x ≤ k
theorem countP_set' (p : Int → Bool) (l : List Int) (i : Nat) (y : Int) (hi : i < l.length) : (l.set i y).countP p + (if p l[i] then 1 else 0) = l.countP p + (if p y then 1 else 0) := by
  have e1 : l = l.take i ++ l[i] :: l.drop (i + 1) := by rw [← List.drop_eq_getElem_cons hi, List.take_append_drop]
  have e2 : l.set i y = l.take i ++ y :: l.drop (i + 1) := by
    rw [List.set_eq_take_append_cons_drop, if_pos hi]
  rw [e2]
  conv => rhs; rw [e1]
  simp only [List.countP_append, List.countP_cons]
  omega
theorem cnt_up (A : List Int) (t : Int) : (A.map (· + 1)).countP (fun x => decide (t + 1 ≤ x)) = cnt A t := by
  unfold cnt
  rw [List.countP_map]
  congr 1
  funext x
  simp only [Function.comp]
  exact decide_eq_decide.2 (by omega)
theorem cnt_row (A : List Int) (t : Int) : cnt A t = (rowL A).countP (fun a => decide (t ≤ at0 A a)) := by
  have e : A = (upI A.length).map (at0 A) := by
    apply List.ext_getElem
    · simp [upI]
    · intro i h1 h2
      simp only [upI, List.getElem_map, List.getElem_range]
      show A[i] = A.getD (Int.ofNat i).toNat 0
      have : (Int.ofNat i).toNat = i := rfl
      rw [this, List.getD_eq_getElem?_getD, List.getElem?_eq_getElem h1]; rfl
  unfold cnt
  rw [(rowL_perm A).countP_eq]
  conv => lhs; rw [e]
  rw [List.countP_map]
  rfl
theorem at0_mem {A : List Int} {a : Int} (h : 0 ≤ a ∧ a < A.length) : at0 A a ∈ A := by
  have : a.toNat < A.length := by omega
  show A.getD a.toNat 0 ∈ A
  rw [List.getD_eq_getElem?_getD, List.getElem?_eq_getElem this]
  exact List.getElem_mem this
/-- Of a row that falls those that are as great as t stand in front. -/
theorem count_front (ws : List Int) (t : Int) : ∀ (l : List Int), l.Pairwise (ahead ws) → ∀ i, i < l.length → i < l.countP (fun a => decide (t ≤ at0 ws a)) → t ≤ at0 ws (l.getD i 0)
  | [], _, i, hi, _ => by simp at hi
  | a :: l, hp, i, hi, hc => by
    rw [List.pairwise_cons] at hp
    rw [List.countP_cons] at hc
    by_cases ha : t ≤ at0 ws a
    · cases i with
      | zero => exact ha
      | succ i =>
        rw [if_pos (decide_eq_true ha)] at hc
        have := count_front ws t l hp.2 i (by simpa using hi) (by omega)
        simpa using this
    · rw [if_neg (by simpa using ha)] at hc
      have h0 : l.countP (fun a => decide (t ≤ at0 ws a)) = 0 := by
        rw [List.countP_eq_zero]
        intro b hb
        have := hp.1 b hb
        unfold ahead at this
        simp only [decide_eq_true_eq]
        omega
      omega
/-- Nobody is pressed: one more may come for each. -/
theorem calm_slack {k : Int} {A : List Int} (hno : ∀ i, i < A.length → press k A i = false) : ∀ x ∈ A, x + cnt A x + 1 ≤ k := by
  intro x hx
  have hpos : 0 < cnt A x := by
    unfold cnt
    rw [List.countP_pos_iff]
    exact ⟨x, hx, by simp⟩
  have hle : cnt A x ≤ A.length := List.countP_le_length
  have h1 := hno (cnt A x - 1) (by omega)
  have h2 := count_front A x (rowL A) (rowL_sorted A) (cnt A x - 1) (by rw [rowL_length]; omega) (by rw [← cnt_row]; omega)
  unfold press at h1
  have h3 := of_decide_eq_false h1
  have h4 : x ≤ A.getD ((rowL A).getD (cnt A x - 1) 0).toNat 0 := h2
  omega
theorem row_max {A : List Int} (hn : 1 ≤ A.length) : ∀ x ∈ A, x ≤ at0 A ((rowL A).getD 0 0) := by
  intro x hx
  have hpos : 0 < cnt A x := by
    unfold cnt
    rw [List.countP_pos_iff]
    exact ⟨x, hx, by simp⟩
  exact count_front A x (rowL A) (rowL_sorted A) 0 (by rw [rowL_length]; omega) (by rw [← cnt_row]; omega)
theorem calm_next {k : Int} {A : List Int} {r : Int} (hn : 1 ≤ A.length) (hnk : (A.length : Int) ≤ k) (hA : ∀ x ∈ A, 0 ≤ x) (hr : 0 ≤ r) (hc : calm k A) : calm k (nextW k A r) := by
  have hch := chooseL_range (k := k) (ws := A) hr hn
  have hlt : (chooseL k A r).toNat < A.length := by omega
  have hlm : (chooseL k A r).toNat < (A.map (· + 1)).length := by simpa using hlt
  have hpm : at0 A (chooseL k A r) ∈ A := at0_mem hch
  have hget : (A.map (· + 1))[(chooseL k A r).toNat] = at0 A (chooseL k A r) + 1 := by
    rw [List.getElem_map]
    show _ = A.getD (chooseL k A r).toNat 0 + 1
    rw [List.getD_eq_getElem?_getD, List.getElem?_eq_getElem hlt]; rfl
  -- how many wait behind
  have hcnt : ∀ t : Int, 0 ≤ t → cnt (nextW k A r) (t + 1) + (if t ≤ at0 A (chooseL k A r) then 1 else 0) = cnt A t := by
    intro t ht
    have h1 := countP_set' (fun x => decide (t + 1 ≤ x)) (A.map (· + 1)) (chooseL k A r).toNat 0 hlm
    rw [hget, cnt_up] at h1
    have e1 : (decide (t + 1 ≤ at0 A (chooseL k A r) + 1) = true) ↔ t ≤ at0 A (chooseL k A r) := by simp
    have e2 : ¬ (decide (t + 1 ≤ (0 : Int)) = true) := by simp; omega
    rw [if_neg e2] at h1
    simp only [e1] at h1
    unfold cnt nextW
    unfold cnt at h1
    omega
  intro x hx
  unfold nextW at hx
  rcases List.mem_or_eq_of_mem_set hx with hx | rfl
  · obtain ⟨y, hy, rfl⟩ := List.mem_map.1 hx
    have hy0 := hA y hy
    have h1 := hcnt y hy0
    have hyc := hc y hy
    by_cases hp : (List.range A.length).any (press k A) = true
    · have he : chooseL k A r = (rowL A).getD 0 0 := by unfold chooseL; rw [if_pos hp]
      have := row_max hn y hy
      rw [← he] at this
      rw [if_pos this] at h1
      omega
    · have hs := calm_slack (k := k) (A := A) (fun i hi => by
        cases h : press k A i with
        | false => rfl
        | true => exact absurd (any_take.2 ⟨i, hi, h⟩) hp) y hy
      omega
  · have : cnt (nextW k A r) 0 ≤ (nextW k A r).length := List.countP_le_length
    rw [nextW_length] at this
    omega
theorem calm_after {k : Int} {n : Nat} (hn : 1 ≤ n) (hnk : (n : Int) ≤ k) : ∀ (m : Nat) (rs : List Int), rs.length = m → (∀ r ∈ rs, 0 ≤ r) → calm k (afterL k (List.replicate n 0) rs)
  | 0, rs, hl, _ => by
    obtain rfl := List.eq_nil_of_length_eq_zero hl
    intro x hx
    have hx0 := List.eq_of_mem_replicate (show x ∈ List.replicate n 0 from hx)
    have : cnt (afterL k (List.replicate n 0) []) x ≤ (List.replicate n (0 : Int)).length := List.countP_le_length
    rw [List.length_replicate] at this
    omega
  | m + 1, rs, hl, hr => by
    obtain ⟨rs', r, rfl⟩ : ∃ rs' r, rs = rs' ++ [r] := by
      rcases List.eq_nil_or_concat rs with e | ⟨l, b, e⟩
      · subst e; simp at hl
      · exact ⟨l, b, by rw [e]; simp⟩
    have ih := calm_after hn hnk m rs' (by simpa using hl) fun x hx => hr x (by simp [hx])
    have hlen : (afterL k (List.replicate n 0) rs').length = n := by rw [afterL_length]; simp
    rw [afterL_snoc]
    exact calm_next (by omega) (by omega) (fun x hx => (afterL_le k n rs' x hx).1) (hr r (by simp)) ih
theorem picksL_take (k : Int) : ∀ (rs ws : List Int) (j : Nat), (picksL k ws rs).take j = picksL k ws (rs.take j)
  | [], ws, j => by simp [picksL]
  | r :: rs, ws, 0 => rfl
  | r :: rs, ws, j + 1 => by simp only [picksL, List.take_succ_cons, picksL_take k rs]
/-- **What a chooser makes is fair.** -/
theorem made_fair {k : Int} {n : Nat} (hn : 1 ≤ n) (hnk : (n : Int) ≤ k) (rs : List Int) (hr : ∀ r ∈ rs, 0 ≤ r) : okUpto (picksL k (List.replicate n 0) rs) k n := by
  intro m hm j _
  rw [picksL_take]
  have hr' : ∀ r ∈ rs.take j, 0 ≤ r := fun r h => hr r (List.mem_of_mem_take h)
  have hs := (picks_same k n hn _ (rs.take j) rfl hr').1
  have hc := calm_after hn hnk _ (rs.take j) rfl hr'
  rw [hs] at hc
  have hmem : (gone m (picksL k (List.replicate n 0) (rs.take j)) : Int) ∈ rwaits (picksL k (List.replicate n 0) (rs.take j)) n := by
    unfold rwaits
    rw [List.mem_map]
    exact ⟨m, List.mem_range.2 hm, rfl⟩
  have h1 := hc _ hmem
  have hpos : 0 < cnt (rwaits (picksL k (List.replicate n 0) (rs.take j)) n) (gone m (picksL k (List.replicate n 0) (rs.take j))) := by
    unfold cnt
    rw [List.countP_pos_iff]
    exact ⟨_, hmem, by simp⟩
  omega
end Go.Proofs.Ytnlbgcfobfklpaa
