/-
  The plain law of picks: the rows of harts are the same, and so are the picks; and what a chooser makes is fair.
-/
import Derived.Test.YtnlbgcfobfklpaaFairB
namespace Go.Proofs.Ytnlbgcfobfklpaa
open Go Go.Mid Go.RowKit
/-! ### One row -/
abbrev at0 (ws : List Int) (x : Int) : Int := ws.getD x.toNat 0
/-- a stands ahead of b. -/
def ahead (ws : List Int) (a b : Int) : Prop := at0 ws b < at0 ws a ∨ (at0 ws a = at0 ws b ∧ a < b)
theorem ahead_asymm {ws : List Int} {a b : Int} (h : ahead ws a b) : ¬ ahead ws b a := by unfold ahead at *; omega
theorem ahead_trans {ws : List Int} {a b c : Int} (h : ahead ws a b) (h2 : ahead ws b c) : ahead ws a c := by unfold ahead at *; omega
theorem sorted_one {R : Int → Int → Prop} (hR : ∀ a b, R a b → ¬ R b a) : ∀ (l1 l2 : List Int), l1.Pairwise R → l2.Pairwise R → (∀ x, x ∈ l1 ↔ x ∈ l2) → l1 = l2
  | [], l2, _, _, hm => by
    cases l2 with
    | nil => rfl
    | cons b l2 => exact absurd ((hm b).2 (by simp)) (by simp)
  | a :: l1, l2, h1, h2, hm => by
    cases l2 with
    | nil => exact absurd ((hm a).1 (by simp)) (by simp)
    | cons b l2 =>
      rw [List.pairwise_cons] at h1 h2
      have hab : a = b := Classical.byContradiction fun hne => by
        have e1 : b ∈ l1 := by
          rcases List.mem_cons.1 ((hm b).2 (by simp)) with e | e
          · exact absurd e.symm hne
          · exact e
        have e2 : a ∈ l2 := by
          rcases List.mem_cons.1 ((hm a).1 (by simp)) with e | e
          · exact absurd e hne
          · exact e
        exact hR _ _ (h1.1 b e1) (h2.1 a e2)
      subst hab
      rw [sorted_one hR l1 l2 h1.2 h2.2 fun x => ?_]
      constructor
      · intro hx
        rcases List.mem_cons.1 ((hm x).1 (List.mem_cons_of_mem _ hx)) with e | e
        · subst e; exact absurd (h1.1 x hx) (fun hh => hR _ _ hh hh)
        · exact e
      · intro hx
        rcases List.mem_cons.1 ((hm x).2 (List.mem_cons_of_mem _ hx)) with e | e
        · subst e; exact absurd (h2.1 x hx) (fun hh => hR _ _ hh hh)
        · exact e
theorem insR_perm (lt : Int → Int → Bool) (x : Int) : ∀ l, (insR lt x l).Perm (x :: l)
  | [] => List.Perm.refl _
  | y :: r => by
    unfold insR
    split
    · exact ((insR_perm lt x r).cons y).trans (List.Perm.swap x y r)
    · exact List.Perm.refl _
theorem isortR_perm (lt : Int → Int → Bool) (l : List Int) : (isortR lt l).Perm l := by
  have : ∀ (l acc : List Int), (l.foldl (fun acc x => insR lt x acc) acc).Perm (l ++ acc) := by
    intro l
    induction l with
    | nil => intro acc; exact List.Perm.refl _
    | cons x l ih =>
      intro acc
      rw [List.foldl_cons]
      refine (ih _).trans ?_
      refine (List.Perm.append_left l (insR_perm lt x acc)).trans ?_
      exact List.perm_middle
  have := this l []
  rw [List.append_nil] at this
  exact this
theorem rowL_perm (ws : List Int) : (rowL ws).Perm (upI ws.length) := (List.reverse_perm _).trans (isortR_perm _ _)
theorem cmpW_lt {ws : List Int} {x y : Int} : cmpW ws x y < 0 ↔ at0 ws y < at0 ws x := by
  unfold cmpW cmpI
  split
  · simp_all
  · split <;> simp_all
theorem insR_sorted (ws : List Int) (x : Int) : ∀ l : List Int, l.Pairwise (fun a b => ahead ws b a) → (∀ y ∈ l, y < x) → (insR (fun x y => decide (cmpW ws x y < 0)) x l).Pairwise (fun a b => ahead ws b a)
  | [], _, _ => by simp [insR]
  | y :: r, hp, hx => by
    rw [List.pairwise_cons] at hp
    unfold insR
    split
    · rename_i hc
      rw [decide_eq_true_eq, cmpW_lt] at hc
      rw [List.pairwise_cons]
      refine ⟨fun z hz => ?_, insR_sorted ws x r hp.2 fun z hz => hx z (by simp [hz])⟩
      rcases insR_mem _ x r z hz with rfl | hz
      · exact .inl hc
      · exact hp.1 z hz
    · rename_i hc
      rw [decide_eq_true_eq, cmpW_lt] at hc
      rw [List.pairwise_cons]
      have hy : ahead ws y x := by
        have := hx y (by simp)
        unfold ahead; omega
      refine ⟨fun z hz => ?_, List.pairwise_cons.2 hp⟩
      rcases List.mem_cons.1 hz with rfl | hz
      · exact hy
      · exact ahead_trans (hp.1 z hz) hy
theorem rowL_sorted (ws : List Int) : (rowL ws).Pairwise (ahead ws) := by
  have : ∀ n : Nat, (isortR (fun x y => decide (cmpW ws x y < 0)) (upI n)).Pairwise (fun a b => ahead ws b a) := by
    intro n
    induction n with
    | zero => exact List.Pairwise.nil
    | succ n ih =>
      have hu : upI (n + 1) = upI n ++ [(n : Int)] := by simp [upI, List.range_succ]
      rw [hu, isortR_snoc]
      refine insR_sorted ws n _ ih fun y hy => ?_
      exact (upI_mem (isortR_mem _ _ y hy)).2
  unfold rowL
  rw [List.pairwise_reverse]
  exact this _
theorem bestL_best (ws l : List Int) : ∀ m : Nat, 0 ≤ bestL ws l m → ¬ bestL ws l m ∈ l ∧ ∀ h : Nat, h < m → ¬ (h : Int) ∈ l → (h : Int) ≠ bestL ws l m → ahead ws (bestL ws l m) h
  | 0, hb => by simp [bestL] at hb
  | m + 1, hb => by
    have h3 := bestL_lt ws l m
    unfold bestL at hb ⊢
    split
    · rename_i hc
      refine ⟨hc.1, fun h hh hl hne => ?_⟩
      have hm : h < m := by
        have : (h : Int) ≠ m := hne
        omega
      rcases hc.2 with hc2 | hc2
      · exact absurd (bestL_none ws l m hc2 h hm) hl
      · by_cases hb0 : bestL ws l m < 0
        · exact absurd (bestL_none ws l m hb0 h hm) hl
        have ih := bestL_best ws l m (by omega)
        have hmm : at0 ws ((m : Nat) : Int) = ws.getD m 0 := rfl
        by_cases he : (h : Int) = bestL ws l m
        · rw [he]; refine .inl ?_; rw [hmm]; exact hc2
        · have := ih.2 h hm hl he
          unfold ahead at this ⊢
          rw [hmm]
          have hc3 : at0 ws (bestL ws l m) < ws.getD m 0 := hc2
          omega
    · rename_i hc
      rw [if_neg hc] at hb
      have ih := bestL_best ws l m hb
      refine ⟨ih.1, fun h hh hl hne => ?_⟩
      by_cases hm : h = m
      · subst hm
        have hc2 : ¬ (at0 ws (bestL ws l h) < ws.getD h 0) := fun hc2 => hc ⟨hl, .inr hc2⟩
        have hmm : at0 ws ((h : Nat) : Int) = ws.getD h 0 := rfl
        unfold ahead; rw [hmm]; omega
      · exact ih.2 h (by omega) hl hne
theorem rrow_best (ws : List Int) (j : Nat) (hj : j < ws.length) : 0 ≤ bestL ws (rrow ws j) ws.length :=
  (rrow_range ws (j + 1) (by omega) _ (by rw [rrow]; simp)).1
theorem rrow_sorted (ws : List Int) : ∀ j, j ≤ ws.length → (rrow ws j).Pairwise (ahead ws) ∧ ∀ a ∈ rrow ws j, ∀ h : Nat, h < ws.length → ¬ (h : Int) ∈ rrow ws j → ahead ws a h
  | 0, _ => ⟨List.Pairwise.nil, fun a ha => by cases ha⟩
  | j + 1, hj => by
    obtain ⟨ih1, ih2⟩ := rrow_sorted ws j (by omega)
    have hb := rrow_best ws j (by omega)
    have hlt := (bestL_lt ws (rrow ws j) ws.length).2
    obtain ⟨hb1, hb2⟩ := bestL_best ws (rrow ws j) ws.length hb
    obtain ⟨m, hm⟩ : ∃ m : Nat, bestL ws (rrow ws j) ws.length = m := ⟨_, (Int.toNat_of_nonneg hb).symm⟩
    rw [rrow]
    rw [hm] at hb1 hb2 hlt ⊢
    refine ⟨?_, fun a ha h hh hn => ?_⟩
    · rw [List.pairwise_append]
      refine ⟨ih1, List.pairwise_singleton _ _, fun a ha b hb' => ?_⟩
      rw [List.mem_singleton] at hb'
      subst hb'
      exact ih2 a ha m (by omega) hb1
    · rw [List.mem_append, not_or] at hn
      rcases List.mem_append.1 ha with ha | ha
      · exact ih2 a ha h hh hn.1
      · rw [List.mem_singleton] at ha
        subst ha
        exact hb2 h hh hn.1 fun e => hn.2 (by rw [e]; simp)
theorem nodup_le : ∀ (n : Nat) (l : List Int), l.Nodup → (∀ x ∈ l, 0 ≤ x ∧ x < n) → l.length ≤ n
  | 0, l, _, hr => by
    cases l with
    | nil => simp
    | cons x l => have := hr x (by simp); omega
  | n + 1, l, hd, hr => by
    have h2 := nodup_le n (l.erase n) (hd.erase _) fun x hx => by
      rw [hd.mem_erase_iff] at hx
      have := hr x hx.2
      omega
    by_cases hm : (n : Int) ∈ l
    · rw [List.length_erase_of_mem hm] at h2; omega
    · rw [List.erase_of_not_mem hm] at h2; omega
theorem rrow_mem (ws : List Int) (x : Int) : x ∈ rrow ws ws.length ↔ 0 ≤ x ∧ x < ws.length := by
  constructor
  · exact rrow_range ws ws.length (Nat.le_refl _) x
  · intro hx
    refine Classical.byContradiction fun hno => ?_
    have hd : (x :: rrow ws ws.length).Nodup := by
      rw [List.nodup_cons]
      refine ⟨hno, ?_⟩
      exact ((rrow_sorted ws ws.length (Nat.le_refl _)).1).imp fun {a b} hab e => by subst e; exact ahead_asymm hab hab
    have := nodup_le ws.length _ hd fun y hy => by
      rcases List.mem_cons.1 hy with rfl | hy
      · exact hx
      · exact rrow_range ws ws.length (Nat.le_refl _) y hy
    rw [List.length_cons, rrow_length] at this
    omega
/-- **One row.** -/
theorem rows_same (ws : List Int) : rowL ws = rrow ws ws.length := by
  refine sorted_one (R := ahead ws) (fun a b h => ahead_asymm h) _ _ (rowL_sorted ws) (rrow_sorted ws ws.length (Nat.le_refl _)).1 fun x => ?_
  rw [rrow_mem, (rowL_perm ws).mem_iff]
  constructor
  · exact upI_mem
  · intro hx
    simp only [upI, List.mem_map, List.mem_range]
    exact ⟨x.toNat, by omega, by show ((x.toNat : Nat) : Int) = x; omega⟩
/-! ### The same picks -/
theorem gone_add (h : Int) (l : List Int) (p : Int) : gone h (l ++ [p]) = if p = h then 0 else gone h l + 1 := by simp [gone]
theorem rwaits_add (l : List Int) (n : Nat) (c : Int) (hc : 0 ≤ c ∧ c < n) : rwaits (l ++ [c]) n = ((rwaits l n).map (· + 1)).set c.toNat 0 := by
  apply List.ext_getElem
  · simp [rwaits]
  · intro i h1 h2
    have hi : i < n := by simpa [rwaits] using h1
    simp only [rwaits, List.getElem_map, List.getElem_range, List.getElem_set, gone_add]
    by_cases he : c = i
    · rw [if_pos he, if_pos (by omega)]; rfl
    · rw [if_neg he, if_neg (by omega)]; simp
theorem rwaits_nil (n : Nat) : rwaits [] n = List.replicate n 0 := by
  apply List.ext_getElem
  · simp [rwaits]
  · intro i h1 h2; simp [rwaits, gone]
theorem picks_same (k : Int) (n : Nat) (hn : 1 ≤ n) : ∀ (m : Nat) (rs : List Int), rs.length = m → (∀ r ∈ rs, 0 ≤ r) → afterL k (List.replicate n 0) rs = rwaits (picksL k (List.replicate n 0) rs) n ∧ picksL k (List.replicate n 0) rs = rmake k n rs
  | 0, rs, hl, _ => by
    obtain rfl := List.eq_nil_of_length_eq_zero hl
    exact ⟨(rwaits_nil n).symm, rfl⟩
  | m + 1, rs, hl, hr => by
    obtain ⟨rs', r, rfl⟩ : ∃ rs' r, rs = rs' ++ [r] := by
      rcases List.eq_nil_or_concat rs with e | ⟨l, b, e⟩
      · subst e; simp at hl
      · exact ⟨l, b, by rw [e]; simp⟩
    obtain ⟨e1, e2⟩ := picks_same k n hn m rs' (by simpa using hl) fun x hx => hr x (by simp [hx])
    have hlen : (afterL k (List.replicate n 0) rs').length = n := by rw [afterL_length]; simp
    have hc := chooseL_range (k := k) (ws := afterL k (List.replicate n 0) rs') (r := r) (hr r (by simp)) (by omega)
    rw [hlen] at hc
    constructor
    · rw [afterL_snoc, picksL_snoc, rwaits_add _ _ _ hc, ← e1]; rfl
    · rw [picksL_snoc, rmake_snoc, ← e2]
      congr 2
      unfold rpick chooseL
      rw [← e1, rows_same, hlen]
      have hp : press k (afterL k (List.replicate n 0) rs') = rpress k (afterL k (List.replicate n 0) rs') := by
        funext i
        unfold press rpress
        rw [rows_same]
        apply decide_eq_decide.2
        omega
      rw [hp]
end Go.Proofs.Ytnlbgcfobfklpaa
