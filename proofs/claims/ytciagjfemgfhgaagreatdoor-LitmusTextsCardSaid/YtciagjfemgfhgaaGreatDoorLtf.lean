/-
  A line's deeds: the document's.
-/
import Derived.Test.YtciagjfemgfhgaaGreatDoorLtAb
import Derived.Test.YtciagjfemgfhgaaGreatDoorRows
import Derived.LaidMore
import Derived.LaidSub
import Derived.MakeChecks
import Derived.Lib.LaidTab
import Derived.Stop.LaidErr
/-! A line's deeds: the document's. -/
namespace Go.Proofs.YtciagjfemgfhgaaGreatDoor
set_option linter.unusedSimpArgs false
set_option linter.unusedVariables false
open Go Go.Mid Go.RowKit
attribute [local irreducible] mid
theorem occ_at {s : Str} {f j : Nat} : Lib.occAt (s.drop f) sepD j = Lib.occAt s sepD (f + j) := by
  unfold Lib.occAt
  rw [List.drop_drop]
theorem occ_no {s : Str} {i : Nat} (h : s.length < i + 3) : Lib.occAt s sepD i = false := by
  cases ho : Lib.occAt s sepD i with
  | false => rfl
  | true =>
    rcases Lib.occAt_room ho with h1 | h1
    · simp at h1; omega
    · cases h1
theorem piece_eq (s : Str) (i : Nat) : (s.take (i + 3)).drop i = (s.drop i).take 3 := by
  rw [List.drop_take, show i + 3 - i = 3 by omega]
theorem occ_piece {s : Str} {i : Nat} (h : i + 3 ≤ s.length) : Lib.occAt s sepD i = decide ((s.take (i + 3)).drop i = sepD) := by
  rw [Lib.occAt_iff_take s sepD i h, piece_eq]
  rw [Bool.eq_iff_iff]
  simp
theorem sp_cut {s : Str} {f i : Nat} (hfi : f ≤ i) (hi : Lib.occAt s sepD i = true) (hl : i + 3 ≤ s.length) (hno : ∀ j, f ≤ j → j < i → Lib.occAt s sepD j = false) : sp sepD (s.drop f) = (s.take i).drop f :: sp sepD (s.drop (i + 3)) := by
  have hidx : Lib.index (s.drop f) sepD = (i - f : Nat) := Lib.index_first (by rw [List.length_drop]; omega) (by rw [occ_at, show f + (i - f) = i by omega]; exact hi) fun j hj => by
    rw [occ_at]; exact hno _ (by omega) (by omega)
  rw [sp_hit (by simp) hidx]
  congr 1
  · rw [List.drop_take]
  · rw [List.drop_drop]
    congr 2
    simp; omega
theorem sp_last {s : Str} {f : Nat} (hf : f ≤ s.length) (hno : ∀ j, f ≤ j → Lib.occAt s sepD j = false) : sp sepD (s.drop f) = [s.drop f] :=
  sp_miss (Lib.index_none fun j hj => by rw [occ_at]; exact hno _ (by omega))
section
set_option maxHeartbeats 8000000
set_option maxRecDepth 10000
variable {h : Hp} {K : Value → Hp → Prop}
theorem rthread_x (line : Str) (hl : line.length ≤ 1000)
    (hk0 : ∀ h', h.le h' → (threadS line).2 ≠ 0 → K (.tuple #[.slice none 0 0, zv (threadS line).2]) h')
    (hk : ∀ sl h', (threadS line).2 = 0 → Owns h h' 66 4 sl (threadS line).1.length ((threadS line).1.flatMap Dd.cs) → K (.tuple #[sl, zv 0]) h') : X Tryz.prog 27 #[sv line] h K := by
  have hT : threadS line = if line = [] then ([], 0) else goS (sp sepD line) [] := rfl
  generalize threadS line = R at *
  refine fnv (args := _) mixed [(8, 8)] [] [] Tryz.func27 rfl (by kernel_rfl) ?_; conv => whnf
  refine new_intro (o := rowO 66 []) (fun z h1 n_z le_z at_z ot_z => ?_); conv => whnf
  have hz : Owns h h1 66 4 (.slice (some ⟨z, 0, none⟩) 0 0) 0 [] := ⟨some z, ⟨rfl, .inr ⟨z, 0, [], rfl, rfl, Nat.le_refl _, rfl, at_z⟩⟩, le_z, fun c e => by cases e; exact n_z⟩
  clear at_z ot_z le_z n_z
  by_cases hl0 : line = []
  · rw [if_pos hl0] at hT
    subst hl0
    refine loop_step ?_; conv => whnf
    exact hk _ h1 (by rw [hT]) (by rw [hT]; exact hz)
  rw [if_neg hl0] at hT
  have hpos : 0 < line.length := List.length_pos_iff.2 hl0
  refine loop_at [6, 5, 4] [] (fun r vs _ h' => ∃ (i f : Nat) (sl : Value) (acc : List Dd), r = line.length + 1 - i ∧ vs = [.v (zv i), .v (zv f), .v sl] ∧ Owns h h' 66 4 sl acc.length (acc.flatMap Dd.cs) ∧ acc.length ≤ 5 ∧
    ((i ≤ line.length ∧ f ≤ line.length ∧ goS (sp sepD (line.drop f)) acc = R ∧ ∀ j, f ≤ j → j < i → Lib.occAt line sepD j = false) ∨ (i = line.length + 1 ∧ f ≤ line.length + 3 ∧ R = (acc, 0)))) (line.length + 1) ⟨0, 0, _, [], by omega, rfl, hz, by simp, .inl ⟨by omega, by omega, hT.symm, fun j _ hj => by omega⟩⟩ ?_
  clear hT hz
  rintro r vs cs mm bx h2 ⟨i, f, sl, acc, rfl, rfl, hO, hacc, hinv⟩
  obtain ⟨sa, sc, rfl⟩ := hO.shape
  conv => whnf
  refine bsel_intro (fun q1 => ?_) (fun q1 => ?_) <;> try simp only [bsL] at q1
  · have hi : i ≤ line.length := by omega
    obtain ⟨_, hf, hg, hno⟩ := hinv.resolve_right (fun hh => by omega)
    clear hinv
    have hpl : ((line.take i).drop f).length ≤ 1000 := by rw [List.length_drop, List.length_take]; omega
    conv => whnf
    refine bsel_true (by rw [bs_size]; simp; omega) ?_; conv => whnf
    (first | refine ov_c (by simp only [loK, hiK]; omega) ?_ | refine ov_c (by decide) ?_); conv => whnf
    refine bsel_intro (fun q2 => ?_) (fun q2 => ?_) <;> try simp only [bsL] at q2
    · have hi3 : i + 3 ≤ line.length := by omega
      have hop := occ_piece hi3
      conv => whnf
      (first | refine ov_c (by simp only [loK, hiK]; omega) ?_ | refine ov_c (by decide) ?_); conv => whnf
      (first | refine need_intro (⟨by omega, by rw [bs_size]; omega⟩) ?_ | refine must.mk (⟨by omega, by rw [bs_size]; omega⟩) ?_); conv => whnf
      (first | refine need_intro (⟨by omega, by omega⟩) ?_ | refine must.mk (⟨by omega, by omega⟩) ?_); conv => whnf
      refine sub_by (m := (line.take (i + 3)).drop i) (by rw [show ((i : Int) + 3).toNat = i + 3 by omega, Int.toNat_natCast]) ?_
      conv => whnf
      by_cases hm : (line.take (i + 3)).drop i = sepD
      · rw [decide_eq_true hm] at hop
        refine seq_true (hm) ?_; conv => whnf
        refine bsel_intro (fun q3 => ?_) (fun q3 => ?_) <;> try simp only [bsL] at q3
        · have hoc : f ≤ i → Lib.occAt line sepD i = false := fun hh => by omega
          conv => whnf
          (first | refine ov_c (by simp only [loK, hiK]; omega) ?_ | refine ov_c (by decide) ?_); conv => whnf
          have hle1 : i + 1 ≤ line.length := by omega
          refine ⟨line.length + 1 - (i + 1), by omega, i + 1, f, _, acc, rfl, rfl, hO, hacc, .inl ⟨hle1, hf, hg, fun j hj1 hj2 => ?_⟩⟩
          by_cases hji : j = i
          · subst hji; exact hoc hj1
          · exact hno j hj1 (by omega)
        · rw [sp_cut (by omega) hop hi3 hno] at hg
          have hend : ∀ A : List Dd, goS (sp sepD (line.drop (i + 3))) A = R → ((i + 1 ≤ line.length ∧ i + 3 ≤ line.length ∧ goS (sp sepD (line.drop (i + 3))) A = R ∧ ∀ j, i + 3 ≤ j → j < i + 1 → Lib.occAt line sepD j = false) ∨ (i + 1 = line.length + 1 ∧ i + 3 ≤ line.length + 3 ∧ R = (A, 0))) := fun A hA => .inl ⟨by omega, by omega, hA, fun j hj1 hj2 => by omega⟩
          rw [goS_cons] at hg
          conv => whnf
          (first | refine need_intro (⟨by omega, by rw [bs_size]; omega⟩) ?_ | refine must.mk (⟨by omega, by rw [bs_size]; omega⟩) ?_); conv => whnf
          (first | refine need_intro (⟨by omega, by omega⟩) ?_ | refine must.mk (⟨by omega, by omega⟩) ?_); conv => whnf
          refine sub_by (m := (line.take i).drop f) (by rw [Int.toNat_natCast, Int.toNat_natCast]) ?_
          conv => whnf
          refine rread_x _ hpl fun h4 le4 => ?_
          have hO := hO.up le4
          generalize readS ((line.take i).drop f) = Q at *
          obtain ⟨⟨q1', q2', q3', q4'⟩, qe⟩ := Q
          simp only at hg
          conv => whnf
          refine bsel_intro (fun q5 => ?_) (fun q5 => ?_) <;> try simp only [bsL] at q5
          · rw [if_pos q5] at hg
            conv => whnf
            have hR2 : R.2 = qe := by rw [← hg]
            rw [← hR2]
            exact hk0 _ hO.le (by rw [hR2]; exact q5)
          rw [if_neg (fun hh => hh q5)] at hg
          conv => whnf
          refine bsel_intro (fun q6 => ?_) (fun q6 => ?_) <;> try simp only [bsL] at q6
          · rw [if_pos (by omega)] at hg
            have hR2 : R.2 = 4 := by rw [← hg]
            conv => whnf
            have := hk0 h4 hO.le (by rw [hR2]; decide)
            rw [hR2] at this
            exact this
          · rw [if_neg (by omega)] at hg
            conv => whnf
            refine new_intro (o := rowO 66 [zv q1', zv q2', zv q3', zv q4']) (fun y h5 n_y le_y at_y ot_y => ?_); conv => whnf
            refine Owns.app1 (z := .agg #[zv 0, zv 0, zv 0, zv 0]) (by kernel_rfl) infRD (by kernel_rfl) (by kernel_rfl) (by kernel_rfl) rfl (bytes := 32) (by decide) rfl rfl rfl (hO.up le_y) at_y rfl rfl (by omega) fun s6 h6 hO6 => ?_
            have hO7 : Owns h h6 66 4 s6 (acc ++ [(⟨q1', q2', q3', q4'⟩ : Dd)]).length ((acc ++ [(⟨q1', q2', q3', q4'⟩ : Dd)]).flatMap Dd.cs) := by
              rw [List.length_append, List.flatMap_append]
              exact hO6
            conv => whnf
            (first | refine ov_c (by simp only [loK, hiK]; omega) ?_ | refine ov_c (by decide) ?_); conv => whnf
            (first | refine ov_c (by simp only [loK, hiK]; omega) ?_ | refine ov_c (by decide) ?_); conv => whnf
            refine ⟨line.length + 1 - (i + 1), by omega, i + 1, i + 3, s6, _, rfl, rfl, hO7, by simp; omega, hend _ hg⟩
      · rw [decide_eq_false hm] at hop
        have hoc : f ≤ i → Lib.occAt line sepD i = false := fun _ => hop
        refine seq_false (hm) ?_; conv => whnf
        refine bsel_true (by rw [bs_size]; simp; omega) ?_; conv => whnf
        conv => whnf
        (first | refine ov_c (by simp only [loK, hiK]; omega) ?_ | refine ov_c (by decide) ?_); conv => whnf
        have hle1 : i + 1 ≤ line.length := by omega
        refine ⟨line.length + 1 - (i + 1), by omega, i + 1, f, _, acc, rfl, rfl, hO, hacc, .inl ⟨hle1, hf, hg, fun j hj1 hj2 => ?_⟩⟩
        by_cases hji : j = i
        · subst hji; exact hoc hj1
        · exact hno j hj1 (by omega)
    · have hop := occ_no (s := line) (i := i) (by omega)
      have hoc : f ≤ i → Lib.occAt line sepD i = false := fun _ => hop
      conv => whnf
      refine bsel_intro (fun q4 => ?_) (fun q4 => ?_) <;> try simp only [bsL] at q4
      · conv => whnf
        (first | refine ov_c (by simp only [loK, hiK]; omega) ?_ | refine ov_c (by decide) ?_); conv => whnf
        have hle1 : i + 1 ≤ line.length := by omega
        refine ⟨line.length + 1 - (i + 1), by omega, i + 1, f, _, acc, rfl, rfl, hO, hacc, .inl ⟨hle1, hf, hg, fun j hj1 hj2 => ?_⟩⟩
        by_cases hji : j = i
        · subst hji; exact hoc hj1
        · exact hno j hj1 (by omega)
      · have hin : i = line.length := by omega
        refine bsel_false (by simp; omega) ?_; conv => whnf
        have hlast := sp_last (s := line) hf (fun j hj => by
          by_cases hji : j < i
          · exact hno j hj hji
          · exact occ_no (by omega))
        have htk : line.drop f = (line.take i).drop f := by rw [hin, List.take_length]
        rw [hlast, htk] at hg
        have hend : ∀ A : List Dd, goS [] A = R → ((i + 1 ≤ line.length ∧ i + 3 ≤ line.length ∧ goS (sp sepD (line.drop (i + 3))) A = R ∧ ∀ j, i + 3 ≤ j → j < i + 1 → Lib.occAt line sepD j = false) ∨ (i + 1 = line.length + 1 ∧ i + 3 ≤ line.length + 3 ∧ R = (A, 0))) := fun A hA => .inr ⟨by omega, by omega, hA.symm⟩
        rw [goS_cons] at hg
        conv => whnf
        (first | refine need_intro (⟨by omega, by rw [bs_size]; omega⟩) ?_ | refine must.mk (⟨by omega, by rw [bs_size]; omega⟩) ?_); conv => whnf
        (first | refine need_intro (⟨by omega, by omega⟩) ?_ | refine must.mk (⟨by omega, by omega⟩) ?_); conv => whnf
        refine sub_by (m := (line.take i).drop f) (by rw [Int.toNat_natCast, Int.toNat_natCast]) ?_
        conv => whnf
        refine rread_x _ hpl fun h4 le4 => ?_
        have hO := hO.up le4
        generalize readS ((line.take i).drop f) = Q at *
        obtain ⟨⟨q1', q2', q3', q4'⟩, qe⟩ := Q
        simp only at hg
        conv => whnf
        refine bsel_intro (fun q5 => ?_) (fun q5 => ?_) <;> try simp only [bsL] at q5
        · rw [if_pos q5] at hg
          conv => whnf
          have hR2 : R.2 = qe := by rw [← hg]
          rw [← hR2]
          exact hk0 _ hO.le (by rw [hR2]; exact q5)
        rw [if_neg (fun hh => hh q5)] at hg
        conv => whnf
        refine bsel_intro (fun q6 => ?_) (fun q6 => ?_) <;> try simp only [bsL] at q6
        · rw [if_pos (by omega)] at hg
          have hR2 : R.2 = 4 := by rw [← hg]
          conv => whnf
          have := hk0 h4 hO.le (by rw [hR2]; decide)
          rw [hR2] at this
          exact this
        · rw [if_neg (by omega)] at hg
          conv => whnf
          refine new_intro (o := rowO 66 [zv q1', zv q2', zv q3', zv q4']) (fun y h5 n_y le_y at_y ot_y => ?_); conv => whnf
          refine Owns.app1 (z := .agg #[zv 0, zv 0, zv 0, zv 0]) (by kernel_rfl) infRD (by kernel_rfl) (by kernel_rfl) (by kernel_rfl) rfl (bytes := 32) (by decide) rfl rfl rfl (hO.up le_y) at_y rfl rfl (by omega) fun s6 h6 hO6 => ?_
          have hO7 : Owns h h6 66 4 s6 (acc ++ [(⟨q1', q2', q3', q4'⟩ : Dd)]).length ((acc ++ [(⟨q1', q2', q3', q4'⟩ : Dd)]).flatMap Dd.cs) := by
            rw [List.length_append, List.flatMap_append]
            exact hO6
          conv => whnf
          (first | refine ov_c (by simp only [loK, hiK]; omega) ?_ | refine ov_c (by decide) ?_); conv => whnf
          (first | refine ov_c (by simp only [loK, hiK]; omega) ?_ | refine ov_c (by decide) ?_); conv => whnf
          refine ⟨line.length + 1 - (i + 1), by omega, i + 1, i + 3, s6, _, rfl, rfl, hO7, by simp; omega, hend _ hg⟩
  · have hfin := hinv.resolve_left (fun hh => by omega)
    conv => whnf
    exact hk _ h2 (by rw [hfin.2.2]) (by rw [hfin.2.2]; exact hO)
end
end Go.Proofs.YtciagjfemgfhgaaGreatDoor
/-! A text's test: the document's. -/
namespace Go.Proofs.YtciagjfemgfhgaaGreatDoor
set_option linter.unusedSimpArgs false
set_option linter.unusedVariables false
open Go Go.Mid Go.RowKit
attribute [local irreducible] mid
theorem drop_take_split {t : Str} {a e : Nat} (hae : a ≤ e) (hl : e < t.length) {b : UInt8} (hb : t[e]? = some b) : t.drop a = (t.take e).drop a ++ b :: t.drop (e + 1) := by
  have h1 : t = t.take e ++ b :: t.drop (e + 1) := by
    have : t.drop e = b :: t.drop (e + 1) := by
      rw [List.drop_eq_getElem_cons hl]
      congr 1
      exact (List.getElem?_eq_some_iff.1 hb).2
    rw [← this, List.take_append_drop]
  have h2 : t.drop a = (t.take e ++ b :: t.drop (e + 1)).drop a := by rw [← h1]
  rw [h2, List.drop_append_of_le_length (by rw [List.length_take]; omega)]
theorem no_ten {t : Str} {a e : Nat} (h : ∀ (j : Nat) (b : UInt8), a ≤ j → j < e → t[j]? = some b → b ≠ 10) : (10 : UInt8) ∉ (t.take e).drop a := fun hm => by
  obtain ⟨j, hj⟩ := List.mem_iff_getElem?.1 hm
  rw [List.getElem?_drop, List.getElem?_take] at hj
  split at hj
  · exact h (a + j) 10 (by omega) (by omega) hj rfl
  · cases hj
section
set_option maxHeartbeats 8000000
set_option maxRecDepth 10000
variable {h : Hp} {K : Value → Hp → Prop}
theorem RdR_nil : RdR h (.slice none 0 0) [] := ⟨none, 0, rfl, fun i p hp => by simp at hp, fun p hp => by cases hp⟩
theorem rparse_x (text : Str) (hl : text.length ≤ 1000)
    (hk : ∀ v Us h', h.le h' → RdR h' v Us → Us.map (·.L) = (parseS text).1 → K (.tuple #[v, zv (parseS text).2.1, zv (parseS text).2.2]) h') : X Tryz.prog 13 #[sv text] h K := by
  have hT : parseS text = parseF 5 1 [] text := rfl
  generalize parseS text = R at *
  have hbad : ∀ h' (n e : Int), h.le h' → R = ([], n, e) → K (.tuple #[.slice none 0 0, zv n, zv e]) h' := fun h' n e hle hR => by
    have := hk (.slice none 0 0) [] h' hle RdR_nil (by rw [hR]; rfl)
    rw [hR] at this
    exact this
  refine fnv (args := _) mixed [] [] [] Tryz.func13 rfl (by kernel_rfl) ?_; conv => whnf
  refine loop_at [7, 6, 5] [] (fun r vs cs h' => ∃ (f n at_ : Nat) (sl : Value) (Us : List Th) (k : Hp), f + (n + 1) = 6 ∧ Us.length = n ∧ n ≤ 3 ∧ f = r ∧ vs = [.v (zv at_), .v (zv n), .v sl] ∧ at_ ≤ text.length ∧ parseF f (n + 1) (Us.map (·.L)) (text.drop at_) = R ∧ h.le k ∧ Reads 66 k Us ∧ Owns k h' 64 1 sl Us.length (Us.map Th.v)) 5
    ⟨5, 0, 0, .slice none 0 0, [], h, rfl, rfl, by omega, rfl, rfl, by omega, hT.symm, Hp.le_refl _, Reads.nil _ _, Owns.nil (Hp.le_refl _)⟩ ?_
  clear hT
  rintro r vs cs mm bx h1 ⟨f, n, at_, sl, Us, k, hfn, hUn, hn3, rfl, rfl, hat, hR, lk, hRd, hO⟩
  obtain ⟨sa, sc, rfl⟩ := hO.shape
  obtain ⟨f, rfl⟩ : ∃ g, f = g + 1 := ⟨f - 1, by omega⟩
  rw [parseF_at] at hR
  have le1 := Hp.le_trans lk hO.le
  conv => whnf
  refine bsel_intro (fun q1 => ?_) (fun q1 => ?_) <;> try simp only [bsL] at q1
  · have hcond : ¬ (text.drop at_ = [] ∧ n + 1 ≠ 1) := fun hh => by
      have := congrArg List.length hh.1
      rw [List.length_drop, List.length_nil] at this
      omega
    rw [if_neg hcond] at hR
    conv => whnf
    (first | refine ov_c (by simp only [loK, hiK]; omega) ?_ | refine ov_c (by decide) ?_); conv => whnf
    refine loop_at [8] [] (fun r vs cs h' => h1 = h' ∧ ∃ e : Nat, at_ ≤ e ∧ e ≤ text.length ∧ r = text.length - e ∧ vs = [.v (zv e)] ∧ ∀ (j : Nat) (b : UInt8), at_ ≤ j → j < e → text[j]? = some b → b ≠ 10) (text.length - at_) ⟨rfl, at_, by omega, by omega, rfl, rfl, fun j b h1 h2 => by omega⟩ ?_
    rintro r vs cs mm bx _ ⟨rfl, e, hae, hel, rfl, rfl, hno⟩
    conv => whnf
    refine bsel_intro (fun q3 => ?_) (fun q3 => ?_) <;> try simp only [bsL] at q3
    · have heL : e < text.length := by omega
      obtain ⟨b, hb⟩ : ∃ b, text[e]? = some b := ⟨_, List.getElem?_eq_getElem heL⟩
      conv => whnf
      refine ch_intro (b) (by omega) (by rw [Int.toNat_natCast]; exact hb) ?_; conv => whnf
      refine bsel_intro (fun q4 => ?_) (fun q4 => ?_) <;> try simp only [bsL] at q4
      · have hb10 : b ≠ 10 := fun hh => q4 (by rw [hh]; rfl)
        conv => whnf
        (first | refine ov_c (by simp only [loK, hiK]; omega) ?_ | refine ov_c (by decide) ?_); conv => whnf
        refine ⟨text.length - (e + 1), by omega, rfl, e + 1, by omega, by omega, rfl, rfl, fun j x hj1 hj2 hx => ?_⟩
        by_cases hje : j = e
        · subst hje; rw [hb] at hx; cases hx; exact hb10
        · exact hno j x hj1 (by omega) hx
      · have hb10 : b = 10 := UInt8.toNat_inj.1 (by have : (10 : UInt8).toNat = 10 := rfl; omega)
        subst hb10
        have hsp := drop_take_split hae heL hb
        have hnt := no_ten hno
        have hin : (10 : UInt8) ∈ text.drop at_ := by rw [hsp]; simp
        have hline : lineOf (text.drop at_) = (text.take e).drop at_ := by rw [hsp]; exact take_line hnt
        have hlen : ((text.take e).drop at_).length = e - at_ := by rw [List.length_drop, List.length_take]; omega
        have hdr : (text.drop at_).drop ((lineOf (text.drop at_)).length + 1) = text.drop (e + 1) := by rw [hline, hlen, List.drop_drop]; congr 1; omega
        rw [if_neg (fun hh => hh hin), hdr, hline] at hR
        conv => whnf
        refine bsel_false (by rw [bs_size]; simp; omega) ?_; conv => whnf
        refine bsel_intro (fun q5 => ?_) (fun q5 => ?_) <;> try simp only [bsL] at q5
        · rw [if_pos (by omega)] at hR
          conv => whnf
          exact hbad _ _ _ le1 hR.symm
        rw [if_neg (by omega)] at hR
        conv => whnf
        (first | refine need_intro (⟨by omega, by rw [bs_size]; omega⟩) ?_ | refine must.mk (⟨by omega, by rw [bs_size]; omega⟩) ?_); conv => whnf
        (first | refine need_intro (⟨by omega, by omega⟩) ?_ | refine must.mk (⟨by omega, by omega⟩) ?_); conv => whnf
        refine sub_by (m := (text.take e).drop at_) (by rw [Int.toNat_natCast, Int.toNat_natCast]) ?_
        conv => whnf
        refine rthread_x _ (by omega) (fun h2 le2 hne => ?_) (fun s2 h2 heq hO2 => ?_)
        · rw [if_pos hne] at hR
          conv => whnf
          refine bsel_true (by simpa using hne) ?_; conv => whnf
          exact hbad _ _ _ (Hp.le_trans le1 le2) hR.symm
        · rw [if_neg (fun hh => hh heq)] at hR
          generalize hQ : (threadS ((text.take e).drop at_)).1 = Q at *
          have hob_ := hO.alsoN aggRD sizRD (f := Dd.cs) (fun _ => rfl) hO2
          obtain ⟨k', lk', hO', rd'⟩ := hob_
          obtain ⟨a2, c2, rfl, fr⟩ := rd'
          rw [List.length_map]
          conv => whnf
          refine new_intro (o := rowO 64 [.slice a2 Q.length c2]) (fun y h4 n_y le_y at_y ot_y => ?_); conv => whnf
          refine Owns.app1 (z := .slice none 0 0) (by kernel_rfl) infRL (by kernel_rfl) (by kernel_rfl) (by kernel_rfl) rfl (bytes := 24) (by decide) rfl rfl rfl (hO'.up le_y) at_y rfl rfl (by omega) fun s5 h5 hO5 => ?_
          obtain ⟨ta, tc, rfl⟩ := hO5.shape
          conv => whnf
          (first | refine ov_c (by simp only [loK, hiK]; omega) ?_ | refine ov_c (by decide) ?_); conv => whnf
          refine ⟨f, by omega, f, n + 1, e + 1, _, Us ++ [⟨a2, c2, Q⟩], k', by omega, by simp; omega, by omega, rfl, rfl, by omega, ?_, Hp.le_trans lk lk', ?_, ?_⟩
          · rw [List.map_append]; exact hR
          · intro p hp2 j d hd
            rcases List.mem_append.1 hp2 with h9 | h9
            · exact (hRd.le lk') p h9 j d hd
            · simp only [List.mem_singleton] at h9
              subst h9
              rw [Int.toNat_natCast]
              exact fr j _ (by rw [List.getElem?_map, hd]; rfl)
          · rw [List.length_append, List.map_append]
            exact hO5
    · have heL : e = text.length := by omega
      have hin : (10 : UInt8) ∉ text.drop at_ := by
        have := no_ten hno
        rwa [heL, List.take_length] at this
      rw [if_pos hin] at hR
      conv => whnf
      refine bsel_true (by rw [bs_size]; simp; omega) ?_; conv => whnf
      exact hbad _ _ _ le1 hR.symm
  · have hd0 : text.drop at_ = [] := List.drop_eq_nil_of_le (by omega)
    conv => whnf
    refine bsel_intro (fun q2 => ?_) (fun q2 => ?_) <;> try simp only [bsL] at q2
    · have hcond : ¬ (text.drop at_ = [] ∧ n + 1 ≠ 1) := fun hh => hh.2 (by omega)
      rw [if_neg hcond] at hR
      conv => whnf
      (first | refine ov_c (by simp only [loK, hiK]; omega) ?_ | refine ov_c (by decide) ?_); conv => whnf
      refine loop_at [8] [] (fun r vs cs h' => h1 = h' ∧ ∃ e : Nat, at_ ≤ e ∧ e ≤ text.length ∧ r = text.length - e ∧ vs = [.v (zv e)] ∧ ∀ (j : Nat) (b : UInt8), at_ ≤ j → j < e → text[j]? = some b → b ≠ 10) (text.length - at_) ⟨rfl, at_, by omega, by omega, rfl, rfl, fun j b h1 h2 => by omega⟩ ?_
      rintro r vs cs mm bx _ ⟨rfl, e, hae, hel, rfl, rfl, hno⟩
      conv => whnf
      refine bsel_intro (fun q3 => ?_) (fun q3 => ?_) <;> try simp only [bsL] at q3
      · have heL : e < text.length := by omega
        obtain ⟨b, hb⟩ : ∃ b, text[e]? = some b := ⟨_, List.getElem?_eq_getElem heL⟩
        conv => whnf
        refine ch_intro (b) (by omega) (by rw [Int.toNat_natCast]; exact hb) ?_; conv => whnf
        refine bsel_intro (fun q4 => ?_) (fun q4 => ?_) <;> try simp only [bsL] at q4
        · have hb10 : b ≠ 10 := fun hh => q4 (by rw [hh]; rfl)
          conv => whnf
          (first | refine ov_c (by simp only [loK, hiK]; omega) ?_ | refine ov_c (by decide) ?_); conv => whnf
          refine ⟨text.length - (e + 1), by omega, rfl, e + 1, by omega, by omega, rfl, rfl, fun j x hj1 hj2 hx => ?_⟩
          by_cases hje : j = e
          · subst hje; rw [hb] at hx; cases hx; exact hb10
          · exact hno j x hj1 (by omega) hx
        · have hb10 : b = 10 := UInt8.toNat_inj.1 (by have : (10 : UInt8).toNat = 10 := rfl; omega)
          subst hb10
          have hsp := drop_take_split hae heL hb
          have hnt := no_ten hno
          have hin : (10 : UInt8) ∈ text.drop at_ := by rw [hsp]; simp
          have hline : lineOf (text.drop at_) = (text.take e).drop at_ := by rw [hsp]; exact take_line hnt
          have hlen : ((text.take e).drop at_).length = e - at_ := by rw [List.length_drop, List.length_take]; omega
          have hdr : (text.drop at_).drop ((lineOf (text.drop at_)).length + 1) = text.drop (e + 1) := by rw [hline, hlen, List.drop_drop]; congr 1; omega
          rw [if_neg (fun hh => hh hin), hdr, hline] at hR
          conv => whnf
          refine bsel_false (by rw [bs_size]; simp; omega) ?_; conv => whnf
          refine bsel_intro (fun q5 => ?_) (fun q5 => ?_) <;> try simp only [bsL] at q5
          · rw [if_pos (by omega)] at hR
            conv => whnf
            exact hbad _ _ _ le1 hR.symm
          rw [if_neg (by omega)] at hR
          conv => whnf
          (first | refine need_intro (⟨by omega, by rw [bs_size]; omega⟩) ?_ | refine must.mk (⟨by omega, by rw [bs_size]; omega⟩) ?_); conv => whnf
          (first | refine need_intro (⟨by omega, by omega⟩) ?_ | refine must.mk (⟨by omega, by omega⟩) ?_); conv => whnf
          refine sub_by (m := (text.take e).drop at_) (by rw [Int.toNat_natCast, Int.toNat_natCast]) ?_
          conv => whnf
          refine rthread_x _ (by omega) (fun h2 le2 hne => ?_) (fun s2 h2 heq hO2 => ?_)
          · rw [if_pos hne] at hR
            conv => whnf
            refine bsel_true (by simpa using hne) ?_; conv => whnf
            exact hbad _ _ _ (Hp.le_trans le1 le2) hR.symm
          · rw [if_neg (fun hh => hh heq)] at hR
            generalize hQ : (threadS ((text.take e).drop at_)).1 = Q at *
            have hob_ := hO.alsoN aggRD sizRD (f := Dd.cs) (fun _ => rfl) hO2
            obtain ⟨k', lk', hO', rd'⟩ := hob_
            obtain ⟨a2, c2, rfl, fr⟩ := rd'
            rw [List.length_map]
            conv => whnf
            refine new_intro (o := rowO 64 [.slice a2 Q.length c2]) (fun y h4 n_y le_y at_y ot_y => ?_); conv => whnf
            refine Owns.app1 (z := .slice none 0 0) (by kernel_rfl) infRL (by kernel_rfl) (by kernel_rfl) (by kernel_rfl) rfl (bytes := 24) (by decide) rfl rfl rfl (hO'.up le_y) at_y rfl rfl (by omega) fun s5 h5 hO5 => ?_
            obtain ⟨ta, tc, rfl⟩ := hO5.shape
            conv => whnf
            (first | refine ov_c (by simp only [loK, hiK]; omega) ?_ | refine ov_c (by decide) ?_); conv => whnf
            refine ⟨f, by omega, f, n + 1, e + 1, _, Us ++ [⟨a2, c2, Q⟩], k', by omega, by simp; omega, by omega, rfl, rfl, by omega, ?_, Hp.le_trans lk lk', ?_, ?_⟩
            · rw [List.map_append]; exact hR
            · intro p hp2 j d hd
              rcases List.mem_append.1 hp2 with h9 | h9
              · exact (hRd.le lk') p h9 j d hd
              · simp only [List.mem_singleton] at h9
                subst h9
                rw [Int.toNat_natCast]
                exact fr j _ (by rw [List.getElem?_map, hd]; rfl)
            · rw [List.length_append, List.map_append]
              exact hO5
      · have heL : e = text.length := by omega
        have hin : (10 : UInt8) ∉ text.drop at_ := by
          have := no_ten hno
          rwa [heL, List.take_length] at this
        rw [if_pos hin] at hR
        conv => whnf
        refine bsel_true (by rw [bs_size]; simp; omega) ?_; conv => whnf
        exact hbad _ _ _ le1 hR.symm
    · rw [if_pos ⟨hd0, by omega⟩] at hR
      have rs := hO.rd aggRL
      conv => whnf
      have := hk (.slice sa Us.length sc) Us h1 le1 ?_ (by rw [← hR])
      · rw [← hR] at this
        exact this
      · obtain ⟨b, c, e, f3⟩ := rs
        rw [List.length_map] at e
        refine ⟨b, c, e, fun i p hp => ?_, fun p hp j d hd => (hRd.le hO.le) p hp j d hd⟩
        rw [Int.toNat_natCast]
        exact f3 i _ (by rw [List.getElem?_map, hp]; rfl)
end
end Go.Proofs.YtciagjfemgfhgaaGreatDoor
/-! Tests of texts: the law. -/
namespace Go.Proofs.YtciagjfemgfhgaaGreatDoor
set_option linter.unusedSimpArgs false
set_option linter.unusedVariables false
open Go Go.Mid Go.RowKit
attribute [local irreducible] mid
theorem goS_len : ∀ (ps : List Str) (acc : List Dd), acc.length ≤ 5 → (goS ps acc).1.length ≤ 5
  | [], acc, h => h
  | s :: r, acc, h => by
    rw [goS_cons]
    split
    · simp
    split
    · simp
    · rename_i h5
      exact goS_len r _ (by simp; omega)
theorem threadS_len (line : Str) : (threadS line).1.length ≤ 5 := by
  unfold threadS
  split
  · simp
  · exact goS_len _ _ (by simp)
theorem parseF_bd : ∀ (f n : Nat) (acc : List (List Dd)) (text : Str), (∀ L ∈ acc, L.length ≤ 5) → (∀ L ∈ (parseF f n acc text).1, L.length ≤ 5) ∧ (parseF f n acc text).1.length ≤ acc.length + f
  | 0, n, acc, text, _ => ⟨fun L hL => (by cases hL), Nat.zero_le _⟩
  | f + 1, n, acc, text, h => by
    rw [parseF_at]
    split
    · exact ⟨h, Nat.le_add_right _ _⟩
    split
    · exact ⟨fun L hL => (by cases hL), Nat.zero_le _⟩
    split
    · exact ⟨fun L hL => (by cases hL), Nat.zero_le _⟩
    split
    · exact ⟨fun L hL => (by cases hL), Nat.zero_le _⟩
    · have := parseF_bd f (n + 1) (acc ++ [(threadS (lineOf text)).1]) (text.drop ((lineOf text).length + 1)) (fun L hL => by
        rcases List.mem_append.1 hL with hL | hL
        · exact h L hL
        · simp only [List.mem_singleton] at hL; subst hL; exact threadS_len _)
      rw [List.length_append] at this
      exact ⟨this.1, by have := this.2; simp at this; omega⟩
theorem parseS_bd (text : Str) : (∀ L ∈ (parseS text).1, L.length ≤ 5) ∧ (parseS text).1.length ≤ 5 := by
  have := parseF_bd 5 1 [] text (fun L hL => by cases hL)
  exact ⟨this.1, by have h2 := this.2; rw [List.length_nil, Nat.zero_add] at h2; exact h2⟩
section
set_option maxHeartbeats 8000000
set_option maxRecDepth 10000
variable {h : Hp} {K : Value → Hp → Prop}
theorem eqDd (a b c d : Int) : eqW Tryz.prog 10000 66 (.agg #[zv a, zv b, zv c, zv d]) (.agg #[zv a, zv b, zv c, zv d]) = some ((a == a) && ((b == b) && ((c == c) && ((d == d) && true)))) := by kernel_rfl
theorem same_x (v w : Value) (Ts Us : List Th) (hr : RdP h v Ts) (hu : RdR h w Us) (he : Us.map (·.L) = Ts.map (·.L)) (hT5 : (Ts.map (·.L)).length ≤ 1000) (hL5 : ∀ L ∈ Ts.map (·.L), L.length ≤ 1000) (hk : K (.bool true) h) : X Tryz.prog 12 #[.agg #[v], w] h K := by
  have hob_ := hr
  obtain ⟨base, cap, rfl, hf1, hf2⟩ := hob_
  have hob_ := hu
  obtain ⟨ub, uc, rfl, hg1, hg2⟩ := hob_
  rw [List.length_map] at hT5
  have hl : Us.length = Ts.length := by have := congrArg List.length he; simpa using this
  have hpe : ∀ (i : Nat) (p q : Th), Ts[i]? = some p → Us[i]? = some q → q.L = p.L := fun i p q hp hq => by
    have := congrArg (fun l => l[i]?) he
    simp only [List.getElem?_map, hp, hq, Option.map_some, Option.some.injEq] at this
    exact this
  refine fnv (args := _) mixed [(2, 2), (7, 2), (19, 2), (40, 2)] [] [] Tryz.func12 rfl (by kernel_rfl) ?_; conv => whnf
  rw [hl]
  refine bsel_false (by simp) ?_; conv => whnf
  refine loop_at [5] [2] (fun r vs cs h' => h = h' ∧ cs = [some [.slice base Ts.length cap]] ∧ ∃ i : Nat, i ≤ Ts.length ∧ r = Ts.length - i ∧ vs = [.v (zv i)]) Ts.length ⟨rfl, rfl, 0, by omega, by omega, rfl⟩ ?_
  rintro r vs cs mm bx _ ⟨rfl, rfl, i, hi, rfl, rfl⟩
  conv => whnf
  refine bsel_intro (fun q1 => ?_) (fun q1 => ?_) <;> try simp only [bsL] at q1
  · have hiT : i < Ts.length := by omega
    obtain ⟨⟨pa, pc, pL⟩, hp⟩ : ∃ p, Ts[i]? = some p := ⟨_, List.getElem?_eq_getElem hiT⟩
    obtain ⟨⟨qa, qc, qL⟩, hq⟩ : ∃ p, Us[i]? = some p := ⟨_, List.getElem?_eq_getElem (by omega)⟩
    have hLe := hpe i _ _ hp hq
    have hL9 := hL5 _ (List.mem_map.2 ⟨_, List.mem_of_getElem? hp, rfl⟩)
    simp only at hLe hL9
    subst hLe
    obtain ⟨b1, rfl, l1⟩ := hf1 i _ hp
    obtain ⟨b2, rfl, l2⟩ := hg1 i _ hq
    have g1 := hf2 _ (List.mem_of_getElem? hp)
    have g2 := hg2 _ (List.mem_of_getElem? hq)
    simp only [] at g1 g2
    conv => whnf
    (first | refine need_intro (⟨by omega, by omega⟩) ?_ | refine must.mk (⟨by omega, by omega⟩) ?_); conv => whnf
    refine ⟨_, l1, ?_⟩; conv => whnf
    (first | refine need_intro (⟨by omega, by omega⟩) ?_ | refine must.mk (⟨by omega, by omega⟩) ?_); conv => whnf
    refine ⟨_, l2, ?_⟩; conv => whnf
    refine bsel_false (by simp) ?_; conv => whnf
    refine loop_at [6] [2] (fun r vs cs h' => h = h' ∧ cs = [some [.slice (some b1) Ts.length cap]] ∧ ∃ k : Nat, k ≤ qL.length ∧ r = qL.length - k ∧ vs = [.v (zv k)]) qL.length ⟨rfl, rfl, 0, by omega, by omega, rfl⟩ ?_
    rintro r vs cs mm bx _ ⟨rfl, rfl, k, hk9, rfl, rfl⟩
    conv => whnf
    (first | refine need_intro (⟨by omega, by omega⟩) ?_ | refine must.mk (⟨by omega, by omega⟩) ?_); conv => whnf
    refine ⟨_, l2, ?_⟩; conv => whnf
    refine bsel_intro (fun q2 => ?_) (fun q2 => ?_) <;> try simp only [bsL] at q2
    · have hkL : k < qL.length := by omega
      obtain ⟨d, hd⟩ : ∃ d, qL[k]? = some d := ⟨_, List.getElem?_eq_getElem hkL⟩
      obtain ⟨b3, rfl, l3⟩ := g1 k d hd
      obtain ⟨b4, rfl, l4⟩ := g2 k d hd
      obtain ⟨d1, d2, d3, d4⟩ := d
      conv => whnf
      (first | refine need_intro (⟨by omega, by omega⟩) ?_ | refine must.mk (⟨by omega, by omega⟩) ?_); conv => whnf
      refine ⟨_, l1, ?_⟩; conv => whnf
      (first | refine need_intro (⟨by omega, by omega⟩) ?_ | refine must.mk (⟨by omega, by omega⟩) ?_); conv => whnf
      refine ⟨_, l3, ?_⟩; conv => whnf
      (first | refine need_intro (⟨by omega, by omega⟩) ?_ | refine must.mk (⟨by omega, by omega⟩) ?_); conv => whnf
      refine ⟨_, l2, ?_⟩; conv => whnf
      (first | refine need_intro (⟨by omega, by omega⟩) ?_ | refine must.mk (⟨by omega, by omega⟩) ?_); conv => whnf
      refine ⟨_, l4, ?_⟩; conv => whnf
      refine must_via (b := true) (by kernel_rfl) ((eqDd d1 d2 d3 d4).trans (by simp)) ?_
      conv => whnf
      (first | refine ov_c (by simp only [loK, hiK]; omega) ?_ | refine ov_c (by decide) ?_); conv => whnf
      exact ⟨qL.length - (k + 1), by omega, rfl, rfl, k + 1, by omega, rfl, rfl⟩
    · conv => whnf
      (first | refine ov_c (by simp only [loK, hiK]; omega) ?_ | refine ov_c (by decide) ?_); conv => whnf
      exact ⟨Ts.length - (i + 1), by omega, rfl, rfl, i + 1, by omega, rfl, rfl⟩
  · conv => whnf
    exact hk
theorem litmusTexts_x (hp : Pow h) (hm : Mx h) (her : Er h) (v : Value) (Ts : List Th) (hr : RdP h v Ts) (hmx : ∀ p ∈ Ts, p.L.length ≤ 2 ^ 62) (text : Str) (hk : ∀ h', h.le h' → K (.bool true) h') : X Tryz.prog 3 #[.agg #[v], sv text] h K := by
  have hob_ := hr
  obtain ⟨base, cap, rfl, _, _⟩ := hob_
  refine fnv (args := _) mixed [(2, 2), (9, 9), (12, 12)] [] [] Tryz.func3 rfl (by kernel_rfl) ?_; conv => whnf
  refine few_x _ Ts hr hmx ?_
  cases hfew : fewB Ts with
  | false =>
    conv => whnf
    refine live_x hp ?_
    conv => whnf
    exact hk _ (Hp.le_refl _)
  | true =>
  have hfw : Ts.length < 10 ∧ sumL Ts Ts.length ≤ 9 := of_decide_eq_true hfew
  have hmx9 : ∀ p ∈ Ts, p.L.length ≤ 100 := fun p hp => by
    obtain ⟨i, hi⟩ := List.mem_iff_getElem?.1 hp
    have h1 := sumL_succ hi
    have h2 := sumL_mono (Ts := Ts) (show i + 1 ≤ Ts.length from (List.getElem?_eq_some_iff.1 hi).1)
    omega
  conv => whnf
  refine bsel_intro (fun q0 => ?_) (fun q0 => ?_) <;> try simp only [bsL] at q0
  · conv => whnf
    refine live_x hp ?_
    conv => whnf
    exact hk _ (Hp.le_refl _)
  have htl : text.length ≤ 1000 := by omega
  conv => whnf
  refine text_x hp _ Ts hr (fun h1 le1 hc => ?_) (fun h1 le1 hc => ?_)
  · conv => whnf
    refine to_x _ Ts (hr.le le1) (by omega) hmx9 fun v1 Us1 h2 le2 hU1 hrU1 => ?_
    have le9 := Hp.le_trans le1 le2
    conv => whnf
    refine rtext_x v1 Us1 hrU1 (fun _ => ?_) (fun hh => absurd (hU1 ▸ hh) hc)
    rw [hU1]
    conv => whnf
    refine seq_true (rfl) ?_; conv => whnf
    refine bsel_false (by simp) ?_; conv => whnf
    refine check_x _ Ts (hr.le le9) ?_
    refine ⟨trivial, ?_⟩
    conv => whnf
    refine to_x _ Ts (hr.le le9) (by omega) hmx9 fun v2 Us2 h4 le4 hU2 hrU2 => ?_
    refine ⟨trivial, ?_⟩
    conv => whnf
    refine rcheck_x v2 Us2 hrU2 ?_
    rw [hU2]
    refine ⟨trivial, ?_⟩
    conv => whnf
    refine bsel_false (by simp) ?_; conv => whnf
    refine bsel_false (by simpa using hc) ?_; conv => whnf
    have leA := Hp.le_trans le9 le4
    conv => whnf
    refine parse_x (hm.le leA) (her.le leA) (hp.le leA) text htl fun v5 Us5 h9 le9 hrd5 hmap5 => ?_
    have hob_ := hrd5
    obtain ⟨xb, xc, rfl, _, _⟩ := hob_
    have hbd := parseS_bd text
    conv => whnf
    refine rparse_x text htl fun v6 Us6 h10 le10 hrd6 hmap6 => ?_
    rw [← hmap5] at hbd hmap6
    conv => whnf
    refine same_x _ v6 Us5 Us6 (hrd5.le le10) hrd6 hmap6 (by omega) (fun L hL => by have := hbd.1 L hL; omega) ?_
    have leB := Hp.le_trans leA (Hp.le_trans le9 le10)
    conv => whnf
    refine bsel_true (by simp) ?_; conv => whnf
    refine bsel_true (by simp) ?_; conv => whnf
    refine live_x (hp.le leB) ?_
    conv => whnf
    exact hk _ leB
  · have hsl := textT_len (chk_ok hc).2.2.1 (chk_ok hc).2.2.2 (Ts.map (·.L)).length (Nat.le_refl _)
    rw [List.take_length] at hsl
    have hsl2 := (chk_ok hc).1
    have hbk := parseS_text hc
    conv => whnf
    refine to_x _ Ts (hr.le le1) (by omega) hmx9 fun v1 Us1 h2 le2 hU1 hrU1 => ?_
    have le9 := Hp.le_trans le1 le2
    conv => whnf
    refine rtext_x v1 Us1 hrU1 (fun hh => absurd (hU1 ▸ hc) hh) (fun _ => ?_)
    rw [hU1]
    conv => whnf
    refine seq_true (rfl) ?_; conv => whnf
    refine check_x _ Ts (hr.le le9) ?_
    refine ⟨trivial, ?_⟩
    conv => whnf
    refine to_x _ Ts (hr.le le9) (by omega) hmx9 fun v2 Us2 h4 le4 hU2 hrU2 => ?_
    refine ⟨trivial, ?_⟩
    conv => whnf
    refine rcheck_x v2 Us2 hrU2 ?_
    rw [hU2]
    refine ⟨trivial, ?_⟩
    conv => whnf
    refine bsel_false (by simp) ?_; conv => whnf
    have le94 := Hp.le_trans le9 le4
    refine parse_x (hm.le le94) (her.le le94) (hp.le le94) (textT (Ts.map (·.L))) (by omega) fun v3 Us3 h5 le5 hrd3 hmap3 => ?_
    rw [hbk] at hmap3 ⊢
    simp only [] at hmap3 ⊢
    have hob_ := hrd3
    obtain ⟨xb3, xc3, rfl, _, _⟩ := hob_
    conv => whnf
    have le95 := Hp.le_trans le94 le5
    refine to_x _ Ts (hr.le le95) (by omega) hmx9 fun v4 Us4 h6 le6 hU4 hrU4 => ?_
    refine ⟨trivial, ?_⟩
    conv => whnf
    refine same_x _ v4 Us3 Us4 (hrd3.le le6) hrU4 (by rw [hU4, hmap3]) (by rw [hmap3]; omega) (fun L hL => by rw [hmap3] at hL; have := (chk_ok hc).2.2.1 L hL; omega) ?_
    refine ⟨trivial, ?_⟩
    conv => whnf
    have leA := Hp.le_trans le95 le6
    conv => whnf
    refine parse_x (hm.le leA) (her.le leA) (hp.le leA) text htl fun v5 Us5 h9 le9 hrd5 hmap5 => ?_
    have hob_ := hrd5
    obtain ⟨xb, xc, rfl, _, _⟩ := hob_
    have hbd := parseS_bd text
    conv => whnf
    refine rparse_x text htl fun v6 Us6 h10 le10 hrd6 hmap6 => ?_
    rw [← hmap5] at hbd hmap6
    conv => whnf
    refine same_x _ v6 Us5 Us6 (hrd5.le le10) hrd6 hmap6 (by omega) (fun L hL => by have := hbd.1 L hL; omega) ?_
    have leB := Hp.le_trans leA (Hp.le_trans le9 le10)
    conv => whnf
    refine bsel_true (by simp) ?_; conv => whnf
    refine bsel_true (by simp) ?_; conv => whnf
    refine live_x (hp.le leB) ?_
    conv => whnf
    exact hk _ leB
end
end Go.Proofs.YtciagjfemgfhgaaGreatDoor
/-! Tests of texts: the law of its arguments as data. -/
namespace Go.Proofs.YtciagjfemgfhgaaGreatDoor
set_option linter.unusedSimpArgs false
set_option linter.unusedVariables false
open Go Go.Mid Go.RowKit
attribute [local irreducible] mid
theorem errRow (u : TypeId) (h : Tryz.prog.typeName? 3 u = some "*errors.errorString") : u = 181 :=
  typeName_ptr_named (nm := "errors.errorString") (by rw [show "*" ++ "errors.errorString" = "*errors.errorString" by decide]; kernel_rfl) (by kernel_rfl) (by decide) u (by rw [show "*" ++ "errors.errorString" = "*errors.errorString" by decide]; exact h)
theorem sent_of {w : World} {l : List (String × DataW Unit)} {n : String} {g : Nat} {text : List UInt8} (hm : laidMetH Tryz.prog l w) (hl : l.filter (fun x => x.1 == n) = [(n, .iface "*errors.errorString" (.ptr (.agg [.lit (.string text)])))]) (hg : Tryz.prog.globalNamed n = some g) (ht : (Tryz.prog.globals[g]?).map (·.type) = some 58) : ∃ p, w.var? Tryz.prog n = some #[.iface 181 p] := by
  have h1 := laidMetH.filter (fun x => x.1 == n) hm
  rw [hl, MakeChecks.laidMetH_plain _ _ _ (by rfl)] at h1
  obtain ⟨a, s, h2, _⟩ := laid_sentinel h1 hg ht Tryz.underlying58 errRow Tryz.underlying181 Tryz.underlying183 rfl rfl Tryz.underlying9 (by kernel_rfl) (by kernel_rfl)
  exact ⟨_, h2⟩
section
set_option maxHeartbeats 8000000
set_option maxRecDepth 10000
variable {h : Hp} {K : Value → Hp → Prop}
theorem pow_of {w : World} {l : List (String × DataW Unit)} (hm : laidMetH Tryz.prog l w) (hl : l.filter (fun x => x.1 == "internal/strconv.uint64pow10") = [("internal/strconv.uint64pow10", Lib.tabData .u64 Lib.pow10Tab)]) : Pow (whole w) := by
  have h1 := laidMetH.filter (fun x => x.1 == "internal/strconv.uint64pow10") hm
  rw [hl, MakeChecks.laidMetH_plain _ _ _ (by decide +kernel)] at h1
  exact Pow.of (Lib.tabIs_of_head powG (t := (Tryz.prog.globals[1]?.map (·.type)).getD 0) (e := 46) (n := 20) (by kernel_rfl) (by kernel_rfl) (by kernel_rfl) (by kernel_rfl) (by kernel_rfl) h1)
abbrev shDd : Sh := .struct [(.int .i64), (.int .i64), (.int .i64), (.int .i64)]
abbrev shTs : Sh := .struct [(.slice (.slice shDd))]
theorem dd_of {cs : List Value} (w : Wf h shDd cs) : ∃ d : Dd, d.ok ∧ cs = d.cs := by
  obtain ⟨a1, b1, rfl, w1, w⟩ := wfC (wfS w)
  obtain ⟨a2, b2, rfl, w2, w⟩ := wfC w
  obtain ⟨a3, b3, rfl, w3, w⟩ := wfC w
  obtain ⟨a4, b4, rfl, w4, w⟩ := wfC w
  obtain rfl := wfN w
  obtain ⟨x1, rfl, p1, q1⟩ := wfI w1
  obtain ⟨x2, rfl, p2, q2⟩ := wfI w2
  obtain ⟨x3, rfl, p3, q3⟩ := wfI w3
  obtain ⟨x4, rfl, p4, q4⟩ := wfI w4
  exact ⟨⟨x1, x2, x3, x4⟩, ⟨p1, q1, p2, q2, p3, q3, p4, q4⟩, rfl⟩
theorem ts_of {cs : List Value} (w : Wf h shTs cs) : ∃ (v : Value) (Ts : List Th), cs = [v] ∧ RdP h v Ts ∧ (∀ p ∈ Ts, p.L.length * 32 ≤ reachBytes) ∧ Ts.length * 24 ≤ reachBytes := by
  obtain ⟨a1, b1, rfl, w1, w⟩ := wfC (wfS w)
  obtain rfl := wfN w
  obtain ⟨a, cap, L, rfl, hl, hL1, hL⟩ := slice_of1 (P := Tryz.prog) (t := 41) (ok := fun p : Th => p.L.length * 32 ≤ reachBytes ∧ ∀ (j : Nat) (d : Dd), p.L[j]? = some d → ∃ b, p.a = some b ∧ loadH Tryz.prog 56 h (b.add (j * 4)) = some (.agg d.cs.toArray)) (val := Th.v) aggDl rfl (fun es hw => by
    obtain ⟨a, cap, L, rfl, hl, _, hL⟩ := slice_of (P := Tryz.prog) (t := 56) (n := 4) (ok := Dd.ok) (cells := Dd.cs) aggDd sizDd (by decide) rfl (fun es hw => dd_of hw) hw
    exact ⟨⟨a, cap, L⟩, ⟨by have := hl.2; rwa [show Sh.b shDd = 32 by decide +kernel] at this, hL⟩, rfl⟩) w1
  refine ⟨_, L, rfl, ⟨a, cap, rfl, fun i p hp => ?_, fun p hp j d hd => ?_⟩, fun p hp => (hL1 p hp).1, by have := hl.2; rwa [show Sh.b (.slice shDd) = 24 by decide +kernel] at this⟩
  · rw [Int.toNat_natCast]; exact hL i p hp
  · rw [Int.toNat_natCast]; exact (hL1 p hp).2 j d hd
theorem litmusTexts_w (w : World) (hsh : w.ShapedOpen Tryz.prog) (hL : laidMetH Tryz.prog Rows.litmusTextsRow.laid w) {cs0 cs1 : List Value} (w0 : Wf (whole w) shTs cs0) (l0 : cs0.length = Sh.n shTs) (w1 : Wf (whole w) .str cs1) (l1 : cs1.length = Sh.n .str) :
    X Tryz.prog 3 #[Sh.v shTs cs0, Sh.v .str cs1] (whole w) fun v h' => v = .bool true ∧ (whole w).le h' := by
  obtain ⟨v, Ts, rfl, hr, hmx, _⟩ := ts_of w0
  obtain ⟨s, rfl, _⟩ : ∃ s : ByteArray, cs1 = [.string s] ∧ s.size ≤ maxLen := by unfold Wf at w1; exact w1
  obtain ⟨e1, h1⟩ := sent_of hL (n := "strconv.ErrSyntax") (g := 2) (by rfl) (by kernel_rfl) (by kernel_rfl)
  obtain ⟨e2, h2⟩ := sent_of hL (n := "strconv.ErrRange") (g := 3) (by rfl) (by kernel_rfl) (by kernel_rfl)
  exact litmusTexts_x (pow_of hL (by rfl)) (Mx.of hsh) (Er.of h1 h2) v Ts hr (fun p hp => by have := hmx p hp; unfold reachBytes at this; omega) s.data.toList fun h' hle => ⟨rfl, hle⟩
end
end Go.Proofs.YtciagjfemgfhgaaGreatDoor
