/-
  Rows of translations: held against each other; a cache that is copied, and held against another.
-/
import Derived.Test.YteapmakpbmmleaaTlb6
namespace Go.Proofs.Yteapmakpbmmleaa
set_option linter.unusedSimpArgs false
set_option linter.unusedVariables false
open Go Go.Mid Go.RowKit
attribute [local irreducible] mid structOk
abbrev RdE (h : Hp) (s : Value) (L : List En) : Prop := Rd Try.prog 25 4 h s (L.map En.v)
theorem rdE {h : Hp} {s : Value} {L : List En} (r : RdE h s L) : ∃ base cap, s = .slice base L.length cap ∧ ∀ (i : Nat) (e : En), L[i]? = some e → ∃ a, base = some a ∧ loadH Try.prog 25 h (a.add (i * 4)) = some e.v := by
  obtain ⟨base, cap, e1, e2⟩ := r
  rw [List.length_map] at e1
  exact ⟨base, cap, e1, fun i e hi => e2 i e.v (by rw [List.getElem?_map, hi]; rfl)⟩
theorem add_add (a : Addr) (m k : Nat) : (a.add m).add k = a.add (m + k) := by
  unfold Addr.add
  by_cases hm : m = 0
  · subst hm; simp
  · by_cases hk : k = 0
    · subst hk; simp [hm]
    · simp [hm, hk, Nat.add_assoc]
theorem cellsE {h : Hp} {base : Option Addr} {L : List En} (f : ∀ (i : Nat) (e : En), L[i]? = some e → ∃ a, base = some a ∧ loadH Try.prog 25 h (a.add (i * 4)) = some e.v) (j : Nat) (v : Value) (hj : (L.flatMap En.cells)[j]? = some v) : ∃ a, base = some a ∧ h.cell? (a.add j) = some v := by
  have hlt := (List.getElem?_eq_some_iff.1 hj).1
  rw [flat_length enLen] at hlt
  have hi : j / 4 < L.length := by omega
  obtain ⟨a, e1, e2⟩ := f (j / 4) _ (List.getElem?_eq_getElem hi)
  have h1 := (flat_at enLen L (j / 4) _ [] (List.getElem?_eq_getElem hi)).1
  rw [List.append_nil] at h1
  have h2 : (En.cells L[j / 4])[j % 4]? = some v := by
    rw [← h1, List.getElem?_take, if_pos (by omega), List.getElem?_drop, show j / 4 * 4 + j % 4 = j by omega]; exact hj
  refine ⟨a, e1, ?_⟩
  have h3 := loadH_cellOf tEnA tEnS e2 (k := j % 4) (v := v) (by simpa using h2)
  rw [add_add, show j / 4 * 4 + j % 4 = j by omega] at h3
  exact h3
theorem baseE {h : Hp} {base : Option Addr} {L : List En} (f : ∀ (i : Nat) (e : En), L[i]? = some e → ∃ a, base = some a ∧ loadH Try.prog 25 h (a.add (i * 4)) = some e.v) (hb : base = none) : L.length = 0 := by
  cases L with
  | nil => rfl
  | cons x L => obtain ⟨a, e, _⟩ := f 0 x rfl; rw [hb] at e; cases e
theorem enOne (L : List En) : (L.flatMap En.cells).all Value.oneCell' = true := by
  rw [List.all_eq_true]
  intro v hv
  obtain ⟨k, _, hv⟩ := List.mem_flatMap.1 hv
  simp only [En.cells, List.mem_cons, List.not_mem_nil, or_false] at hv
  rcases hv with rfl | rfl | rfl | rfl <;> rfl
theorem enBeq (a b : En) : (a.asid == b.asid && (a.page == b.page && (a.level == b.level && (a.pte == b.pte && true)))) = decide (a = b) := by
  rw [Bool.eq_iff_iff]
  obtain ⟨a1, a2, a3, a4⟩ := a
  obtain ⟨b1, b2, b3, b4⟩ := b
  simp
theorem take_eq_succ {α : Type} {L1 L2 : List α} {j : Nat} (h1 : j < L1.length) (h2 : j < L2.length) (ht : L1.take j = L2.take j) (he : L1[j] = L2[j]) : L1.take (j + 1) = L2.take (j + 1) := by
  rw [List.take_succ_eq_append_getElem h1, List.take_succ_eq_append_getElem h2, ht, he]
section
set_option maxHeartbeats 8000000
set_option maxRecDepth 10000
theorem equalE_x {s1 s2 : Value} {L1 L2 : List En} (h : Hp) (K : Value → Hp → Prop) (r1 : RdE h s1 L1) (r2 : RdE h s2 L2) (hl : L1.length ≤ 2 ^ 40) (hk : K (.bool (decide (L1 = L2))) h) :
    X Try.prog 32 #[s1, s2] h K := by
  obtain ⟨b1, c1, rfl, f1⟩ := rdE r1
  obtain ⟨b2, c2, rfl, f2⟩ := rdE r2
  refine fnv (args := _) mixed [] [] [] Try.func32 rfl (by kernel_rfl) ?_
  conv => whnf
  refine bsel_intro (fun q0 => ?_) (fun q0 => ?_) <;> try simp only [decide_eq_true_eq, decide_eq_false_iff_not, beq_iff_eq, beq_eq_false_iff_ne, ne_eq, Bool.not_eq_true', Bool.not_eq_false', bne_iff_ne, bne_eq_false_iff_eq, Bool.not_eq_true, Bool.not_eq_false, Bool.and_eq_true, Bool.or_eq_true] at q0
  · conv => whnf
    exact kq hk (bI (by symm; rw [decide_eq_false_iff_not]; intro e; subst e; exact q0 rfl))
  have hlen : L1.length = L2.length := by omega
  conv => whnf
  refine loop_at [13] [] (fun r vs _ h' => h = h' ∧ ∃ j : Nat, j ≤ L1.length ∧ r = L1.length - j ∧ vs = [.v (.int .i64 j)] ∧ L1.take j = L2.take j) L1.length ⟨rfl, 0, by omega, by omega, rfl, rfl⟩ ?_
  rintro r vs cs mm bx _ ⟨rfl, j, hj, rfl, rfl, ht⟩
  conv => whnf
  refine bsel_intro (fun q1 => ?_) (fun q1 => ?_) <;> try simp only [decide_eq_true_eq, decide_eq_false_iff_not, beq_iff_eq, beq_eq_false_iff_ne, ne_eq, Bool.not_eq_true', Bool.not_eq_false', bne_iff_ne, bne_eq_false_iff_eq, Bool.not_eq_true, Bool.not_eq_false, Bool.and_eq_true, Bool.or_eq_true] at q1
  · have hj1 : j < L1.length := by omega
    have hj2 : j < L2.length := by omega
    have g1 := f1 j _ (List.getElem?_eq_getElem hj1)
    have g2 := f2 j _ (List.getElem?_eq_getElem hj2)
    obtain ⟨a1, rfl, l1⟩ := g1
    obtain ⟨a2, rfl, l2⟩ := g2
    conv => whnf
    first | refine need_intro (by omega) ?_ | refine must.mk (by omega) ?_
    conv => whnf
    refine ⟨_, l1, ?_⟩
    conv => whnf
    first | refine need_intro (by omega) ?_ | refine must.mk (by omega) ?_
    conv => whnf
    refine ⟨_, l2, ?_⟩
    conv => whnf
    first | refine need_intro (by kernel_rfl) ?_ | refine must.mk (by kernel_rfl) ?_
    conv => whnf
    by_cases he : L1[j] = L2[j]
    · refine bsel_false ?_ ?_
      · exact (congrArg not (enBeq L1[j] L2[j])).trans (by simp [he])
      conv => whnf
      first | refine ov_i64 (by omega) ?_ | refine ov_u64 (by omega) ?_ | refine ov_i64 (by decide) ?_ | refine ov_u64 (by decide) ?_ | refine ov_u8 (by omega) ?_ | refine ov_i32 (by omega) ?_ | refine ov_u32 (by omega) ?_
      conv => whnf
      exact ⟨L1.length - (j + 1), by omega, rfl, j + 1, by omega, rfl, rfl, take_eq_succ hj1 hj2 ht he⟩
    · refine bsel_true ?_ ?_
      · exact (congrArg not (enBeq L1[j] L2[j])).trans (by simp [he])
      conv => whnf
      exact kq hk (bI (by symm; rw [decide_eq_false_iff_not]; intro e; subst e; exact he rfl))
  · obtain rfl : j = L1.length := by omega
    conv => whnf
    rw [List.take_length, hlen, List.take_length] at ht
    exact kq hk (bI (by symm; rw [decide_eq_true_iff]; exact ht))
theorem rsameL_x {s1 s2 : Value} {L1 L2 : List En} (h : Hp) (K : Value → Hp → Prop) (r1 : RdE h s1 L1) (r2 : RdE h s2 L2) (hl : L1.length ≤ 2 ^ 40) (hk : K (.bool (decide (L1 = L2))) h) :
    X Try.prog 14 #[s1, s2] h K := by
  obtain ⟨b1, c1, rfl, f1⟩ := rdE r1
  obtain ⟨b2, c2, rfl, f2⟩ := rdE r2
  refine fnv (args := _) mixed [] [] [] Try.func14 rfl (by kernel_rfl) ?_
  conv => whnf
  refine bsel_intro (fun q0 => ?_) (fun q0 => ?_) <;> try simp only [decide_eq_true_eq, decide_eq_false_iff_not, beq_iff_eq, beq_eq_false_iff_ne, ne_eq, Bool.not_eq_true', Bool.not_eq_false', bne_iff_ne, bne_eq_false_iff_eq, Bool.not_eq_true, Bool.not_eq_false, Bool.and_eq_true, Bool.or_eq_true] at q0
  · conv => whnf
    exact kq hk (bI (by symm; rw [decide_eq_false_iff_not]; intro e; subst e; exact q0 rfl))
  have hlen : L1.length = L2.length := by omega
  conv => whnf
  refine loop_at [5] [] (fun r vs _ h' => h = h' ∧ ∃ j : Nat, j ≤ L1.length ∧ r = L1.length - j ∧ vs = [.v (.int .i64 j)] ∧ L1.take j = L2.take j) L1.length ⟨rfl, 0, by omega, by omega, rfl, rfl⟩ ?_
  rintro r vs cs mm bx _ ⟨rfl, j, hj, rfl, rfl, ht⟩
  conv => whnf
  refine bsel_intro (fun q1 => ?_) (fun q1 => ?_) <;> try simp only [decide_eq_true_eq, decide_eq_false_iff_not, beq_iff_eq, beq_eq_false_iff_ne, ne_eq, Bool.not_eq_true', Bool.not_eq_false', bne_iff_ne, bne_eq_false_iff_eq, Bool.not_eq_true, Bool.not_eq_false, Bool.and_eq_true, Bool.or_eq_true] at q1
  · have hj1 : j < L1.length := by omega
    have hj2 : j < L2.length := by omega
    have g1 := f1 j _ (List.getElem?_eq_getElem hj1)
    have g2 := f2 j _ (List.getElem?_eq_getElem hj2)
    obtain ⟨a1, rfl, l1⟩ := g1
    obtain ⟨a2, rfl, l2⟩ := g2
    conv => whnf
    first | refine need_intro (by omega) ?_ | refine must.mk (by omega) ?_
    conv => whnf
    refine ⟨_, l1, ?_⟩
    conv => whnf
    first | refine need_intro (by omega) ?_ | refine must.mk (by omega) ?_
    conv => whnf
    refine ⟨_, l2, ?_⟩
    conv => whnf
    first | refine need_intro (by kernel_rfl) ?_ | refine must.mk (by kernel_rfl) ?_
    conv => whnf
    by_cases he : L1[j] = L2[j]
    · refine bsel_false ?_ ?_
      · exact (congrArg not (enBeq L1[j] L2[j])).trans (by simp [he])
      conv => whnf
      first | refine ov_i64 (by omega) ?_ | refine ov_u64 (by omega) ?_ | refine ov_i64 (by decide) ?_ | refine ov_u64 (by decide) ?_ | refine ov_u8 (by omega) ?_ | refine ov_i32 (by omega) ?_ | refine ov_u32 (by omega) ?_
      conv => whnf
      exact ⟨L1.length - (j + 1), by omega, rfl, j + 1, by omega, rfl, rfl, take_eq_succ hj1 hj2 ht he⟩
    · refine bsel_true ?_ ?_
      · exact (congrArg not (enBeq L1[j] L2[j])).trans (by simp [he])
      conv => whnf
      exact kq hk (bI (by symm; rw [decide_eq_false_iff_not]; intro e; subst e; exact he rfl))
  · obtain rfl : j = L1.length := by omega
    conv => whnf
    rw [List.take_length, hlen, List.take_length] at ht
    exact kq hk (bI (by symm; rw [decide_eq_true_iff]; exact ht))
/-- Two caches are held against each other; what was made for that is forgotten. -/
theorem sameT_x {c1 c2 : Nat} {z1 z2 : Int} {L1 L2 : List En} (g1 : Good z1 L1) (g2 : Good z2 L2) (h : Hp) (K : Value → Hp → Prop) (t1 : TlbH h c1 z1 L1) (t2 : TlbH h c2 z2 L2) (hk : K (.bool (decide (z1 = z2 ∧ L1 = L2))) h) :
    X Try.prog 17 #[.pointer (some ⟨c1, 0, none⟩), .pointer (some ⟨c2, 0, none⟩)] h K := by
  refine X.forget ?_
  have hsz := g1.sz
  have hlen := g1.len
  have u1 := t1
  have u2 := t2
  obtain ⟨m1, b1, om1, age1, ob1, h01, h11, _⟩ := u1
  obtain ⟨m2, b2, om2, age2, ob2, h02, h12, _⟩ := u2
  refine fnv (args := _) mixed [] [] [] Try.func17 rfl (by kernel_rfl) ?_
  conv => whnf
  refine ⟨_, loadC0 aggI h11 rfl, ?_⟩
  conv => whnf
  refine ⟨_, loadC0 aggI h12 rfl, ?_⟩
  conv => whnf
  refine bsel_intro (fun q0 => ?_) (fun q0 => ?_) <;> try simp only [decide_eq_true_eq, decide_eq_false_iff_not, beq_iff_eq, beq_eq_false_iff_ne, ne_eq, Bool.not_eq_true', Bool.not_eq_false', bne_iff_ne, bne_eq_false_iff_eq, Bool.not_eq_true, Bool.not_eq_false, Bool.and_eq_true, Bool.or_eq_true] at q0
  · conv => whnf
    refine all_x g1 h _ t1 (fun s1 h1 hle1 r1 => ?_)
    refine ⟨trivial, ?_⟩
    conv => whnf
    refine all_x g2 h1 _ (t2.le hle1) (fun s2 h2 hle2 r2 => ?_)
    refine ⟨trivial, ?_⟩
    conv => whnf
    refine equalE_x h2 _ (r1.le hle2) r2 (by omega) ?_
    refine ⟨trivial, ?_⟩
    conv => whnf
    exact ⟨h, Hp.le_trans hle1 hle2, kq hk (bI (by simp [q0]))⟩
  · conv => whnf
    exact ⟨h, Hp.le_refl h, kq hk (bI (by simp [q0]))⟩
end
end Go.Proofs.Yteapmakpbmmleaa
