/-
  The chapter's example; a deed that is done to both.
-/
import Derived.Test.YteapmakpbmmleaaTlba
import Derived.Test.YteapmakpbmmleaaMidR
namespace Go.Proofs.Yteapmakpbmmleaa
set_option linter.unusedSimpArgs false
set_option linter.unusedVariables false
open Go Go.Mid Go.RowKit
attribute [local irreducible] mid structOk
section
set_option maxHeartbeats 8000000
set_option maxRecDepth 10000
theorem addBad_x {c : Nat} {e : En} (hv : ¬ (0 ≤ e.level ∧ e.level ≤ 2 ∧ 0 ≤ e.asid ∧ e.asid ≤ 65535)) (h : Hp) (K : Value → Hp → Prop) (hk : K (.bool false) h) :
    X Try.prog 8 #[.pointer (some ⟨c, 0, none⟩), e.v] h K := by
  refine fnv (args := _) mixed [(3, 3), (9, 3), (14, 3), (19, 3), (24, 3), (28, 3), (30, 3), (33, 3)] [] [] Try.func8 rfl (by kernel_rfl) ?_
  conv => whnf
  refine bsel_intro (fun v1 => ?_) (fun v1 => ?_) <;> try simp only [decide_eq_true_eq, decide_eq_false_iff_not, beq_iff_eq, beq_eq_false_iff_ne, ne_eq, Bool.not_eq_true', Bool.not_eq_false', bne_iff_ne, bne_eq_false_iff_eq, Bool.not_eq_true, Bool.not_eq_false, Bool.and_eq_true, Bool.or_eq_true] at v1
  · conv => whnf
    exact hk
  conv => whnf
  refine bsel_intro (fun v2 => ?_) (fun v2 => ?_) <;> try simp only [decide_eq_true_eq, decide_eq_false_iff_not, beq_iff_eq, beq_eq_false_iff_ne, ne_eq, Bool.not_eq_true', Bool.not_eq_false', bne_iff_ne, bne_eq_false_iff_eq, Bool.not_eq_true, Bool.not_eq_false, Bool.and_eq_true, Bool.or_eq_true] at v2
  · conv => whnf
    exact hk
  conv => whnf
  refine bsel_intro (fun v3 => ?_) (fun v3 => ?_) <;> try simp only [decide_eq_true_eq, decide_eq_false_iff_not, beq_iff_eq, beq_eq_false_iff_ne, ne_eq, Bool.not_eq_true', Bool.not_eq_false', bne_iff_ne, bne_eq_false_iff_eq, Bool.not_eq_true, Bool.not_eq_false, Bool.and_eq_true, Bool.or_eq_true] at v3
  · conv => whnf
    exact hk
  conv => whnf
  refine bsel_intro (fun v4 => ?_) (fun v4 => ?_) <;> try simp only [decide_eq_true_eq, decide_eq_false_iff_not, beq_iff_eq, beq_eq_false_iff_ne, ne_eq, Bool.not_eq_true', Bool.not_eq_false', bne_iff_ne, bne_eq_false_iff_eq, Bool.not_eq_true, Bool.not_eq_false, Bool.and_eq_true, Bool.or_eq_true] at v4
  · conv => whnf
    exact hk
  exact absurd ⟨by omega, by omega, by omega, by omega⟩ hv
theorem live_p : X Try.prog 7 #[] Hp.emp fun v _ => v = .bool true := by
  have g0 : Good 1 [] := good_nil (by decide)
  have e1 : (En.mk 3 4096 0 7).ok := ⟨⟨by decide, by decide⟩, by decide, by decide⟩
  have g1 := good_add g0 e1 (by decide)
  have e2 : (En.mk 3 4096 0 39).ok := ⟨⟨by decide, by decide⟩, by decide, by decide⟩
  have g2 := good_add g1 e2 (by decide)
  refine fnv (args := _) mixed [(3, 3), (5, 5), (7, 7)] [] [] Try.func7 rfl (by kernel_rfl) ?_
  conv => whnf
  refine new_x 1 _ _ (fun hb => absurd hb (by decide)) (fun _ _ c h1 _ _ t1 _ => ?_)
  conv => whnf
  refine add_x g0 (e := En.mk 3 4096 0 7) e1 (by decide) _ _ t1 (fun h2 t2 => ?_)
  conv => whnf
  refine find_x 3 4100 (by decide) _ _ t2 ?_
  rw [show findI (addI 1 [] (En.mk 3 4096 0 7)) 3 4100 = some (En.mk 3 4096 0 7) by kernel_rfl]
  conv => whnf
  refine find_x 4 4100 (by decide) _ _ t2 ?_
  rw [show findI (addI 1 [] (En.mk 3 4096 0 7)) 4 4100 = none by kernel_rfl]
  conv => whnf
  refine add_x g1 (e := En.mk 3 4096 0 39) e2 (by decide) _ _ t2 (fun h3 t3 => ?_)
  conv => whnf
  refine find_x 4 4100 (by decide) _ _ t3 ?_
  rw [show findI (addI 1 (addI 1 [] (En.mk 3 4096 0 7)) (En.mk 3 4096 0 39)) 4 4100 = some (En.mk 3 4096 0 39) by kernel_rfl]
  conv => whnf
  rfl
theorem live_x (h : Hp) (K : Value → Hp → Prop) (hk : K (.bool true) h) : X Try.prog 7 #[] h K :=
  X.forget (X.frame (Hp.emp_le h) live_p fun v g' h' hv u => ⟨h, fun b o e => u.kept b o e rfl, by rw [hv]; exact hk⟩)
end
structure De where
  kind : Int
  e : En
  r : Rq
def De.cells (d : De) : List Value := .int .i64 d.kind :: (d.e.cells ++ d.r.cells)
def De.v (d : De) : Value := .agg d.cells.toArray
def De.ok (d : De) : Prop := d.e.ok ∧ d.r.ok
def validE (e : En) : Prop := 0 ≤ e.level ∧ e.level ≤ 2 ∧ 0 ≤ e.asid ∧ e.asid ≤ 65535
instance (e : En) : Decidable (validE e) := by unfold validE; infer_instance
def stepI (size : Int) (L : List En) (d : De) : List En := if d.kind = 0 then (if validE d.e then addI size L d.e else L) else if d.kind = 1 then L.filter (fun e => !forgI d.r e) else L
theorem good_step {size : Int} {L : List En} (g : Good size L) {d : De} (hd : d.ok) : Good size (stepI size L d) := by
  unfold stepI
  split
  · split
    · rename_i hv; exact good_add g hd.1 hv
    · exact g
  · split
    · exact good_filter g _
    · exact g
/-- Both caches, in two pieces of the heap. -/
structure Both (h : Hp) (c : Nat) (size : Int) (s : Value) (L : List En) (gt k : Hp) : Prop where
  good : Good size L
  hgt : gt.le h
  hk : k.le h
  ap : Apart k gt
  ht : TlbH gt c size L
  hr : RdE k s L
/-- Pieces that are apart from both stay. -/
def Stay (h gt k h' gt' k' : Hp) : Prop := ∀ p : Hp, p.le h → Apart p gt → Apart p k → p.le h' ∧ Apart p gt' ∧ Apart p k'
theorem Stay.refl (h gt k : Hp) : Stay h gt k h gt k := fun _ a b c => ⟨a, b, c⟩
section
set_option maxHeartbeats 8000000
set_option maxRecDepth 10000
theorem do_x {h : Hp} {c : Nat} {size : Int} {s : Value} {L : List En} {gt k : Hp} (b : Both h c size s L gt k) {d : De} (hd : d.ok) (K : Value → Hp → Prop)
    (hk : ∀ h' s' gt' k', Both h' c size s' (stepI size L d) gt' k' → k.le k' → Stay h gt k h' gt' k' → K (.tuple #[rT size s', .bool true]) h') :
    X Try.prog 13 #[.pointer (some ⟨c, 0, none⟩), rT size s, d.v] h K := by
  obtain ⟨hg, h1, h2, h3, h4, h5⟩ := b
  have hsz := hg.sz
  have hlen := hg.len
  have hll : L.length ≤ 2 ^ 20 := by omega
  obtain ⟨kd, e, r⟩ := d
  obtain ⟨he, hr⟩ := hd
  simp only at he hr
  unfold stepI at hk
  simp only at hk
  have hokL : ∀ x ∈ L, x.ok ∧ 0 ≤ x.asid := fun x hx => ⟨hg.ok x hx, (hg.lv x hx).2.2.1⟩
  obtain ⟨sb, scap, rfl, hsr⟩ := rdE h5
  refine fnv (args := _) mixed [(4, 4), (82, 4), (5, 5), (15, 5), (21, 5), (28, 5), (37, 5), (44, 5), (51, 5), (54, 5), (61, 5), (64, 5), (52, 5), (55, 5), (62, 5), (65, 5), (6, 6), (8, 8), (10, 10), (12, 12)] [] [] Try.func13 rfl (by kernel_rfl) ?_
  conv => whnf
  refine bsel_intro (fun q0 => ?_) (fun q0 => ?_) <;> try simp only [decide_eq_true_eq, decide_eq_false_iff_not, beq_iff_eq, beq_eq_false_iff_ne, ne_eq, Bool.not_eq_true', Bool.not_eq_false', bne_iff_ne, bne_eq_false_iff_eq, Bool.not_eq_true, Bool.not_eq_false, Bool.and_eq_true, Bool.or_eq_true] at q0
  · rw [if_pos q0] at hk
    conv => whnf
    refine X.frame h2 (radd_x size hokL he k (fun v k' => ∃ s', k.le k' ∧ RdE k' s' (if validE e then addI size L e else L) ∧ v = .tuple #[rT size s', .bool (decide (validE e))]) hll h5 (fun hb => ?_) (fun hv s' k' hle hrd => ?_)) (fun v k' h' hp u => ?_)
    · have : ¬ validE e := hb
      refine ⟨.slice sb L.length scap, Hp.le_refl k, ?_, ?_⟩
      · rw [if_neg this]; exact h5
      · rw [decide_eq_false this]
    · have : validE e := hv
      refine ⟨s', hle, ?_, ?_⟩
      · rw [if_pos this, ← raddI_eq hg]; exact hrd
      · rw [decide_eq_true this]
    obtain ⟨s', hle, hrd, rfl⟩ := hp
    have o1 := u.other h1 h3.symm
    by_cases hv : validE e
    · rw [if_pos hv] at hk hrd
      obtain ⟨sb', scap', rfl, _⟩ := rdE hrd
      rw [decide_eq_true hv]
      conv => whnf
      refine X.frame o1.1 (add_x hg he hv gt (fun v g' => TlbH g' c size (addI size L e) ∧ v = .bool true) h4 (fun g' tg => ⟨tg, rfl⟩)) (fun v g' h2' hp u2 => ?_)
      obtain ⟨tg, rfl⟩ := hp
      have o2 := u2.other u.le o1.2.symm
      refine ⟨trivial, ?_⟩
      conv => whnf
      refine hk h2' _ g' k' ⟨good_add hg he hv, u2.le, o2.1, o2.2, tg, hrd⟩ hle (fun p p1 p2 p3 => ?_)
      have q1 := u.other p1 p3
      have q2 := u2.other q1.1 p2
      exact ⟨q2.1, q2.2, q1.2⟩
    · rw [if_neg hv] at hk hrd
      obtain ⟨sb', scap', rfl, _⟩ := rdE hrd
      rw [decide_eq_false hv]
      conv => whnf
      refine addBad_x hv _ _ ?_
      refine ⟨trivial, ?_⟩
      conv => whnf
      refine hk h' _ gt k' ⟨hg, o1.1, u.le, o1.2.symm, h4, hrd⟩ hle (fun p p1 p2 p3 => ?_)
      have q1 := u.other p1 p3
      exact ⟨q1.1, p2, q1.2⟩
  rw [if_neg q0] at hk
  conv => whnf
  refine bsel_intro (fun q1 => ?_) (fun q1 => ?_) <;> try simp only [decide_eq_true_eq, decide_eq_false_iff_not, beq_iff_eq, beq_eq_false_iff_ne, ne_eq, Bool.not_eq_true', Bool.not_eq_false', bne_iff_ne, bne_eq_false_iff_eq, Bool.not_eq_true, Bool.not_eq_false, Bool.and_eq_true, Bool.or_eq_true] at q1
  · rw [if_pos q1] at hk
    conv => whnf
    refine X.frame h2 (rforget_x size hg.ok r hr k (fun v k' => ∃ s', k.le k' ∧ RdE k' s' (keepI r L) ∧ v = .tuple #[rT size s', .int .i64 ((L.length : Int) - (keepI r L).length)]) hll h5 (fun s' k' hle hrd => ⟨s', hle, hrd, rfl⟩)) (fun v k' h' hp u => ?_)
    obtain ⟨s', hle, hrd, rfl⟩ := hp
    obtain ⟨sb', scap', rfl, _⟩ := rdE hrd
    have o1 := u.other h1 h3.symm
    conv => whnf
    refine X.frame o1.1 (forget_x hg hr gt (fun v g' => TlbH g' c size (keepI r L) ∧ v = .int .i64 ((L.length : Int) - (keepI r L).length)) h4 (fun g' tg => ⟨tg, rfl⟩)) (fun v g' h2' hp u2 => ?_)
    obtain ⟨tg, rfl⟩ := hp
    have o2 := u2.other u.le o1.2.symm
    refine ⟨trivial, ?_⟩
    conv => whnf
    refine kq (hk h2' _ g' k' ⟨good_filter hg _, u2.le, o2.1, o2.2, tg, hrd⟩ hle (fun p p1 p2 p3 => ?_)) ?_
    · have q1 := u.other p1 p3
      have q2 := u2.other q1.1 p2
      exact ⟨q2.1, q2.2, q1.2⟩
    · have : (((L.length : Int) - (keepI r L).length) == ((L.length : Int) - (keepI r L).length)) = true := by simp
      show Value.tuple #[rT size _, .bool (((L.length : Int) - (keepI r L).length) == ((L.length : Int) - (keepI r L).length))] = _
      rw [this]
  rw [if_neg q1] at hk
  have hK := hk h _ gt k ⟨hg, h1, h2, h3, h4, h5⟩ (Hp.le_refl k) (Stay.refl _ _ _)
  have hfe := find_eq hg e.asid e.page
  conv => whnf
  refine find_x e.asid e.page he.1 h _ (h4.le h1) ?_
  cases hb : bestI L e.asid e.page L.length with
  | none =>
    rw [hb] at hfe
    rw [hfe]
    conv => whnf
    refine rfind_x size e.asid e.page hg.ok he.1 h _ hll (h5.le h2) ?_
    rw [hb]
    conv => whnf
    first | refine need_intro (by kernel_rfl) ?_ | refine must.mk (by kernel_rfl) ?_
    conv => whnf
    exact hK
  | some i =>
    rw [hb] at hfe
    obtain ⟨y, hy, hf⟩ := hfe
    rw [hf]
    conv => whnf
    refine rfind_x size e.asid e.page hg.ok he.1 h _ hll (h5.le h2) ?_
    rw [hb]
    have hi := (List.getElem?_eq_some_iff.1 hy).1
    obtain ⟨a, ha, hla⟩ := hsr i y hy
    cases ha
    have ho : optI (some i) = (i : Int) := rfl
    conv => whnf
    first | refine need_intro (by omega) ?_ | refine must.mk (by omega) ?_
    conv => whnf
    refine ⟨_, loadH_le h2 hla, ?_⟩
    conv => whnf
    first | refine need_intro (by kernel_rfl) ?_ | refine must.mk (by kernel_rfl) ?_
    conv => whnf
    refine kq hK ?_
    show Value.tuple #[rT size _, .bool (y.asid == y.asid && (y.page == y.page && (y.level == y.level && (y.pte == y.pte && true))))] = _
    rw [enBeq, decide_eq_true rfl]
end
end Go.Proofs.Yteapmakpbmmleaa
