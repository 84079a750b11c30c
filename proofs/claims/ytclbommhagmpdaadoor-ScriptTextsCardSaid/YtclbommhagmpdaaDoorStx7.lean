/-
  Scripts: are two the same? And a script, as the document's.
-/
import Derived.Test.YtclbommhagmpdaaDoorStx6
namespace Go.Proofs.YtclbommhagmpdaaDoor
set_option linter.unusedSimpArgs false
set_option linter.unusedVariables false
open Go Go.Mid Go.RowKit
attribute [local irreducible] mid
section
set_option maxHeartbeats 8000000
set_option maxRecDepth 10000
variable {h : Hp} {K : Value → Hp → Prop}
def keyP (p : Pt) : Nat × Str := (p.at_, p.b)
theorem sameP_x (p q : Pt) (hp : p.ok h) (hq : q.ok h) (hk : K (.bool (decide (keyP p = keyP q))) h) : X Tryd.prog 67 #[p.v, q.v] h K := by
  obtain ⟨b1, c1, e1, f1⟩ := hp.shape
  obtain ⟨b2, c2, e2, f2⟩ := hq.shape
  obtain ⟨at1, s1, x⟩ := p
  obtain ⟨at2, s2, y⟩ := q
  simp only at e1 f1 e2 f2
  subst e1
  subst e2
  simp only [keyP, Prod.mk.injEq] at hk
  refine fnv (args := _) mixed [(2, 2), (5, 2), (11, 2), (3, 3), (7, 3), (13, 3)] [] [] Tryd.func67 rfl (by kernel_rfl) ?_
  conv => whnf
  refine bsel_intro (fun q1 => ?_) (fun q1 => ?_) <;> try simp only [decide_eq_true_eq, decide_eq_false_iff_not, beq_iff_eq, beq_eq_false_iff_ne, ne_eq, Bool.not_eq_true', Bool.not_eq_false', bne_iff_ne, bne_eq_false_iff_eq, Bool.not_eq_true, Bool.not_eq_false, Bool.and_eq_true, Bool.or_eq_true, bs_size] at q1
  · conv => whnf
    refine bEq_x b1 b2 c1 c2 x y f1 f2 ?_
    conv => whnf
    exact kq hk (bI (by rw [Bool.eq_iff_iff]; simp; omega))
  · conv => whnf
    exact kq hk (bI (by rw [Bool.eq_iff_iff]; simp; omega))
theorem eqFunc_x (P Q : List Pt) (b1 b2 : Option Addr) (c1 c2 : Nat) (hP : ∀ p ∈ P, p.ok h) (hQ : ∀ p ∈ Q, p.ok h) (lP : P.length ≤ 9223372036854775807)
    (f1 : ∀ i x, P[i]? = some x → ∃ a, b1 = some a ∧ loadH Tryd.prog 127 h (a.add (i * 2)) = some x.v) (f2 : ∀ i x, Q[i]? = some x → ∃ a, b2 = some a ∧ loadH Tryd.prog 127 h (a.add (i * 2)) = some x.v)
    (hk : K (.bool (decide (P.map keyP = Q.map keyP))) h) : X Tryd.prog 69 #[.slice b1 P.length c1, .slice b2 Q.length c2, .func (.func 67) #[] #[]] h K := by
  refine fnv (args := _) mixed [(8, 8), (9, 9)] [] [] Tryd.func69 rfl (by kernel_rfl) ?_
  conv => whnf
  refine bsel_intro (fun q1 => ?_) (fun q1 => ?_) <;> try simp only [decide_eq_true_eq, decide_eq_false_iff_not, beq_iff_eq, beq_eq_false_iff_ne, ne_eq, Bool.not_eq_true', Bool.not_eq_false', bne_iff_ne, bne_eq_false_iff_eq, Bool.not_eq_true, Bool.not_eq_false, Bool.and_eq_true, Bool.or_eq_true, bs_size] at q1
  · rw [decide_eq_false (fun hh => by have := congrArg List.length hh; simp at this; omega)] at hk
    conv => whnf
    exact hk
  conv => whnf
  refine loop_at [17] [] (fun r vs cs h' => h = h' ∧ ∃ i : Nat, i ≤ P.length ∧ r = P.length - i ∧ vs = [.v (.int .i64 i)] ∧ ∀ j, j < i → (P.map keyP)[j]? = (Q.map keyP)[j]?) P.length ⟨rfl, 0, by omega, by omega, rfl, fun j hj => by omega⟩ ?_
  rintro r vs cs mm bx _ ⟨rfl, i, hi, rfl, rfl, hg⟩
  conv => whnf
  refine bsel_intro (fun q5 => ?_) (fun q5 => ?_) <;> try simp only [decide_eq_true_eq, decide_eq_false_iff_not, beq_iff_eq, beq_eq_false_iff_ne, ne_eq, Bool.not_eq_true', Bool.not_eq_false', bne_iff_ne, bne_eq_false_iff_eq, Bool.not_eq_true, Bool.not_eq_false, Bool.and_eq_true, Bool.or_eq_true, bs_size] at q5
  · have hix : i < P.length := by omega
    obtain ⟨p, hp⟩ : ∃ p, P[i]? = some p := ⟨_, List.getElem?_eq_getElem hix⟩
    obtain ⟨q, hq⟩ : ∃ q, Q[i]? = some q := ⟨_, List.getElem?_eq_getElem (by omega)⟩
    have hpo := hP p (List.mem_of_getElem? hp)
    have hqo := hQ q (List.mem_of_getElem? hq)
    obtain ⟨a1, rfl, e1⟩ := f1 i p hp
    obtain ⟨a2, rfl, e2⟩ := f2 i q hq
    have hkp : (P.map keyP)[i]? = some (keyP p) := by rw [List.getElem?_map, hp]; rfl
    have hkq : (Q.map keyP)[i]? = some (keyP q) := by rw [List.getElem?_map, hq]; rfl
    obtain ⟨d1, k1, x1, _⟩ := hpo.shape
    obtain ⟨d2, k2, x2, _⟩ := hqo.shape
    obtain ⟨at1, s1, u1⟩ := p
    obtain ⟨at2, s2, u2⟩ := q
    simp only at x1 x2
    subst x1
    subst x2
    conv => whnf
    first | refine need_intro (⟨by omega, by omega⟩) ?_ | refine must.mk (⟨by omega, by omega⟩) ?_
    conv => whnf
    have e1' : loadH Tryd.prog 127 h (a1.add (((i : Int)).toNat * 2)) = some (Pt.v ⟨at1, .slice d1 u1.length k1, u1⟩) := by rw [show ((i : Int)).toNat = i by omega]; exact e1
    have e2' : loadH Tryd.prog 127 h (a2.add (((i : Int)).toNat * 2)) = some (Pt.v ⟨at2, .slice d2 u2.length k2, u2⟩) := by rw [show ((i : Int)).toNat = i by omega]; exact e2
    refine ⟨_, e1', ?_⟩
    conv => whnf
    first | refine need_intro (⟨by omega, by omega⟩) ?_ | refine must.mk (⟨by omega, by omega⟩) ?_
    conv => whnf
    refine ⟨_, e2', ?_⟩
    conv => whnf
    refine sameP_x ⟨at1, .slice d1 u1.length k1, u1⟩ ⟨at2, .slice d2 u2.length k2, u2⟩ hpo hqo ?_
    conv => whnf
    refine bsel_intro (fun q6 => ?_) (fun q6 => ?_) <;> try simp only [decide_eq_true_eq, decide_eq_false_iff_not, beq_iff_eq, beq_eq_false_iff_ne, ne_eq, Bool.not_eq_true', Bool.not_eq_false', bne_iff_ne, bne_eq_false_iff_eq, Bool.not_eq_true, Bool.not_eq_false, Bool.and_eq_true, Bool.or_eq_true, bs_size] at q6
    · rw [decide_eq_false (fun hh => by rw [hh, hkq] at hkp; exact absurd (Option.some.inj hkp).symm (by simpa using q6))] at hk
      conv => whnf
      exact hk
    · have hpq : keyP ⟨at1, .slice d1 u1.length k1, u1⟩ = keyP ⟨at2, .slice d2 u2.length k2, u2⟩ := by simpa using q6
      conv => whnf
      first | refine ov_i64 (by omega) ?_ | refine ov_u64 (by omega) ?_ | refine ov_i64 (by decide) ?_ | refine ov_u64 (by decide) ?_ | refine ov_u8 (by omega) ?_ | refine ov_i32 (by omega) ?_ | refine ov_u32 (by omega) ?_
      conv => whnf
      refine ⟨P.length - (i + 1), by omega, rfl, i + 1, by omega, rfl, rfl, fun j hj => ?_⟩
      by_cases e : j = i
      · subst e; rw [hkp, hkq, hpq]
      · exact hg j (by omega)
  · rw [decide_eq_true (List.ext_getElem? fun j => by
      by_cases hj : j < i
      · exact hg j hj
      · rw [List.getElem?_eq_none (by simp; omega), List.getElem?_eq_none (by simp; omega)])] at hk
    conv => whnf
    exact hk
theorem eqLines_x (P Q : List Ln) (b1 b2 : Option Addr) (c1 c2 : Nat) (lP : P.length ≤ 9223372036854775807)
    (f1 : ∀ i x, P[i]? = some x → ∃ a, b1 = some a ∧ loadH Tryd.prog 47 h (a.add (i * 3)) = some x.v) (f2 : ∀ i x, Q[i]? = some x → ∃ a, b2 = some a ∧ loadH Tryd.prog 47 h (a.add (i * 3)) = some x.v)
    (hk : K (.bool (decide (P = Q))) h) : X Tryd.prog 70 #[.slice b1 P.length c1, .slice b2 Q.length c2] h K := by
  refine fnv (args := _) mixed [] [] [] Tryd.func70 rfl (by kernel_rfl) ?_
  conv => whnf
  refine bsel_intro (fun q1 => ?_) (fun q1 => ?_) <;> try simp only [decide_eq_true_eq, decide_eq_false_iff_not, beq_iff_eq, beq_eq_false_iff_ne, ne_eq, Bool.not_eq_true', Bool.not_eq_false', bne_iff_ne, bne_eq_false_iff_eq, Bool.not_eq_true, Bool.not_eq_false, Bool.and_eq_true, Bool.or_eq_true, bs_size] at q1
  · rw [decide_eq_false (fun hh => by have := congrArg List.length hh; omega)] at hk
    conv => whnf
    exact hk
  conv => whnf
  refine loop_at [13] [] (fun r vs cs h' => h = h' ∧ ∃ i : Nat, i ≤ P.length ∧ r = P.length - i ∧ vs = [.v (.int .i64 i)] ∧ ∀ j, j < i → P[j]? = Q[j]?) P.length ⟨rfl, 0, by omega, by omega, rfl, fun j hj => by omega⟩ ?_
  rintro r vs cs mm bx _ ⟨rfl, i, hi, rfl, rfl, hg⟩
  conv => whnf
  refine bsel_intro (fun q5 => ?_) (fun q5 => ?_) <;> try simp only [decide_eq_true_eq, decide_eq_false_iff_not, beq_iff_eq, beq_eq_false_iff_ne, ne_eq, Bool.not_eq_true', Bool.not_eq_false', bne_iff_ne, bne_eq_false_iff_eq, Bool.not_eq_true, Bool.not_eq_false, Bool.and_eq_true, Bool.or_eq_true, bs_size] at q5
  · have hix : i < P.length := by omega
    obtain ⟨p, hp⟩ : ∃ p, P[i]? = some p := ⟨_, List.getElem?_eq_getElem hix⟩
    obtain ⟨q, hq⟩ : ∃ q, Q[i]? = some q := ⟨_, List.getElem?_eq_getElem (by omega)⟩
    obtain ⟨a1, rfl, e1⟩ := f1 i p hp
    obtain ⟨a2, rfl, e2⟩ := f2 i q hq
    have e1' : loadH Tryd.prog 47 h (a1.add (((i : Int)).toNat * 3)) = some p.v := by rw [show ((i : Int)).toNat = i by omega]; exact e1
    have e2' : loadH Tryd.prog 47 h (a2.add (((i : Int)).toNat * 3)) = some q.v := by rw [show ((i : Int)).toNat = i by omega]; exact e2
    conv => whnf
    first | refine need_intro (⟨by omega, by omega⟩) ?_ | refine must.mk (⟨by omega, by omega⟩) ?_
    conv => whnf
    refine ⟨_, e1', ?_⟩
    conv => whnf
    first | refine need_intro (⟨by omega, by omega⟩) ?_ | refine must.mk (⟨by omega, by omega⟩) ?_
    conv => whnf
    refine ⟨_, e2', ?_⟩
    conv => whnf
    refine must_via (b := decide (p = q)) ?_ ?_ ?_
    · kernel_rfl
    · exact eqLn p q
    conv => whnf
    refine bsel_intro (fun q6 => ?_) (fun q6 => ?_) <;> try simp only [decide_eq_true_eq, decide_eq_false_iff_not, beq_iff_eq, beq_eq_false_iff_ne, ne_eq, Bool.not_eq_true', Bool.not_eq_false', bne_iff_ne, bne_eq_false_iff_eq, Bool.not_eq_true, Bool.not_eq_false, Bool.and_eq_true, Bool.or_eq_true, bs_size] at q6
    · rw [decide_eq_false (fun hh => by rw [hh, hq] at hp; cases hp; simp at q6)] at hk
      conv => whnf
      exact hk
    · have hpq : p = q := by simpa using q6
      conv => whnf
      first | refine ov_i64 (by omega) ?_ | refine ov_u64 (by omega) ?_ | refine ov_i64 (by decide) ?_ | refine ov_u64 (by decide) ?_ | refine ov_u8 (by omega) ?_ | refine ov_i32 (by omega) ?_ | refine ov_u32 (by omega) ?_
      conv => whnf
      refine ⟨P.length - (i + 1), by omega, rfl, i + 1, by omega, rfl, rfl, fun j hj => ?_⟩
      by_cases e : j = i
      · subst e; rw [hp, hq, hpq]
      · exact hg j (by omega)
  · rw [decide_eq_true (List.ext_getElem? fun j => by
      by_cases hj : j < i
      · exact hg j hj
      · rw [List.getElem?_eq_none (by omega), List.getElem?_eq_none (by omega)])] at hk
    conv => whnf
    exact hk
theorem eqCf0 (c d : Cf) : eqW Tryd.prog 10000 52 c.v d.v = some ((c.a == d.a) && ((c.b == d.b) && ((c.c == d.c) && ((c.d == d.d) && true)))) := by kernel_rfl
theorem eqCf (c d : Cf) : eqW Tryd.prog 10000 52 c.v d.v = some (decide (c = d)) := by
  rw [eqCf0]
  congr 1
  obtain ⟨a1, a2, a3, a4⟩ := c
  obtain ⟨b1, b2, b3, b4⟩ := d
  rw [Bool.eq_iff_iff]
  simp
abbrev Bu.v (b : Bu) : Value := .agg #[.int .i64 b.b0, .int .i64 b.b1, .int .i64 b.b2, .int .i64 b.b3, .int .i64 b.b4, .int .i64 b.b5, .int .i64 b.b6, .int .i64 b.b7]
theorem eqBu0 (c d : Bu) : eqW Tryd.prog 10000 53 c.v d.v = some ((c.b0 == d.b0) && ((c.b1 == d.b1) && ((c.b2 == d.b2) && ((c.b3 == d.b3) && ((c.b4 == d.b4) && ((c.b5 == d.b5) && ((c.b6 == d.b6) && ((c.b7 == d.b7) && true)))))))) := by kernel_rfl
theorem eqBu (c d : Bu) : eqW Tryd.prog 10000 53 c.v d.v = some (decide (c = d)) := by
  rw [eqBu0]
  congr 1
  obtain ⟨a1, a2, a3, a4, a5, a6, a7, a8⟩ := c
  obtain ⟨b1, b2, b3, b4, b5, b6, b7, b8⟩ := d
  rw [Bool.eq_iff_iff]
  simp
def sameB (a b : Sc) : Bool := decide (a.c = b.c ∧ a.u = b.u ∧ a.P.map keyP = b.P.map keyP ∧ a.L = b.L)
theorem same_x (a b : Sc) (ha : a.ok 127 h) (hb : b.ok 127 h) (hk : K (.bool (sameB a b)) h) : X Tryd.prog 22 #[a.v, b.v] h K := by
  obtain ⟨bP, cP, eP, fP⟩ := ha.shapeP
  obtain ⟨bL, cL, eL, fL⟩ := rdL ha.ls
  obtain ⟨dP, kP, eP2, fP2⟩ := hb.shapeP
  obtain ⟨dL, kL, eL2, fL2⟩ := rdL hb.ls
  obtain ⟨c, u, ps, P, ls, L⟩ := a
  obtain ⟨c2, u2, ps2, P2, ls2, L2⟩ := b
  simp only at eP eL fP fL eP2 eL2 fP2 fL2
  subst eP
  subst eL
  subst eP2
  subst eL2
  unfold sameB at hk
  simp only at hk
  refine fnv (args := _) mixed [(2, 2), (6, 2), (12, 2), (19, 2), (27, 2), (3, 3), (8, 3), (14, 3), (21, 3), (29, 3)] [] [] Tryd.func22 rfl (by kernel_rfl) ?_
  conv => whnf
  refine must_via (b := decide (c = c2)) ?_ ?_ ?_
  · kernel_rfl
  · exact eqCf c c2
  conv => whnf
  refine bsel_intro (fun q1 => ?_) (fun q1 => ?_)
  · have q1 := of_decide_eq_true q1
    conv => whnf
    refine must_via (b := decide (u = u2)) ?_ ?_ ?_
    · kernel_rfl
    · exact eqBu u u2
    conv => whnf
    refine bsel_intro (fun q2 => ?_) (fun q2 => ?_)
    · have q2 := of_decide_eq_true q2
      conv => whnf
      refine eqFunc_x P P2 bP dP cP kP ha.P hb.P ha.lP fP fP2 ?_
      conv => whnf
      refine bsel_intro (fun q3 => ?_) (fun q3 => ?_)
      · have q3 := of_decide_eq_true q3
        conv => whnf
        refine eqLines_x L L2 bL dL cL kL ha.lL fL fL2 ?_
        conv => whnf
        exact kq hk (bI (by rw [Bool.eq_iff_iff]; simp [q1, q2, q3]))
      · have q3 := of_decide_eq_false q3
        conv => whnf
        exact kq hk (bI (by rw [Bool.eq_iff_iff]; simp [q3]))
    · have q2 := of_decide_eq_false q2
      conv => whnf
      exact kq hk (bI (by rw [Bool.eq_iff_iff]; simp [q2]))
  · have q1 := of_decide_eq_false q1
    conv => whnf
    exact kq hk (bI (by rw [Bool.eq_iff_iff]; simp [q1]))
theorem rsame_x (a b : Sc) (ha : a.ok 127 h) (hb : b.ok 133 h) (hk : K (.bool (sameB a b)) h) : X Tryd.prog 23 #[a.v, b.v] h K := by
  obtain ⟨bP, cP, eP, fP⟩ := ha.shapeP
  obtain ⟨bL, cL, eL, fL⟩ := rdL ha.ls
  obtain ⟨dP, kP, eP2, fP2⟩ := hb.shapeP
  obtain ⟨dL, kL, eL2, fL2⟩ := rdL hb.ls
  obtain ⟨c, u, ps, P, ls, L⟩ := a
  obtain ⟨c2, u2, ps2, P2, ls2, L2⟩ := b
  simp only at eP eL fP fL eP2 eL2 fP2 fL2
  subst eP
  subst eL
  subst eP2
  subst eL2
  have hP : ∀ p ∈ P, p.ok h := ha.P
  have hP2 : ∀ p ∈ P2, p.ok h := hb.P
  have lP := ha.lP
  have lL := ha.lL
  simp only at lP lL
  unfold sameB at hk
  simp only at hk
  refine fnv (args := _) mixed [(2, 2), (7, 2), (13, 2), (20, 2), (29, 2), (44, 2), (58, 2), (80, 2), (3, 3), (9, 3), (15, 3), (23, 3), (32, 3), (38, 3), (50, 3), (64, 3), (74, 3), (85, 3)] [] [] Tryd.func23 rfl (by kernel_rfl) ?_
  conv => whnf
  refine must_via (b := decide (c = c2)) ?_ ?_ ?_
  · kernel_rfl
  · exact eqCf c c2
  conv => whnf
  refine bsel_intro (fun q1 => ?_) (fun q1 => ?_)
  · have q1 : c ≠ c2 := by simpa using q1
    rw [decide_eq_false (fun hh => q1 hh.1)] at hk
    conv => whnf
    exact hk
  have q1 : c = c2 := by simpa using q1
  conv => whnf
  refine must_via (b := decide (u = u2)) ?_ ?_ ?_
  · kernel_rfl
  · exact eqBu u u2
  conv => whnf
  refine bsel_intro (fun q2 => ?_) (fun q2 => ?_)
  · have q2 : u ≠ u2 := by simpa using q2
    rw [decide_eq_false (fun hh => q2 hh.2.1)] at hk
    conv => whnf
    exact hk
  have q2 : u = u2 := by simpa using q2
  conv => whnf
  refine bsel_intro (fun q3 => ?_) (fun q3 => ?_) <;> try simp only [decide_eq_true_eq, decide_eq_false_iff_not, beq_iff_eq, beq_eq_false_iff_ne, ne_eq, Bool.not_eq_true', Bool.not_eq_false', bne_iff_ne, bne_eq_false_iff_eq, Bool.not_eq_true, Bool.not_eq_false, Bool.and_eq_true, Bool.or_eq_true, bs_size] at q3
  · rw [decide_eq_false (fun hh => by have e1 := congrArg List.length hh.2.2.1; have e2 := congrArg List.length hh.2.2.2; simp at e1; omega)] at hk
    conv => whnf
    exact hk
  conv => whnf
  refine bsel_intro (fun q4 => ?_) (fun q4 => ?_) <;> try simp only [decide_eq_true_eq, decide_eq_false_iff_not, beq_iff_eq, beq_eq_false_iff_ne, ne_eq, Bool.not_eq_true', Bool.not_eq_false', bne_iff_ne, bne_eq_false_iff_eq, Bool.not_eq_true, Bool.not_eq_false, Bool.and_eq_true, Bool.or_eq_true, bs_size] at q4
  · rw [decide_eq_false (fun hh => by have e1 := congrArg List.length hh.2.2.1; have e2 := congrArg List.length hh.2.2.2; simp at e1; omega)] at hk
    conv => whnf
    exact hk
  conv => whnf
  refine loop_at [5] [2, 3] (fun r vs cs h' => h = h' ∧ cs = [some (Sc.cs ⟨c, u, .slice bP P.length cP, P, .slice bL L.length cL, L⟩), some (Sc.cs ⟨c2, u2, .slice dP P2.length kP, P2, .slice dL L2.length kL, L2⟩)] ∧ ∃ i : Nat, i ≤ P2.length ∧ r = P2.length - i ∧ vs = [.v (.int .i64 i)] ∧ ∀ j, j < i → (P.map keyP)[j]? = (P2.map keyP)[j]?) P2.length ⟨rfl, rfl, 0, by omega, by omega, rfl, fun j hj => by omega⟩ ?_
  rintro r vs cs mm bx _ ⟨rfl, rfl, i, hi, rfl, rfl, hg⟩
  conv => whnf
  refine bsel_intro (fun q5 => ?_) (fun q5 => ?_) <;> try simp only [decide_eq_true_eq, decide_eq_false_iff_not, beq_iff_eq, beq_eq_false_iff_ne, ne_eq, Bool.not_eq_true', Bool.not_eq_false', bne_iff_ne, bne_eq_false_iff_eq, Bool.not_eq_true, Bool.not_eq_false, Bool.and_eq_true, Bool.or_eq_true, bs_size] at q5
  · have hix : i < P2.length := by omega
    obtain ⟨p, hp⟩ : ∃ p, P[i]? = some p := ⟨_, List.getElem?_eq_getElem (by omega)⟩
    obtain ⟨q, hq⟩ : ∃ q, P2[i]? = some q := ⟨_, List.getElem?_eq_getElem hix⟩
    have hpo := hP p (List.mem_of_getElem? hp)
    have hqo := hP2 q (List.mem_of_getElem? hq)
    obtain ⟨a1, rfl, e1⟩ := fP i p hp
    obtain ⟨a2, rfl, e2⟩ := fP2 i q hq
    have hkp : (P.map keyP)[i]? = some (keyP p) := by rw [List.getElem?_map, hp]; rfl
    have hkq : (P2.map keyP)[i]? = some (keyP q) := by rw [List.getElem?_map, hq]; rfl
    obtain ⟨b1, c1, x1, y1⟩ := hpo.shape
    obtain ⟨b2, c3, x2, y2⟩ := hqo.shape
    have a10 : h.cell? ((a1.add (((i : Int)).toNat * 2)).add 0) = some (.int .u64 p.at_) := by rw [show ((i : Int)).toNat = i by omega]; exact loadH_cellOf aggPt sizPt e1 rfl
    have a11 : h.cell? ((a1.add (((i : Int)).toNat * 2)).add 1) = some (.slice b1 p.b.length c1) := by rw [show ((i : Int)).toNat = i by omega, ← x1]; exact loadH_cellOf aggPt sizPt e1 rfl
    have a20 : h.cell? ((a2.add (((i : Int)).toNat * 2)).add 0) = some (.int .u64 q.at_) := by rw [show ((i : Int)).toNat = i by omega]; exact loadH_cellOf aggP36 sizP36 e2 rfl
    have a21 : h.cell? ((a2.add (((i : Int)).toNat * 2)).add 1) = some (.slice b2 q.b.length c3) := by rw [show ((i : Int)).toNat = i by omega, ← x2]; exact loadH_cellOf aggP36 sizP36 e2 rfl
    conv => whnf
    first | refine need_intro (⟨by omega, by omega⟩) ?_ | refine must.mk (⟨by omega, by omega⟩) ?_
    conv => whnf
    refine ⟨_, (loadH_cell aggU _ _).trans a10, ?_⟩
    conv => whnf
    first | refine need_intro (⟨by omega, by omega⟩) ?_ | refine must.mk (⟨by omega, by omega⟩) ?_
    conv => whnf
    refine ⟨_, (loadH_cell aggU _ _).trans a20, ?_⟩
    conv => whnf
    refine bsel_intro (fun q6 => ?_) (fun q6 => ?_) <;> try simp only [decide_eq_true_eq, decide_eq_false_iff_not, beq_iff_eq, beq_eq_false_iff_ne, ne_eq, Bool.not_eq_true', Bool.not_eq_false', bne_iff_ne, bne_eq_false_iff_eq, Bool.not_eq_true, Bool.not_eq_false, Bool.and_eq_true, Bool.or_eq_true, bs_size] at q6
    · have hne : keyP q ≠ keyP p := fun hh => by unfold keyP at hh; injection hh with h1 h2; omega
      rw [decide_eq_false (fun hh => by have := hh.2.2.1; rw [this, hkq] at hkp; exact hne (Option.some.inj hkp))] at hk
      conv => whnf
      exact hk
    conv => whnf
    first | refine need_intro (⟨by omega, by omega⟩) ?_ | refine must.mk (⟨by omega, by omega⟩) ?_
    conv => whnf
    refine ⟨_, (loadH_cell aggY _ _).trans a11, ?_⟩
    conv => whnf
    first | refine need_intro (⟨by omega, by omega⟩) ?_ | refine must.mk (⟨by omega, by omega⟩) ?_
    conv => whnf
    refine ⟨_, (loadH_cell aggY _ _).trans a21, ?_⟩
    conv => whnf
    refine rbEq_x b1 b2 c1 c3 p.b q.b hpo.len y1 y2 ?_
    refine ⟨trivial, ?_⟩
    conv => whnf
    refine bsel_intro (fun q7 => ?_) (fun q7 => ?_)
    · have q7 : p.b ≠ q.b := by simpa using q7
      have hne : keyP q ≠ keyP p := fun hh => by unfold keyP at hh; injection hh with h1 h2; exact q7 h2.symm
      rw [decide_eq_false (fun hh => by have := hh.2.2.1; rw [this, hkq] at hkp; exact hne (Option.some.inj hkp))] at hk
      conv => whnf
      exact hk
    · have q7 : p.b = q.b := by simpa using q7
      have heq : keyP p = keyP q := by unfold keyP; rw [q7, show p.at_ = q.at_ by omega]
      conv => whnf
      first | refine ov_i64 (by omega) ?_ | refine ov_u64 (by omega) ?_ | refine ov_i64 (by decide) ?_ | refine ov_u64 (by decide) ?_ | refine ov_u8 (by omega) ?_ | refine ov_i32 (by omega) ?_ | refine ov_u32 (by omega) ?_
      conv => whnf
      refine ⟨P2.length - (i + 1), by omega, rfl, rfl, i + 1, by omega, rfl, rfl, fun j hj => ?_⟩
      by_cases e : j = i
      · subst e; rw [hkp, hkq, heq]
      · exact hg j (by omega)
  have hPP : P.map keyP = P2.map keyP := List.ext_getElem? fun j => by
    by_cases hj : j < i
    · exact hg j hj
    · rw [List.getElem?_eq_none (by simp; omega), List.getElem?_eq_none (by simp; omega)]
  clear hg
  conv => whnf
  refine loop_at [6] [2, 3] (fun r vs cs h' => h = h' ∧ cs = [some (Sc.cs ⟨c, u, .slice bP P.length cP, P, .slice bL L.length cL, L⟩), some (Sc.cs ⟨c2, u2, .slice dP P2.length kP, P2, .slice dL L2.length kL, L2⟩)] ∧ ∃ i : Nat, i ≤ L2.length ∧ r = L2.length - i ∧ vs = [.v (.int .i64 i)] ∧ ∀ j, j < i → L[j]? = L2[j]?) L2.length ⟨rfl, rfl, 0, by omega, by omega, rfl, fun j hj => by omega⟩ ?_
  rintro r vs cs mm bx _ ⟨rfl, rfl, i, hi, rfl, rfl, hg⟩
  conv => whnf
  refine bsel_intro (fun q5 => ?_) (fun q5 => ?_) <;> try simp only [decide_eq_true_eq, decide_eq_false_iff_not, beq_iff_eq, beq_eq_false_iff_ne, ne_eq, Bool.not_eq_true', Bool.not_eq_false', bne_iff_ne, bne_eq_false_iff_eq, Bool.not_eq_true, Bool.not_eq_false, Bool.and_eq_true, Bool.or_eq_true, bs_size] at q5
  · have hix : i < L2.length := by omega
    obtain ⟨p, hp⟩ : ∃ p, L[i]? = some p := ⟨_, List.getElem?_eq_getElem (by omega)⟩
    obtain ⟨q, hq⟩ : ∃ q, L2[i]? = some q := ⟨_, List.getElem?_eq_getElem hix⟩
    obtain ⟨a1, rfl, e1⟩ := fL i p hp
    obtain ⟨a2, rfl, e2⟩ := fL2 i q hq
    have e1' : loadH Tryd.prog 47 h (a1.add (((i : Int)).toNat * 3)) = some p.v := by rw [show ((i : Int)).toNat = i by omega]; exact e1
    have e2' : loadH Tryd.prog 47 h (a2.add (((i : Int)).toNat * 3)) = some q.v := by rw [show ((i : Int)).toNat = i by omega]; exact e2
    conv => whnf
    first | refine need_intro (⟨by omega, by omega⟩) ?_ | refine must.mk (⟨by omega, by omega⟩) ?_
    conv => whnf
    refine ⟨_, e1', ?_⟩
    conv => whnf
    first | refine need_intro (⟨by omega, by omega⟩) ?_ | refine must.mk (⟨by omega, by omega⟩) ?_
    conv => whnf
    refine ⟨_, e2', ?_⟩
    conv => whnf
    refine must_via (b := decide (p = q)) ?_ ?_ ?_
    · kernel_rfl
    · exact eqLn p q
    conv => whnf
    refine bsel_intro (fun q6 => ?_) (fun q6 => ?_) <;> try simp only [decide_eq_true_eq, decide_eq_false_iff_not, beq_iff_eq, beq_eq_false_iff_ne, ne_eq, Bool.not_eq_true', Bool.not_eq_false', bne_iff_ne, bne_eq_false_iff_eq, Bool.not_eq_true, Bool.not_eq_false, Bool.and_eq_true, Bool.or_eq_true, bs_size] at q6
    · have hne : p ≠ q := by simpa using q6
      rw [decide_eq_false (fun hh => by have := hh.2.2.2; rw [this, hq] at hp; exact hne (Option.some.inj hp).symm)] at hk
      conv => whnf
      exact hk
    · have hpq : p = q := by simpa using q6
      conv => whnf
      first | refine ov_i64 (by omega) ?_ | refine ov_u64 (by omega) ?_ | refine ov_i64 (by decide) ?_ | refine ov_u64 (by decide) ?_ | refine ov_u8 (by omega) ?_ | refine ov_i32 (by omega) ?_ | refine ov_u32 (by omega) ?_
      conv => whnf
      refine ⟨L2.length - (i + 1), by omega, rfl, rfl, i + 1, by omega, rfl, rfl, fun j hj => ?_⟩
      by_cases e : j = i
      · subst e; rw [hp, hq, hpq]
      · exact hg j (by omega)
  have hLL : L = L2 := List.ext_getElem? fun j => by
    by_cases hj : j < i
    · exact hg j hj
    · rw [List.getElem?_eq_none (by omega), List.getElem?_eq_none (by omega)]
  rw [decide_eq_true ⟨q1, q2, hPP, hLL⟩] at hk
  conv => whnf
  exact hk
theorem to_x (s : Sc) (ho : s.ok 127 h) (hPl : s.P.length ≤ 2 ^ 20) (hk : ∀ (h' : Hp) (sl : Value), h.le h' → Sc.ok 133 h' {s with ps := sl} → K (Sc.v {s with ps := sl}) h') : X Tryd.prog 19 #[s.v] h K := by
  obtain ⟨bP, cP, eP, fP⟩ := ho.shapeP
  obtain ⟨bL, cL, eL, _⟩ := rdL ho.ls
  obtain ⟨c, u, ps, P, ls, L⟩ := s
  simp only at eP fP eL
  subst eP
  subst eL
  have hP : ∀ p ∈ P, p.ok h := ho.P
  have lP := ho.lP
  simp only at lP hk hPl
  refine fnv (args := _) mixed [(1, 1), (5, 1), (7, 1), (9, 1), (13, 1), (21, 1), (27, 1), (2, 2), (3, 3), (19, 3), (36, 3)] [] [] Tryd.func19 rfl (by kernel_rfl) ?_
  conv => whnf
  refine loop_at [4] [1, 2, 3] (fun r vs cs h' => ∃ (i : Nat) (sl : Value), i ≤ P.length ∧ r = P.length - i ∧ vs = [.v (.int .i64 i)] ∧ cs = [some (Sc.cs ⟨c, u, .slice bP P.length cP, P, .slice bL L.length cL, L⟩), some (Sc.cs ⟨⟨0, 0, 0, 0⟩, ⟨0, 0, 0, 0, 0, 0, 0, 0⟩, .slice none 0 0, [], .slice none 0 0, []⟩), some (Sc.cs ⟨c, u, sl, [], .slice bL L.length cL, L⟩)] ∧ Owns h h' 133 2 sl i ((P.take i).flatMap fun p => [Value.int .u64 p.at_, p.sl])) P.length ⟨0, .slice none 0 0, by omega, by omega, rfl, rfl, Owns.nil (Hp.le_refl _)⟩ ?_
  rintro r vs cs mm bx h1 ⟨i, sl, hi, rfl, rfl, rfl, hW⟩
  conv => whnf
  refine bsel_intro (fun q5 => ?_) (fun q5 => ?_) <;> try simp only [decide_eq_true_eq, decide_eq_false_iff_not, beq_iff_eq, beq_eq_false_iff_ne, ne_eq, Bool.not_eq_true', Bool.not_eq_false', bne_iff_ne, bne_eq_false_iff_eq, Bool.not_eq_true, Bool.not_eq_false, Bool.and_eq_true, Bool.or_eq_true, bs_size] at q5
  · have hix : i < P.length := by omega
    obtain ⟨p, hp⟩ : ∃ p, P[i]? = some p := ⟨_, List.getElem?_eq_getElem hix⟩
    have hpo := (hP p (List.mem_of_getElem? hp)).le hW.le
    obtain ⟨a1, rfl, e1⟩ := fP i p hp
    have e1 := loadH_le hW.le e1
    obtain ⟨b1, c1, x1, y1⟩ := hpo.shape
    have a10 : h1.cell? ((a1.add (((i : Int)).toNat * 2)).add 0) = some (.int .u64 p.at_) := by rw [show ((i : Int)).toNat = i by omega]; exact loadH_cellOf aggPt sizPt e1 rfl
    have a11 : h1.cell? ((a1.add (((i : Int)).toNat * 2)).add 1) = some (.slice b1 p.b.length c1) := by rw [show ((i : Int)).toNat = i by omega, ← x1]; exact loadH_cellOf aggPt sizPt e1 rfl
    have hst : (P.take (i + 1)).flatMap (fun p => [Value.int .u64 p.at_, p.sl]) = (P.take i).flatMap (fun p => [Value.int .u64 p.at_, p.sl]) ++ [Value.int .u64 p.at_, .slice b1 p.b.length c1] := by
      rw [List.take_add_one, hp, List.flatMap_append, ← x1]; rfl
    conv => whnf
    first | refine need_intro (⟨by omega, by omega⟩) ?_ | refine must.mk (⟨by omega, by omega⟩) ?_
    conv => whnf
    refine ⟨_, (loadH_cell aggU _ _).trans a10, ?_⟩
    conv => whnf
    first | refine need_intro (⟨by omega, by omega⟩) ?_ | refine must.mk (⟨by omega, by omega⟩) ?_
    conv => whnf
    refine ⟨_, (loadH_cell aggY _ _).trans a11, ?_⟩
    conv => whnf
    refine new_intro (o := rowO 133 [.int .u64 p.at_, .slice b1 p.b.length c1]) (fun y h2 n_y le_y at_y ot_y => ?_)
    conv => whnf
    have hI : Tryd.prog.info? 133 = some Tryd.prog.types[133] := by kernel_rfl
    refine Owns.app1 (z := .agg #[.int .u64 0, .slice none 0 0]) (by kernel_rfl) hI (by kernel_rfl) (by kernel_rfl) (by kernel_rfl) rfl (bytes := 32) (by decide) rfl rfl rfl (hW.up le_y) at_y rfl rfl (by omega) fun s7 h8 hW8 => ?_
    rw [← hst] at hW8
    obtain ⟨a7, c7, rfl⟩ := hW8.shape
    refine ⟨trivial, ?_⟩
    conv => whnf
    first | refine ov_i64 (by omega) ?_ | refine ov_u64 (by omega) ?_ | refine ov_i64 (by decide) ?_ | refine ov_u64 (by decide) ?_ | refine ov_u8 (by omega) ?_ | refine ov_i32 (by omega) ?_ | refine ov_u32 (by omega) ?_
    conv => whnf
    exact ⟨P.length - (i + 1), by omega, i + 1, _, by omega, rfl, rfl, rfl, hW8⟩
  · have : i = P.length := by omega
    subst this
    rw [List.take_length] at hW
    obtain ⟨a7, c7, rfl⟩ := hW.shape
    have hle := hW.le
    have hrd : Rd Tryd.prog 133 2 h1 (.slice a7 P.length c7) (P.map Pt.v) := by
      obtain ⟨ob, g, _⟩ := hW
      exact Gr.rdN (f := fun p : Pt => [Value.int .u64 p.at_, p.sl]) aggP36 sizP36 (fun _ => rfl) g
    have hK := hk h1 (.slice a7 P.length c7) hle ⟨ho.a0, ho.a1, ho.b0, ho.b1, ho.c0, ho.c1, ho.d0, ho.d1, hrd, fun p hp => (hP p hp).le hle, ho.lP, ho.ls.le hle, ho.lL, ho.L⟩
    conv => whnf
    exact hK
end
end Go.Proofs.YtclbommhagmpdaaDoor
