/-
  Scripts: held against each other.
-/
import Derived.Test.YtjipfibbkmmfbaaGreatDoorStxB
import Derived.Test.YtjipfibbkmmfbaaGreatDoorLibQ
import Derived.LaidMore
import Derived.LaidSub
import Derived.MakeChecks
import Derived.Lib.LaidTab
/-! Scripts: held against each other. -/
namespace Go.Proofs.YtjipfibbkmmfbaaGreatDoor
set_option linter.unusedSimpArgs false
set_option linter.unusedVariables false
open Go Go.Mid Go.RowKit
abbrev rfXStxC0 : Go.Mid.RF := [(2, 2), (5, 2), (11, 2), (3, 3), (7, 3), (13, 3)]
abbrev rfXStxC1 : Go.Mid.RF := [(2, 2), (6, 2), (12, 2), (19, 2), (27, 2), (3, 3), (8, 3), (14, 3), (21, 3), (29, 3)]
attribute [local irreducible] mid
section
set_option maxHeartbeats 8000000
set_option maxRecDepth 10000
variable {h : Hp} {K : Value → Hp → Prop}
def fewB (s : Sc) : Bool := decide (s.P.length ≤ 300 ∧ s.L.length ≤ 2000 ∧ ∀ p ∈ s.P, p.b.length ≤ 400)
theorem aggPt : isAggT Tryz.prog 41 = some true := by kernel_rfl
theorem sizPt : sizeT Tryz.prog 41 = some 2 := by kernel_rfl
theorem few_x (s : Sc) (ho : s.ok 41 h) (hk : K (.bool (fewB s)) h) : X Tryz.prog 4 #[s.v] h K := by
  obtain ⟨bP, cP, eP, fP⟩ := ho.shapeP
  obtain ⟨bL, cL, eL, fL⟩ := rdL ho.ls
  obtain ⟨c, u, ps, P, ls, L⟩ := s
  simp only at eP eL fP fL
  subst eP
  subst eL
  have hoP : ∀ p ∈ P, p.ok h := ho.P
  have lP := ho.lP
  have lL := ho.lL
  simp only at lP lL
  unfold fewB at hk
  simp only at hk
  refine fnv (args := _) mixed [(1, 1), (4, 1), (9, 1), (15, 1), (21, 1)] [] [] Tryz.func4 rfl (by kernel_rfl) ?_; conv => whnf
  refine bsel_intro (fun q1 => ?_) (fun q1 => ?_) <;> try simp only [bsL] at q1
  · rw [decide_eq_false (fun hh => by omega)] at hk
    conv => whnf
    exact hk
  conv => whnf
  refine bsel_intro (fun q2 => ?_) (fun q2 => ?_) <;> try simp only [bsL] at q2
  · rw [decide_eq_false (fun hh => by omega)] at hk
    conv => whnf
    exact hk
  conv => whnf
  refine loop_at [3] [1] (fun r vs cs h' => h = h' ∧ cs = [some (Sc.cs ⟨c, u, .slice bP P.length cP, P, .slice bL L.length cL, L⟩)] ∧ ∃ i : Nat, i ≤ P.length ∧ r = P.length - i ∧ vs = [.v (.int .i64 i)] ∧ ∀ j p, j < i → P[j]? = some p → p.b.length ≤ 400) P.length ⟨rfl, rfl, 0, by omega, by omega, rfl, fun j p hj => by omega⟩ ?_
  rintro r vs cs mm bx _ ⟨rfl, rfl, i, hi, rfl, rfl, hg⟩
  conv => whnf
  refine bsel_intro (fun q5 => ?_) (fun q5 => ?_) <;> try simp only [bsL] at q5
  · have hiP : i < P.length := by omega
    obtain ⟨p, hp⟩ : ∃ p, P[i]? = some p := ⟨_, List.getElem?_eq_getElem hiP⟩
    have hmem := List.mem_of_getElem? hp
    have hpo := hoP p hmem
    obtain ⟨a, rfl, e1⟩ := fP i p hp
    obtain ⟨bB, cB, eB, _⟩ := hpo.shape
    have e3 : h.cell? ((a.add (((i : Int)).toNat * 2)).add 1) = some (.slice bB p.b.length cB) := by
      rw [show ((i : Int)).toNat = i by omega, ← eB]
      exact loadH_cellOf aggPt sizPt e1 rfl
    conv => whnf
    (first | refine need_intro (⟨by omega, by omega⟩) ?_ | refine must.mk (⟨by omega, by omega⟩) ?_); conv => whnf
    refine ⟨_, (loadH_cell aggY _ _).trans e3, ?_⟩; conv => whnf
    refine bsel_intro (fun q6 => ?_) (fun q6 => ?_) <;> try simp only [bsL] at q6
    · rw [decide_eq_false (fun hh => by have := hh.2.2 p hmem; omega)] at hk
      conv => whnf
      exact hk
    · conv => whnf
      (first | refine ov_c (by simp only [loK, hiK]; omega) ?_ | refine ov_c (by decide) ?_); conv => whnf
      refine ⟨P.length - (i + 1), by omega, rfl, rfl, i + 1, by omega, rfl, rfl, fun j q hj hq => ?_⟩
      by_cases e : j = i
      · subst e; rw [hp] at hq; cases hq; omega
      · exact hg j q (by omega) hq
  · rw [decide_eq_true ⟨by omega, by omega, fun p hp => by
      obtain ⟨j, hj, e⟩ := List.getElem_of_mem hp
      exact hg j p (by omega) (by rw [List.getElem?_eq_getElem hj, e])⟩] at hk
    conv => whnf
    exact hk
/-- Bytes are the same. -/
theorem bEq_x (b1 b2 : Option Addr) (c1 c2 : Nat) (x y : Str) (h1 : ∀ i z, x[i]? = some z → ∃ a, b1 = some a ∧ h.cell? (a.add i) = some (byV z)) (h2 : ∀ i z, y[i]? = some z → ∃ a, b2 = some a ∧ h.cell? (a.add i) = some (byV z)) (hk : K (.bool (decide (x = y))) h) : X Tryz.prog 21 #[.slice b1 x.length c1, .slice b2 y.length c2] h K := by
  refine fnv (args := _) mixed [] [] [] Tryz.func21 rfl (by kernel_rfl) ?_; conv => whnf
  refine fromBytes (el := 5) (l := x) (base := b1) (c := c1) rfl (by kernel_rfl) (by kernel_rfl) (by kernel_rfl) rfl h1 ?_
  conv => whnf
  refine fromBytes (el := 5) (l := y) (base := b2) (c := c2) rfl (by kernel_rfl) (by kernel_rfl) (by kernel_rfl) rfl h2 ?_
  conv => whnf
  refine seq_intro ?_; conv => whnf
  exact hk
end
end Go.Proofs.YtjipfibbkmmfbaaGreatDoor
/-! Scripts: are two the same? And a script, as the document's. -/
namespace Go.Proofs.YtjipfibbkmmfbaaGreatDoor
set_option linter.unusedSimpArgs false
set_option linter.unusedVariables false
open Go Go.Mid Go.RowKit
attribute [local irreducible] mid
section
set_option maxHeartbeats 8000000
set_option maxRecDepth 10000
variable {h : Hp} {K : Value → Hp → Prop}
def keyP (p : Pt) : Nat × Str := (p.at_, p.b)
theorem sameP_x (p q : Pt) (hp : p.ok h) (hq : q.ok h) (hk : K (.bool (decide (keyP p = keyP q))) h) : X Tryz.prog 20 #[p.v, q.v] h K := by
  obtain ⟨b1, c1, e1, f1⟩ := hp.shape
  obtain ⟨b2, c2, e2, f2⟩ := hq.shape
  obtain ⟨at1, s1, x⟩ := p
  obtain ⟨at2, s2, y⟩ := q
  simp only at e1 f1 e2 f2
  subst e1
  subst e2
  simp only [keyP, Prod.mk.injEq] at hk
  refine fnv (args := _) mixed rfXStxC0 [] [] Tryz.func20 rfl (by kernel_rfl) ?_; conv => whnf
  refine bsel_intro (fun q1 => ?_) (fun q1 => ?_) <;> try simp only [bsL] at q1
  · conv => whnf
    refine bEq_x b1 b2 c1 c2 x y f1 f2 ?_
    conv => whnf
    exact kq hk (bI (by rw [Bool.eq_iff_iff]; simp; omega))
  · conv => whnf
    exact kq hk (bI (by rw [Bool.eq_iff_iff]; simp; omega))
theorem eqFunc_x (P Q : List Pt) (b1 b2 : Option Addr) (c1 c2 : Nat) (hP : ∀ p ∈ P, p.ok h) (hQ : ∀ p ∈ Q, p.ok h) (lP : P.length ≤ 9223372036854775807)
    (f1 : ∀ i x, P[i]? = some x → ∃ a, b1 = some a ∧ loadH Tryz.prog 41 h (a.add (i * 2)) = some x.v) (f2 : ∀ i x, Q[i]? = some x → ∃ a, b2 = some a ∧ loadH Tryz.prog 41 h (a.add (i * 2)) = some x.v)
    (hk : K (.bool (decide (P.map keyP = Q.map keyP))) h) : X Tryz.prog 22 #[.slice b1 P.length c1, .slice b2 Q.length c2, .func (.func 20) #[] #[]] h K := by
  refine fnv (args := _) mixed [(8, 8), (9, 9)] [] [] Tryz.func22 rfl (by kernel_rfl) ?_; conv => whnf
  refine bsel_intro (fun q1 => ?_) (fun q1 => ?_) <;> try simp only [bsL] at q1
  · rw [decide_eq_false (fun hh => by have := congrArg List.length hh; simp at this; omega)] at hk
    conv => whnf
    exact hk
  conv => whnf
  refine loop_at [17] [] (fun r vs cs h' => h = h' ∧ ∃ i : Nat, i ≤ P.length ∧ r = P.length - i ∧ vs = [.v (.int .i64 i)] ∧ ∀ j, j < i → (P.map keyP)[j]? = (Q.map keyP)[j]?) P.length ⟨rfl, 0, by omega, by omega, rfl, fun j hj => by omega⟩ ?_
  rintro r vs cs mm bx _ ⟨rfl, i, hi, rfl, rfl, hg⟩
  conv => whnf
  refine bsel_intro (fun q5 => ?_) (fun q5 => ?_) <;> try simp only [bsL] at q5
  · have hix : i < P.length := by omega
    obtain ⟨p, hp⟩ : ∃ p, P[i]? = some p := ⟨_, List.getElem?_eq_getElem hix⟩
    obtain ⟨q, hq⟩ : ∃ q, Q[i]? = some q := ⟨_, List.getElem?_eq_getElem (by omega)⟩
    have hpo := hP p (List.mem_of_getElem? hp)
    have hqo := hQ q (List.mem_of_getElem? hq)
    obtain ⟨a1, rfl, e1⟩ := f1 i p hp
    obtain ⟨a2, rfl, e2⟩ := f2 i q hq
    have hkp : (P.map keyP)[i]? = some (keyP p) := by rw [List.getElem?_map, hp]; rfl
    have hkq : (Q.map keyP)[i]? = some (keyP q) := by rw [List.getElem?_map, hq]; rfl
    obtain ⟨d1, k1, x1, _⟩ := hpo.shape
    obtain ⟨d2, k2, x2, _⟩ := hqo.shape
    obtain ⟨at1, s1, u1⟩ := p
    obtain ⟨at2, s2, u2⟩ := q
    simp only at x1 x2
    subst x1
    subst x2
    conv => whnf
    (first | refine need_intro (⟨by omega, by omega⟩) ?_ | refine must.mk (⟨by omega, by omega⟩) ?_); conv => whnf
    have e1' : loadH Tryz.prog 41 h (a1.add (((i : Int)).toNat * 2)) = some (Pt.v ⟨at1, .slice d1 u1.length k1, u1⟩) := by rw [show ((i : Int)).toNat = i by omega]; exact e1
    have e2' : loadH Tryz.prog 41 h (a2.add (((i : Int)).toNat * 2)) = some (Pt.v ⟨at2, .slice d2 u2.length k2, u2⟩) := by rw [show ((i : Int)).toNat = i by omega]; exact e2
    refine ⟨_, e1', ?_⟩; conv => whnf
    (first | refine need_intro (⟨by omega, by omega⟩) ?_ | refine must.mk (⟨by omega, by omega⟩) ?_); conv => whnf
    refine ⟨_, e2', ?_⟩; conv => whnf
    refine sameP_x ⟨at1, .slice d1 u1.length k1, u1⟩ ⟨at2, .slice d2 u2.length k2, u2⟩ hpo hqo ?_
    conv => whnf
    refine bsel_intro (fun q6 => ?_) (fun q6 => ?_) <;> try simp only [bsL] at q6
    · rw [decide_eq_false (fun hh => by rw [hh, hkq] at hkp; exact absurd (Option.some.inj hkp).symm (by simpa using q6))] at hk
      conv => whnf
      exact hk
    · have hpq : keyP ⟨at1, .slice d1 u1.length k1, u1⟩ = keyP ⟨at2, .slice d2 u2.length k2, u2⟩ := by simpa using q6
      conv => whnf
      (first | refine ov_c (by simp only [loK, hiK]; omega) ?_ | refine ov_c (by decide) ?_); conv => whnf
      refine ⟨P.length - (i + 1), by omega, rfl, i + 1, by omega, rfl, rfl, fun j hj => ?_⟩
      by_cases e : j = i
      · subst e; rw [hkp, hkq, hpq]
      · exact hg j (by omega)
  · rw [decide_eq_true (List.ext_getElem? fun j => by
      by_cases hj : j < i
      · exact hg j hj
      · rw [List.getElem?_eq_none (by simp; omega), List.getElem?_eq_none (by simp; omega)])] at hk
    conv => whnf
    exact hk
theorem eqLines_x (P Q : List Ln) (b1 b2 : Option Addr) (c1 c2 : Nat) (lP : P.length ≤ 9223372036854775807)
    (f1 : ∀ i x, P[i]? = some x → ∃ a, b1 = some a ∧ loadH Tryz.prog 44 h (a.add (i * 3)) = some x.v) (f2 : ∀ i x, Q[i]? = some x → ∃ a, b2 = some a ∧ loadH Tryz.prog 44 h (a.add (i * 3)) = some x.v)
    (hk : K (.bool (decide (P = Q))) h) : X Tryz.prog 23 #[.slice b1 P.length c1, .slice b2 Q.length c2] h K := by
  refine fnv (args := _) mixed [] [] [] Tryz.func23 rfl (by kernel_rfl) ?_; conv => whnf
  refine bsel_intro (fun q1 => ?_) (fun q1 => ?_) <;> try simp only [bsL] at q1
  · rw [decide_eq_false (fun hh => by have := congrArg List.length hh; omega)] at hk
    conv => whnf
    exact hk
  conv => whnf
  refine loop_at [13] [] (fun r vs cs h' => h = h' ∧ ∃ i : Nat, i ≤ P.length ∧ r = P.length - i ∧ vs = [.v (.int .i64 i)] ∧ ∀ j, j < i → P[j]? = Q[j]?) P.length ⟨rfl, 0, by omega, by omega, rfl, fun j hj => by omega⟩ ?_
  rintro r vs cs mm bx _ ⟨rfl, i, hi, rfl, rfl, hg⟩
  conv => whnf
  refine bsel_intro (fun q5 => ?_) (fun q5 => ?_) <;> try simp only [bsL] at q5
  · have hix : i < P.length := by omega
    obtain ⟨p, hp⟩ : ∃ p, P[i]? = some p := ⟨_, List.getElem?_eq_getElem hix⟩
    obtain ⟨q, hq⟩ : ∃ q, Q[i]? = some q := ⟨_, List.getElem?_eq_getElem (by omega)⟩
    obtain ⟨a1, rfl, e1⟩ := f1 i p hp
    obtain ⟨a2, rfl, e2⟩ := f2 i q hq
    have e1' : loadH Tryz.prog 44 h (a1.add (((i : Int)).toNat * 3)) = some p.v := by rw [show ((i : Int)).toNat = i by omega]; exact e1
    have e2' : loadH Tryz.prog 44 h (a2.add (((i : Int)).toNat * 3)) = some q.v := by rw [show ((i : Int)).toNat = i by omega]; exact e2
    conv => whnf
    (first | refine need_intro (⟨by omega, by omega⟩) ?_ | refine must.mk (⟨by omega, by omega⟩) ?_); conv => whnf
    refine ⟨_, e1', ?_⟩; conv => whnf
    (first | refine need_intro (⟨by omega, by omega⟩) ?_ | refine must.mk (⟨by omega, by omega⟩) ?_); conv => whnf
    refine ⟨_, e2', ?_⟩; conv => whnf
    refine must_via (b := decide (p = q)) ?_ ?_ ?_
    · kernel_rfl
    · exact eqLn p q
    conv => whnf
    refine bsel_intro (fun q6 => ?_) (fun q6 => ?_) <;> try simp only [bsL] at q6
    · rw [decide_eq_false (fun hh => by rw [hh, hq] at hp; cases hp; simp at q6)] at hk
      conv => whnf
      exact hk
    · have hpq : p = q := by simpa using q6
      conv => whnf
      (first | refine ov_c (by simp only [loK, hiK]; omega) ?_ | refine ov_c (by decide) ?_); conv => whnf
      refine ⟨P.length - (i + 1), by omega, rfl, i + 1, by omega, rfl, rfl, fun j hj => ?_⟩
      by_cases e : j = i
      · subst e; rw [hp, hq, hpq]
      · exact hg j (by omega)
  · rw [decide_eq_true (List.ext_getElem? fun j => by
      by_cases hj : j < i
      · exact hg j hj
      · rw [List.getElem?_eq_none (by omega), List.getElem?_eq_none (by omega)])] at hk
    conv => whnf
    exact hk
theorem eqCf0 (c d : Cf) : eqW Tryz.prog 10000 23 c.v d.v = some ((c.a == d.a) && ((c.b == d.b) && ((c.c == d.c) && ((c.d == d.d) && true)))) := by kernel_rfl
theorem eqCf (c d : Cf) : eqW Tryz.prog 10000 23 c.v d.v = some (decide (c = d)) := by
  rw [eqCf0]
  congr 1
  obtain ⟨a1, a2, a3, a4⟩ := c
  obtain ⟨b1, b2, b3, b4⟩ := d
  rw [Bool.eq_iff_iff]
  simp
abbrev Bu.v (b : Bu) : Value := .agg #[.int .i64 b.b0, .int .i64 b.b1, .int .i64 b.b2, .int .i64 b.b3, .int .i64 b.b4, .int .i64 b.b5, .int .i64 b.b6, .int .i64 b.b7]
theorem eqBu0 (c d : Bu) : eqW Tryz.prog 10000 24 c.v d.v = some ((c.b0 == d.b0) && ((c.b1 == d.b1) && ((c.b2 == d.b2) && ((c.b3 == d.b3) && ((c.b4 == d.b4) && ((c.b5 == d.b5) && ((c.b6 == d.b6) && ((c.b7 == d.b7) && true)))))))) := by kernel_rfl
theorem eqBu (c d : Bu) : eqW Tryz.prog 10000 24 c.v d.v = some (decide (c = d)) := by
  rw [eqBu0]
  congr 1
  obtain ⟨a1, a2, a3, a4, a5, a6, a7, a8⟩ := c
  obtain ⟨b1, b2, b3, b4, b5, b6, b7, b8⟩ := d
  rw [Bool.eq_iff_iff]
  simp
def sameB (a b : Sc) : Bool := decide (a.c = b.c ∧ a.u = b.u ∧ a.P.map keyP = b.P.map keyP ∧ a.L = b.L)
theorem same_x (a b : Sc) (ha : a.ok 41 h) (hb : b.ok 41 h) (hk : K (.bool (sameB a b)) h) : X Tryz.prog 8 #[a.v, b.v] h K := by
  obtain ⟨bP, cP, eP, fP⟩ := ha.shapeP
  obtain ⟨bL, cL, eL, fL⟩ := rdL ha.ls
  obtain ⟨dP, kP, eP2, fP2⟩ := hb.shapeP
  obtain ⟨dL, kL, eL2, fL2⟩ := rdL hb.ls
  obtain ⟨c, u, ps, P, ls, L⟩ := a
  obtain ⟨c2, u2, ps2, P2, ls2, L2⟩ := b
  simp only at eP eL fP fL eP2 eL2 fP2 fL2
  subst eP
  subst eL
  subst eP2
  subst eL2
  unfold sameB at hk
  simp only at hk
  refine fnv (args := _) mixed rfXStxC1 [] [] Tryz.func8 rfl (by kernel_rfl) ?_; conv => whnf
  refine must_via (b := decide (c = c2)) ?_ ?_ ?_
  · kernel_rfl
  · exact eqCf c c2
  conv => whnf
  refine bsel_intro (fun q1 => ?_) (fun q1 => ?_)
  · have q1 := of_decide_eq_true q1
    conv => whnf
    refine must_via (b := decide (u = u2)) ?_ ?_ ?_
    · kernel_rfl
    · exact eqBu u u2
    conv => whnf
    refine bsel_intro (fun q2 => ?_) (fun q2 => ?_)
    · have q2 := of_decide_eq_true q2
      conv => whnf
      refine eqFunc_x P P2 bP dP cP kP ha.P hb.P ha.lP fP fP2 ?_
      conv => whnf
      refine bsel_intro (fun q3 => ?_) (fun q3 => ?_)
      · have q3 := of_decide_eq_true q3
        conv => whnf
        refine eqLines_x L L2 bL dL cL kL ha.lL fL fL2 ?_
        conv => whnf
        exact kq hk (bI (by rw [Bool.eq_iff_iff]; simp [q1, q2, q3]))
      · have q3 := of_decide_eq_false q3
        conv => whnf
        exact kq hk (bI (by rw [Bool.eq_iff_iff]; simp [q3]))
    · have q2 := of_decide_eq_false q2
      conv => whnf
      exact kq hk (bI (by rw [Bool.eq_iff_iff]; simp [q2]))
  · have q1 := of_decide_eq_false q1
    conv => whnf
    exact kq hk (bI (by rw [Bool.eq_iff_iff]; simp [q1]))
end
end Go.Proofs.YtjipfibbkmmfbaaGreatDoor
/-! Scripts: the statement on texts. -/
namespace Go.Proofs.YtjipfibbkmmfbaaGreatDoor
set_option linter.unusedSimpArgs false
set_option linter.unusedVariables false
open Go Go.Mid Go.RowKit
attribute [local irreducible] mid
section
set_option maxHeartbeats 8000000
set_option maxRecDepth 10000
variable {h : Hp} {K : Value → Hp → Prop}
abbrev exS (ps ls : Value) : Sc := ⟨⟨1, 1, 1, 1⟩, ⟨2, 0, 0, 0, 0, 0, 0, 0⟩, ps, [], ls, [⟨0, 0, false⟩, ⟨0, 0, false⟩]⟩
theorem exCheck : checkE (exS .nilIface .nilIface) = 0 := by decide +kernel
theorem exText : textT (exS .nilIface .nilIface) = [109, 97, 99, 104, 105, 110, 101, 32, 49, 32, 49, 32, 49, 32, 49, 10, 98, 117, 100, 103, 101, 116, 32, 50, 10, 112, 105, 99, 107, 32, 48, 32, 50, 10] := by decide +kernel
theorem live36_x (hp : Pow h) (hk : K (.bool true) h) : X Tryz.prog 5 #[] h K := by
  refine X.forget ?_
  refine fnv (args := _) mixed [(1, 1)] [] [] Tryz.func5 rfl (by kernel_rfl) ?_; conv => whnf
  refine new_intro (o := rowO 44 [.int .i64 0, .int .i64 0, .bool false, .int .i64 0, .int .i64 0, .bool false]) (fun b h1 n_b le_b at_b ot_b => ?_); conv => whnf
  have e0 : loadH Tryz.prog 44 h1 ((⟨b, 0, none⟩ : Addr).add (0 * 3)) = some (Ln.v ⟨0, 0, false⟩) := loadH_at (A := []) (x := [.int .i64 0, .int .i64 0, .bool false]) (B := [.int .i64 0, .int .i64 0, .bool false]) aggL sizL at_b rfl rfl
  have e1 : loadH Tryz.prog 44 h1 ((⟨b, 0, none⟩ : Addr).add (1 * 3)) = some (Ln.v ⟨0, 0, false⟩) := loadH_at (A := [.int .i64 0, .int .i64 0, .bool false]) (x := [.int .i64 0, .int .i64 0, .bool false]) (B := []) aggL sizL at_b rfl rfl
  have hI : (-9223372036854775808 : Int) ≤ 1 ∧ (1 : Int) ≤ 9223372036854775807 := by decide
  have hok : (exS (.slice none 0 0) (.slice (some ⟨b, 0, none⟩) 2 2)).ok 41 h1 := ⟨hI.1, hI.2, hI.1, hI.2, hI.1, hI.2, hI.1, hI.2, Rd.nil, fun p hp => (by cases hp), (by show (0 : Nat) ≤ 9223372036854775807; decide), ⟨some ⟨b, 0, none⟩, 2, rfl, fun i v hv => by
    match i, hv with
    | 0, hv => cases hv; exact ⟨_, rfl, e0⟩
    | 1, hv => cases hv; exact ⟨_, rfl, e1⟩
    | i + 2, hv => simp [exS] at hv⟩, (by show (2 : Nat) ≤ 9223372036854775807; decide), fun l hl => by
      have : l = ⟨0, 0, false⟩ := by simpa [exS] using hl
      subst this; decide⟩
  refine text_x36 (hp.le le_b) (exS (.slice none 0 0) (.slice (some ⟨b, 0, none⟩) 2 2)) hok (by show (0 : Nat) ≤ 300; decide) (fun p hp => by cases hp) (by show (2 : Nat) ≤ 60000; decide) ?_
  have hc : checkE (exS (.slice none 0 0) (.slice (some ⟨b, 0, none⟩) 2 2)) = 0 := exCheck
  have ht : textT (exS (.slice none 0 0) (.slice (some ⟨b, 0, none⟩) 2 2)) = [109, 97, 99, 104, 105, 110, 101, 32, 49, 32, 49, 32, 49, 32, 49, 10, 98, 117, 100, 103, 101, 116, 32, 50, 10, 112, 105, 99, 107, 32, 48, 32, 50, 10] := exText
  rw [hc, if_pos rfl]
  conv => whnf
  refine seq_true (ht) ?_; conv => whnf
  exact ⟨h, le_b, hk⟩
theorem few_spec {s : Sc} (h : fewB s = true) : s.P.length ≤ 300 ∧ s.L.length ≤ 2000 ∧ ∀ p ∈ s.P, p.b.length ≤ 400 := of_decide_eq_true h
abbrev shLn : Sh := .struct [(.int .i64), (.int .i64), .bool]
abbrev shPt : Sh := .struct [(.int .u64), (.slice (.int .u8))]
abbrev shSc : Sh := .struct [(.struct [(.int .i64), (.int .i64), (.int .i64), (.int .i64)]), (.array 8 (.int .i64)), (.slice shPt), (.slice shLn)]
theorem ln_of {cs : List Value} (w : Wf h shLn cs) : ∃ l : Ln, (-9223372036854775808 ≤ l.n ∧ l.n ≤ 9223372036854775807) ∧ cs = [.int .i64 l.w, .int .i64 l.n, .bool l.on] := by
  obtain ⟨a1, b1, rfl, w1, w⟩ := wfC (wfS w)
  obtain ⟨a2, b2, rfl, w2, w⟩ := wfC w
  obtain ⟨a3, b3, rfl, w3, w⟩ := wfC w
  obtain rfl := wfN w
  obtain ⟨x1, rfl, _⟩ := wfI w1
  obtain ⟨x2, rfl, p⟩ := wfI w2
  obtain ⟨x3, rfl⟩ := wfB w3
  exact ⟨⟨x1, x2, x3⟩, p, rfl⟩
theorem pt_of {cs : List Value} (w : Wf h shPt cs) : ∃ p : Pt, p.ok h ∧ cs = [.int .u64 p.at_, p.sl] := by
  obtain ⟨a1, b1, rfl, w1, w⟩ := wfC (wfS w)
  obtain ⟨a2, b2, rfl, w2, w⟩ := wfC w
  obtain rfl := wfN w
  obtain ⟨x1, rfl, p1⟩ := wfU w1
  have hs := slice_of1 (P := Tryz.prog) (t := 5) (ok := fun _ : UInt8 => True) (val := byV) aggU8 rfl (fun es hw => by
    obtain ⟨b, e⟩ := wf8 hw
    exact ⟨b, trivial, e⟩) w2
  obtain ⟨a, cap, L, rfl, hl, _, hL⟩ := hs
  refine ⟨⟨x1, .slice a L.length cap, L⟩, ⟨p1, Nat.le_trans hl.1 (by decide), ⟨a, cap, by rw [List.length_map], fun i v hv => ?_⟩⟩, rfl⟩
  rw [List.getElem?_map] at hv
  cases hx : L[i]? with
  | none => rw [hx] at hv; cases hv
  | some x => rw [hx] at hv; cases hv; exact hL i x hx
theorem sc_of {cs : List Value} (w : Wf h shSc cs) : ∃ s : Sc, s.ok 41 h ∧ cs = s.cs := by
  obtain ⟨a1, b1, rfl, w1, w⟩ := wfC (wfS w)
  obtain ⟨a2, b2, rfl, w2, w⟩ := wfC w
  obtain ⟨a3, b3, rfl, w3, w⟩ := wfC w
  obtain ⟨a4, b4, rfl, w4, w⟩ := wfC w
  obtain rfl := wfN w
  obtain ⟨c1, d1, rfl, v1, v⟩ := wfC (wfS w1)
  obtain ⟨c2, d2, rfl, v2, v⟩ := wfC v
  obtain ⟨c3, d3, rfl, v3, v⟩ := wfC v
  obtain ⟨c4, d4, rfl, v4, v⟩ := wfC v
  obtain rfl := wfN v
  obtain ⟨x1, rfl, p1, q1⟩ := wfI v1
  obtain ⟨x2, rfl, p2, q2⟩ := wfI v2
  obtain ⟨x3, rfl, p3, q3⟩ := wfI v3
  obtain ⟨x4, rfl, p4, q4⟩ := wfI v4
  obtain ⟨bl, hbl, _, rfl⟩ := wfA (ok := fun _ : Int => True) (f := fun n => [Value.int .i64 n]) (fun _ hw => by
    obtain ⟨n, e, _⟩ := wfI hw
    exact ⟨n, trivial, e⟩) w2
  obtain ⟨pa, pc, P, rfl, hPl, hPo, hP⟩ := slice_of (P := Tryz.prog) (t := 41) (n := 2) (ok := fun p : Pt => p.ok h) (cells := fun p : Pt => [.int .u64 p.at_, p.sl]) aggPt sizPt (by decide) rfl (fun es hw => pt_of hw) w3
  obtain ⟨la, lc, L, rfl, hLl, hLo, hL⟩ := slice_of (P := Tryz.prog) (t := 44) (n := 3) (ok := fun l : Ln => -9223372036854775808 ≤ l.n ∧ l.n ≤ 9223372036854775807) (cells := fun l : Ln => [.int .i64 l.w, .int .i64 l.n, .bool l.on]) aggL sizL (by decide) rfl (fun es hw => ln_of hw) w4
  match bl, hbl with
  | [b0, b1, b2, b3, b4, b5, b6, b7], _ =>
    refine ⟨⟨⟨x1, x2, x3, x4⟩, ⟨b0, b1, b2, b3, b4, b5, b6, b7⟩, .slice pa P.length pc, P, .slice la L.length lc, L⟩, ⟨p1, q1, p2, q2, p3, q3, p4, q4, ⟨pa, pc, by rw [List.length_map], fun i v hv => ?_⟩, hPo, Nat.le_trans hPl.1 (by decide), ⟨la, lc, by rw [List.length_map], fun i v hv => ?_⟩, Nat.le_trans hLl.1 (by decide), hLo⟩, rfl⟩
    · rw [List.getElem?_map] at hv
      cases hx : P[i]? with
      | none => rw [hx] at hv; cases hv
      | some x => rw [hx] at hv; cases hv; exact hP i x hx
    · rw [List.getElem?_map] at hv
      cases hx : L[i]? with
      | none => rw [hx] at hv; cases hv
      | some x => rw [hx] at hv; cases hv; exact hL i x hx
end
end Go.Proofs.YtjipfibbkmmfbaaGreatDoor
