/-
  Scripts: held against each other.
-/
import Derived.Test.YtclbommhagmpdaaDoorStx5
namespace Go.Proofs.YtclbommhagmpdaaDoor
set_option linter.unusedSimpArgs false
set_option linter.unusedVariables false
open Go Go.Mid Go.RowKit
attribute [local irreducible] mid
section
set_option maxHeartbeats 8000000
set_option maxRecDepth 10000
variable {h : Hp} {K : Value → Hp → Prop}
def fewB (s : Sc) : Bool := decide (s.P.length ≤ 300 ∧ s.L.length ≤ 2000 ∧ ∀ p ∈ s.P, p.b.length ≤ 400)
theorem aggPt : isAggT Tryd.prog 127 = some true := by kernel_rfl
theorem sizPt : sizeT Tryd.prog 127 = some 2 := by kernel_rfl
theorem few_x (s : Sc) (ho : s.ok 127 h) (hk : K (.bool (fewB s)) h) : X Tryd.prog 16 #[s.v] h K := by
  obtain ⟨bP, cP, eP, fP⟩ := ho.shapeP
  obtain ⟨bL, cL, eL, fL⟩ := rdL ho.ls
  obtain ⟨c, u, ps, P, ls, L⟩ := s
  simp only at eP eL fP fL
  subst eP
  subst eL
  have hoP : ∀ p ∈ P, p.ok h := ho.P
  have lP := ho.lP
  have lL := ho.lL
  simp only at lP lL
  unfold fewB at hk
  simp only at hk
  refine fnv (args := _) mixed [(1, 1), (4, 1), (9, 1), (15, 1), (21, 1)] [] [] Tryd.func16 rfl (by kernel_rfl) ?_
  conv => whnf
  refine bsel_intro (fun q1 => ?_) (fun q1 => ?_) <;> try simp only [decide_eq_true_eq, decide_eq_false_iff_not, beq_iff_eq, beq_eq_false_iff_ne, ne_eq, Bool.not_eq_true', Bool.not_eq_false', bne_iff_ne, bne_eq_false_iff_eq, Bool.not_eq_true, Bool.not_eq_false, Bool.and_eq_true, Bool.or_eq_true, bs_size] at q1
  · rw [decide_eq_false (fun hh => by omega)] at hk
    conv => whnf
    exact hk
  conv => whnf
  refine bsel_intro (fun q2 => ?_) (fun q2 => ?_) <;> try simp only [decide_eq_true_eq, decide_eq_false_iff_not, beq_iff_eq, beq_eq_false_iff_ne, ne_eq, Bool.not_eq_true', Bool.not_eq_false', bne_iff_ne, bne_eq_false_iff_eq, Bool.not_eq_true, Bool.not_eq_false, Bool.and_eq_true, Bool.or_eq_true, bs_size] at q2
  · rw [decide_eq_false (fun hh => by omega)] at hk
    conv => whnf
    exact hk
  conv => whnf
  refine loop_at [3] [1] (fun r vs cs h' => h = h' ∧ cs = [some (Sc.cs ⟨c, u, .slice bP P.length cP, P, .slice bL L.length cL, L⟩)] ∧ ∃ i : Nat, i ≤ P.length ∧ r = P.length - i ∧ vs = [.v (.int .i64 i)] ∧ ∀ j p, j < i → P[j]? = some p → p.b.length ≤ 400) P.length ⟨rfl, rfl, 0, by omega, by omega, rfl, fun j p hj => by omega⟩ ?_
  rintro r vs cs mm bx _ ⟨rfl, rfl, i, hi, rfl, rfl, hg⟩
  conv => whnf
  refine bsel_intro (fun q5 => ?_) (fun q5 => ?_) <;> try simp only [decide_eq_true_eq, decide_eq_false_iff_not, beq_iff_eq, beq_eq_false_iff_ne, ne_eq, Bool.not_eq_true', Bool.not_eq_false', bne_iff_ne, bne_eq_false_iff_eq, Bool.not_eq_true, Bool.not_eq_false, Bool.and_eq_true, Bool.or_eq_true, bs_size] at q5
  · have hiP : i < P.length := by omega
    obtain ⟨p, hp⟩ : ∃ p, P[i]? = some p := ⟨_, List.getElem?_eq_getElem hiP⟩
    have hmem := List.mem_of_getElem? hp
    have hpo := hoP p hmem
    obtain ⟨a, rfl, e1⟩ := fP i p hp
    obtain ⟨bB, cB, eB, _⟩ := hpo.shape
    have e3 : h.cell? ((a.add (((i : Int)).toNat * 2)).add 1) = some (.slice bB p.b.length cB) := by
      rw [show ((i : Int)).toNat = i by omega, ← eB]
      exact loadH_cellOf aggPt sizPt e1 rfl
    conv => whnf
    first | refine need_intro (⟨by omega, by omega⟩) ?_ | refine must.mk (⟨by omega, by omega⟩) ?_
    conv => whnf
    refine ⟨_, (loadH_cell aggY _ _).trans e3, ?_⟩
    conv => whnf
    refine bsel_intro (fun q6 => ?_) (fun q6 => ?_) <;> try simp only [decide_eq_true_eq, decide_eq_false_iff_not, beq_iff_eq, beq_eq_false_iff_ne, ne_eq, Bool.not_eq_true', Bool.not_eq_false', bne_iff_ne, bne_eq_false_iff_eq, Bool.not_eq_true, Bool.not_eq_false, Bool.and_eq_true, Bool.or_eq_true, bs_size] at q6
    · rw [decide_eq_false (fun hh => by have := hh.2.2 p hmem; omega)] at hk
      conv => whnf
      exact hk
    · conv => whnf
      first | refine ov_i64 (by omega) ?_ | refine ov_u64 (by omega) ?_ | refine ov_i64 (by decide) ?_ | refine ov_u64 (by decide) ?_ | refine ov_u8 (by omega) ?_ | refine ov_i32 (by omega) ?_ | refine ov_u32 (by omega) ?_
      conv => whnf
      refine ⟨P.length - (i + 1), by omega, rfl, rfl, i + 1, by omega, rfl, rfl, fun j q hj hq => ?_⟩
      by_cases e : j = i
      · subst e; rw [hp] at hq; cases hq; omega
      · exact hg j q (by omega) hq
  · rw [decide_eq_true ⟨by omega, by omega, fun p hp => by
      obtain ⟨j, hj, e⟩ := List.getElem_of_mem hp
      exact hg j p (by omega) (by rw [List.getElem?_eq_getElem hj, e])⟩] at hk
    conv => whnf
    exact hk
/-- Bytes are the same. -/
theorem bEq_x (b1 b2 : Option Addr) (c1 c2 : Nat) (x y : Str) (h1 : ∀ i z, x[i]? = some z → ∃ a, b1 = some a ∧ h.cell? (a.add i) = some (byV z)) (h2 : ∀ i z, y[i]? = some z → ∃ a, b2 = some a ∧ h.cell? (a.add i) = some (byV z)) (hk : K (.bool (decide (x = y))) h) : X Tryd.prog 68 #[.slice b1 x.length c1, .slice b2 y.length c2] h K := by
  refine fnv (args := _) mixed [] [] [] Tryd.func68 rfl (by kernel_rfl) ?_
  conv => whnf
  refine fromBytes (el := 5) (l := x) (base := b1) (c := c1) rfl (by kernel_rfl) (by kernel_rfl) (by kernel_rfl) rfl h1 ?_
  conv => whnf
  refine fromBytes (el := 5) (l := y) (base := b2) (c := c2) rfl (by kernel_rfl) (by kernel_rfl) (by kernel_rfl) rfl h2 ?_
  conv => whnf
  refine seq_intro ?_
  conv => whnf
  exact hk
theorem rbEq_x (b1 b2 : Option Addr) (c1 c2 : Nat) (x y : Str) (hx : x.length ≤ 9223372036854775807) (h1 : ∀ i z, x[i]? = some z → ∃ a, b1 = some a ∧ h.cell? (a.add i) = some (byV z)) (h2 : ∀ i z, y[i]? = some z → ∃ a, b2 = some a ∧ h.cell? (a.add i) = some (byV z)) (hk : K (.bool (decide (x = y))) h) : X Tryd.prog 71 #[.slice b1 x.length c1, .slice b2 y.length c2] h K := by
  refine fnv (args := _) mixed [] [] [] Tryd.func71 rfl (by kernel_rfl) ?_
  conv => whnf
  refine bsel_intro (fun q1 => ?_) (fun q1 => ?_) <;> try simp only [decide_eq_true_eq, decide_eq_false_iff_not, beq_iff_eq, beq_eq_false_iff_ne, ne_eq, Bool.not_eq_true', Bool.not_eq_false', bne_iff_ne, bne_eq_false_iff_eq, Bool.not_eq_true, Bool.not_eq_false, Bool.and_eq_true, Bool.or_eq_true, bs_size] at q1
  · rw [decide_eq_false (fun hh => by subst hh; omega)] at hk
    conv => whnf
    exact hk
  conv => whnf
  refine loop_at [5] [] (fun r vs cs h' => h = h' ∧ ∃ i : Nat, i ≤ x.length ∧ r = x.length - i ∧ vs = [.v (.int .i64 i)] ∧ ∀ j, j < i → x[j]? = y[j]?) x.length ⟨rfl, 0, by omega, by omega, rfl, fun j hj => by omega⟩ ?_
  rintro r vs cs mm bx _ ⟨rfl, i, hi, rfl, rfl, hg⟩
  conv => whnf
  refine bsel_intro (fun q5 => ?_) (fun q5 => ?_) <;> try simp only [decide_eq_true_eq, decide_eq_false_iff_not, beq_iff_eq, beq_eq_false_iff_ne, ne_eq, Bool.not_eq_true', Bool.not_eq_false', bne_iff_ne, bne_eq_false_iff_eq, Bool.not_eq_true, Bool.not_eq_false, Bool.and_eq_true, Bool.or_eq_true, bs_size] at q5
  · have hix : i < x.length := by omega
    obtain ⟨z, hz⟩ : ∃ z, x[i]? = some z := ⟨_, List.getElem?_eq_getElem hix⟩
    obtain ⟨w, hw⟩ : ∃ w, y[i]? = some w := ⟨_, List.getElem?_eq_getElem (by omega)⟩
    obtain ⟨a1, rfl, e1⟩ := h1 i z hz
    obtain ⟨a2, rfl, e2⟩ := h2 i w hw
    have e1' : h.cell? (a1.add (((i : Int)).toNat * 1)) = some (byV z) := by rw [show ((i : Int)).toNat = i by omega, Nat.mul_one]; exact e1
    have e2' : h.cell? (a2.add (((i : Int)).toNat * 1)) = some (byV w) := by rw [show ((i : Int)).toNat = i by omega, Nat.mul_one]; exact e2
    conv => whnf
    first | refine need_intro (⟨by omega, by omega⟩) ?_ | refine must.mk (⟨by omega, by omega⟩) ?_
    conv => whnf
    refine ⟨_, (loadH_cell aggU8 _ _).trans e1', ?_⟩
    conv => whnf
    first | refine need_intro (⟨by omega, by omega⟩) ?_ | refine must.mk (⟨by omega, by omega⟩) ?_
    conv => whnf
    refine ⟨_, (loadH_cell aggU8 _ _).trans e2', ?_⟩
    conv => whnf
    refine bsel_intro (fun q6 => ?_) (fun q6 => ?_) <;> try simp only [decide_eq_true_eq, decide_eq_false_iff_not, beq_iff_eq, beq_eq_false_iff_ne, ne_eq, Bool.not_eq_true', Bool.not_eq_false', bne_iff_ne, bne_eq_false_iff_eq, Bool.not_eq_true, Bool.not_eq_false, Bool.and_eq_true, Bool.or_eq_true, bs_size] at q6
    · rw [decide_eq_false (fun hh => by subst hh; rw [hz] at hw; cases hw; omega)] at hk
      conv => whnf
      exact hk
    · have hzw : z = w := by
        apply UInt8.toNat_inj.1
        omega
      conv => whnf
      first | refine ov_i64 (by omega) ?_ | refine ov_u64 (by omega) ?_ | refine ov_i64 (by decide) ?_ | refine ov_u64 (by decide) ?_ | refine ov_u8 (by omega) ?_ | refine ov_i32 (by omega) ?_ | refine ov_u32 (by omega) ?_
      conv => whnf
      refine ⟨x.length - (i + 1), by omega, rfl, i + 1, by omega, rfl, rfl, fun j hj => ?_⟩
      by_cases e : j = i
      · subst e; rw [hz, hw, hzw]
      · exact hg j (by omega)
  · rw [decide_eq_true (List.ext_getElem? fun j => by
      by_cases hj : j < i
      · exact hg j hj
      · rw [List.getElem?_eq_none (by omega), List.getElem?_eq_none (by omega)])] at hk
    conv => whnf
    exact hk
end
end Go.Proofs.YtclbommhagmpdaaDoor
