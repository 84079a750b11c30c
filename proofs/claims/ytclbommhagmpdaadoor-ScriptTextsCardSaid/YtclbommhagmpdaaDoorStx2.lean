/-
  Scripts: what may be.
-/
import Derived.Test.YtclbommhagmpdaaDoorStx1
namespace Go.Proofs.YtclbommhagmpdaaDoor
set_option linter.unusedSimpArgs false
set_option linter.unusedVariables false
open Go Go.Mid Go.RowKit
attribute [local irreducible] mid
section
set_option maxHeartbeats 8000000
set_option maxRecDepth 10000
variable {h : Hp} {K : Value → Hp → Prop}
structure Pt where
  at_ : Nat
  sl : Value
  b : Str
structure Sc where
  c : Cf
  u : Bu
  ps : Value
  P : List Pt
  ls : Value
  L : List Ln
abbrev Pt.v (p : Pt) : Value := .agg #[.int .u64 p.at_, p.sl]
abbrev Sc.cs (s : Sc) : List Value := [.int .i64 s.c.a, .int .i64 s.c.b, .int .i64 s.c.c, .int .i64 s.c.d, .int .i64 s.u.b0, .int .i64 s.u.b1, .int .i64 s.u.b2, .int .i64 s.u.b3, .int .i64 s.u.b4, .int .i64 s.u.b5, .int .i64 s.u.b6, .int .i64 s.u.b7, s.ps, s.ls]
abbrev Sc.v (s : Sc) : Value := .agg #[.int .i64 s.c.a, .int .i64 s.c.b, .int .i64 s.c.c, .int .i64 s.c.d, .int .i64 s.u.b0, .int .i64 s.u.b1, .int .i64 s.u.b2, .int .i64 s.u.b3, .int .i64 s.u.b4, .int .i64 s.u.b5, .int .i64 s.u.b6, .int .i64 s.u.b7, s.ps, s.ls]
/-- A part may be read. -/
structure Pt.ok (h : Hp) (p : Pt) : Prop where
  at_ : p.at_ < 18446744073709551616
  len : p.b.length ≤ 9223372036854775807
  rd : Rd Tryd.prog 5 1 h p.sl (p.b.map byV)
theorem Pt.ok.le {h h' : Hp} {p : Pt} (o : p.ok h) (hle : h.le h') : p.ok h' := ⟨o.at_, o.len, o.rd.le hle⟩
theorem Pt.ok.shape {p : Pt} (o : p.ok h) : ∃ base cap, p.sl = .slice base p.b.length cap ∧ ∀ i x, p.b[i]? = some x → ∃ a, base = some a ∧ h.cell? (a.add i) = some (byV x) := by
  obtain ⟨base, cap, e, f⟩ := o.rd
  refine ⟨base, cap, by rw [e]; simp, fun i x hx => ?_⟩
  obtain ⟨a, ea, hl⟩ := f i (byV x) (by rw [List.getElem?_map, hx]; rfl)
  refine ⟨a, ea, ?_⟩
  rw [loadH_cell aggU8, Nat.mul_one] at hl
  exact hl
/-- s may be read; T: the type of its parts. -/
structure Sc.ok (T : TypeId) (h : Hp) (s : Sc) : Prop where
  a0 : -9223372036854775808 ≤ s.c.a
  a1 : s.c.a ≤ 9223372036854775807
  b0 : -9223372036854775808 ≤ s.c.b
  b1 : s.c.b ≤ 9223372036854775807
  c0 : -9223372036854775808 ≤ s.c.c
  c1 : s.c.c ≤ 9223372036854775807
  d0 : -9223372036854775808 ≤ s.c.d
  d1 : s.c.d ≤ 9223372036854775807
  ps : Rd Tryd.prog T 2 h s.ps (s.P.map Pt.v)
  P : ∀ p ∈ s.P, p.ok h
  lP : s.P.length ≤ 9223372036854775807
  ls : Rd Tryd.prog 47 3 h s.ls (lv s.L)
  lL : s.L.length ≤ 9223372036854775807
  L : ∀ l ∈ s.L, -9223372036854775808 ≤ l.n ∧ l.n ≤ 9223372036854775807
theorem Sc.ok.le {T : TypeId} {h h' : Hp} {s : Sc} (o : s.ok T h) (hle : h.le h') : s.ok T h' :=
  ⟨o.a0, o.a1, o.b0, o.b1, o.c0, o.c1, o.d0, o.d1, o.ps.le hle, fun p hp => (o.P p hp).le hle, o.lP, o.ls.le hle, o.lL, o.L⟩
theorem Sc.ok.shapeP {T : TypeId} {s : Sc} (o : s.ok T h) : ∃ base cap, s.ps = .slice base s.P.length cap ∧ ∀ i x, s.P[i]? = some x → ∃ a, base = some a ∧ loadH Tryd.prog T h (a.add (i * 2)) = some x.v := by
  obtain ⟨base, cap, e, f⟩ := o.ps
  refine ⟨base, cap, by rw [e]; simp, fun i x hx => f i _ ?_⟩
  rw [List.getElem?_map, hx]; rfl
theorem rbudgets_x (s : Sc) (hk : K (.int .i64 (budE s.c.a s.u)) h) : X Tryd.prog 64 #[s.v] h K := by
  refine fnv (args := _) mixed [(1, 1), (9, 1), (15, 1), (22, 1), (28, 1), (10, 1), (16, 1), (23, 1), (29, 1)] [] [] Tryd.func64 rfl (by kernel_rfl) ?_
  conv => whnf
  refine loop_at [3] [1] (fun r vs cs h' => h = h' ∧ cs = [some s.cs] ∧ ∃ i : Nat, i ≤ 8 ∧ r = 8 - i ∧ vs = [.v (.int .i64 i)] ∧ ∀ j, j < i → budOk s.c.a s.u j) 8 ⟨rfl, rfl, 0, by omega, by omega, rfl, fun j hj => by omega⟩ ?_
  rintro r vs cs mm bx _ ⟨rfl, rfl, i, hi, rfl, rfl, hg⟩
  conv => whnf
  refine bsel_intro (fun q1 => ?_) (fun q1 => ?_) <;> try simp only [decide_eq_true_eq, decide_eq_false_iff_not, beq_iff_eq, beq_eq_false_iff_ne, ne_eq, Bool.not_eq_true', Bool.not_eq_false', bne_iff_ne, bne_eq_false_iff_eq, Bool.not_eq_true, Bool.not_eq_false, Bool.and_eq_true, Bool.or_eq_true, bs_size] at q1
  · have hi8 : i < 8 := by omega
    have hcell : s.cs[0 + 4 + i * 1]? = some (.int .i64 (s.u.at i)) := by
      have := bu_at s.u hi8
      rw [← this]
      match i, hi8 with
      | 0, _ => rfl
      | 1, _ => rfl
      | 2, _ => rfl
      | 3, _ => rfl
      | 4, _ => rfl
      | 5, _ => rfl
      | 6, _ => rfl
      | 7, _ => rfl
    conv => whnf
    first | refine need_intro (⟨by omega, by omega⟩) ?_ | refine must.mk (⟨by omega, by omega⟩) ?_
    conv => whnf
    refine getK_intro (cs := s.cs) (off := 0 + 4 + ((i : Int)).toNat * 1) (v := .int .i64 (s.u.at i)) (by rw [show ((i : Int)).toNat = i by omega]; exact hcell) ?_
    conv => whnf
    refine bsel_intro (fun q2 => ?_) (fun q2 => ?_) <;> try simp only [decide_eq_true_eq, decide_eq_false_iff_not, beq_iff_eq, beq_eq_false_iff_ne, ne_eq, Bool.not_eq_true', Bool.not_eq_false', bne_iff_ne, bne_eq_false_iff_eq, Bool.not_eq_true, Bool.not_eq_false, Bool.and_eq_true, Bool.or_eq_true, bs_size] at q2
    · have q3 : ¬ (0 ≤ s.u.at i ∧ s.u.at i ≤ 1000) := by omega
      have hb : ¬ budOk s.c.a s.u i := fun ⟨g1, g2⟩ => by omega
      rw [budE_bad hi8 hb] at hk
      conv => whnf
      exact hk
    conv => whnf
    first | refine need_intro (⟨by omega, by omega⟩) ?_ | refine must.mk (⟨by omega, by omega⟩) ?_
    conv => whnf
    refine getK_intro (cs := s.cs) (off := 0 + 4 + ((i : Int)).toNat * 1) (v := .int .i64 (s.u.at i)) (by rw [show ((i : Int)).toNat = i by omega]; exact hcell) ?_
    conv => whnf
    refine bsel_intro (fun q3 => ?_) (fun q3 => ?_) <;> try simp only [decide_eq_true_eq, decide_eq_false_iff_not, beq_iff_eq, beq_eq_false_iff_ne, ne_eq, Bool.not_eq_true', Bool.not_eq_false', bne_iff_ne, bne_eq_false_iff_eq, Bool.not_eq_true, Bool.not_eq_false, Bool.and_eq_true, Bool.or_eq_true, bs_size] at q3
    · have hb : ¬ budOk s.c.a s.u i := fun ⟨g1, g2⟩ => by omega
      rw [budE_bad hi8 hb] at hk
      conv => whnf
      exact hk
    conv => whnf
    refine bsel_intro (fun q4 => ?_) (fun q4 => ?_) <;> try simp only [decide_eq_true_eq, decide_eq_false_iff_not, beq_iff_eq, beq_eq_false_iff_ne, ne_eq, Bool.not_eq_true', Bool.not_eq_false', bne_iff_ne, bne_eq_false_iff_eq, Bool.not_eq_true, Bool.not_eq_false, Bool.and_eq_true, Bool.or_eq_true, bs_size] at q4
    · conv => whnf
      first | refine need_intro (⟨by omega, by omega⟩) ?_ | refine must.mk (⟨by omega, by omega⟩) ?_
      conv => whnf
      refine getK_intro (cs := s.cs) (off := 0 + 4 + ((i : Int)).toNat * 1) (v := .int .i64 (s.u.at i)) (by rw [show ((i : Int)).toNat = i by omega]; exact hcell) ?_
      conv => whnf
      refine bsel_intro (fun q5 => ?_) (fun q5 => ?_) <;> try simp only [decide_eq_true_eq, decide_eq_false_iff_not, beq_iff_eq, beq_eq_false_iff_ne, ne_eq, Bool.not_eq_true', Bool.not_eq_false', bne_iff_ne, bne_eq_false_iff_eq, Bool.not_eq_true, Bool.not_eq_false, Bool.and_eq_true, Bool.or_eq_true, bs_size] at q5
      · have hb : ¬ budOk s.c.a s.u i := fun ⟨g1, g2⟩ => by omega
        rw [budE_bad hi8 hb] at hk
        conv => whnf
        exact hk
      · have hb : budOk s.c.a s.u i := ⟨fun _ => by omega, fun _ => by omega⟩
        conv => whnf
        first | refine ov_i64 (by omega) ?_ | refine ov_u64 (by omega) ?_ | refine ov_i64 (by decide) ?_ | refine ov_u64 (by decide) ?_ | refine ov_u8 (by omega) ?_ | refine ov_i32 (by omega) ?_ | refine ov_u32 (by omega) ?_
        conv => whnf
        exact ⟨8 - (i + 1), by omega, rfl, rfl, i + 1, by omega, rfl, rfl, fun j hj => by
          by_cases e : j = i
          · subst e; exact hb
          · exact hg j (by omega)⟩
    · conv => whnf
      have hb : budOk s.c.a s.u i := ⟨fun _ => by omega, fun _ => by omega⟩
      conv => whnf
      first | refine ov_i64 (by omega) ?_ | refine ov_u64 (by omega) ?_ | refine ov_i64 (by decide) ?_ | refine ov_u64 (by decide) ?_ | refine ov_u8 (by omega) ?_ | refine ov_i32 (by omega) ?_ | refine ov_u32 (by omega) ?_
      conv => whnf
      exact ⟨8 - (i + 1), by omega, rfl, rfl, i + 1, by omega, rfl, rfl, fun j hj => by
        by_cases e : j = i
        · subst e; exact hb
        · exact hg j (by omega)⟩
  · have : i = 8 := by omega
    subst this
    have hb : budE s.c.a s.u = 0 := if_pos fun j hj => hg j (by omega)
    rw [hb] at hk
    conv => whnf
    exact hk
def firstNZ : List Int → Int
  | [] => 0
  | x :: l => if x ≠ 0 then x else firstNZ l
theorem firstNZ_at : ∀ (l : List Int) (i : Nat) (x : Int), (∀ j y, j < i → l[j]? = some y → y = 0) → l[i]? = some x → x ≠ 0 → firstNZ l = x
  | [], i, x, _, h, _ => by simp at h
  | y :: l, 0, x, _, h, hx => by
    simp at h; subst h
    rw [firstNZ, if_pos hx]
  | y :: l, i + 1, x, hj, h, hx => by
    have := hj 0 y (by omega) rfl
    rw [firstNZ, if_neg (by simpa using this)]
    exact firstNZ_at l i x (fun j z hji hz => hj (j + 1) z (by omega) (by simpa using hz)) (by simpa using h) hx
theorem firstNZ_all : ∀ (l : List Int), (∀ j y, j < l.length → l[j]? = some y → y = 0) → firstNZ l = 0
  | [], _ => rfl
  | y :: l, hj => by
    have := hj 0 y (by simp) rfl
    rw [firstNZ, if_neg (by simpa using this)]
    exact firstNZ_all l fun j z hjl hz => hj (j + 1) z (by simpa using hjl) (by simpa using hz)
def partsE (s : Sc) : List Int := s.P.map fun p => partE s.c.c p.at_ p.b.length
def linesE (s : Sc) : List Int := s.L.map fun l => lineE s.c.a l
def checkE (s : Sc) : Int := if rightB s.c = false then 1 else if budE s.c.a s.u ≠ 0 then budE s.c.a s.u else if 256 < s.P.length ∨ 60000 < s.L.length then 4 else
  if firstNZ (partsE s) ≠ 0 then firstNZ (partsE s) else firstNZ (linesE s)
theorem pt_load {T : TypeId} {n : Nat} {a : Addr} {s : Sc} {i : Nat} {p : Pt} (e : loadH Tryd.prog T h (a.add (i * 2)) = some p.v) : loadH Tryd.prog T h (a.add (((i : Int)).toNat * 2)) = some p.v := by rw [show ((i : Int)).toNat = i by omega]; exact e
theorem check_x (s : Sc) (ho : s.ok 127 h) (hk : K (.int .i64 (checkE s)) h) : X Tryd.prog 20 #[s.v] h K := by
  unfold checkE at hk
  obtain ⟨bP, cP, eP, fP⟩ := ho.shapeP
  obtain ⟨bL, cL, eL, fL⟩ := rdL ho.ls
  have lP := ho.lP
  have lL := ho.lL
  obtain ⟨c, u, ps, P, ls, L⟩ := s
  simp only at eP eL fP fL lP lL hk
  subst eP
  subst eL
  refine fnv (args := _) mixed [(1, 1), (10, 1), (14, 1), (16, 1), (22, 1), (27, 1), (32, 1), (39, 1), (47, 1), (54, 1), (5, 5), (8, 8)] [] [] Tryd.func20 rfl (by kernel_rfl) ?_
  conv => whnf
  refine right_x c ?_
  conv => whnf
  refine bsel_intro (fun q1 => ?_) (fun q1 => ?_)
  · have q1 : rightB c = false := by simpa using q1
    rw [if_pos q1] at hk
    conv => whnf
    exact hk
  have q1 : rightB c = true := by simpa using q1
  have hcr := (rightB_iff c).1 q1
  rw [if_neg (by simp [q1])] at hk
  conv => whnf
  refine budgets_x c u ?_
  conv => whnf
  refine bsel_intro (fun q2 => ?_) (fun q2 => ?_) <;> try simp only [decide_eq_true_eq, decide_eq_false_iff_not, beq_iff_eq, beq_eq_false_iff_ne, ne_eq, Bool.not_eq_true', Bool.not_eq_false', bne_iff_ne, bne_eq_false_iff_eq, Bool.not_eq_true, Bool.not_eq_false, Bool.and_eq_true, Bool.or_eq_true, bs_size] at q2
  · rw [if_pos q2] at hk
    conv => whnf
    exact hk
  rw [if_neg (fun hh => hh q2)] at hk
  conv => whnf
  refine bsel_intro (fun q3 => ?_) (fun q3 => ?_) <;> try simp only [decide_eq_true_eq, decide_eq_false_iff_not, beq_iff_eq, beq_eq_false_iff_ne, ne_eq, Bool.not_eq_true', Bool.not_eq_false', bne_iff_ne, bne_eq_false_iff_eq, Bool.not_eq_true, Bool.not_eq_false, Bool.and_eq_true, Bool.or_eq_true, bs_size] at q3
  · rw [if_pos (by omega)] at hk
    conv => whnf
    exact hk
  conv => whnf
  refine bsel_intro (fun q4 => ?_) (fun q4 => ?_) <;> try simp only [decide_eq_true_eq, decide_eq_false_iff_not, beq_iff_eq, beq_eq_false_iff_ne, ne_eq, Bool.not_eq_true', Bool.not_eq_false', bne_iff_ne, bne_eq_false_iff_eq, Bool.not_eq_true, Bool.not_eq_false, Bool.and_eq_true, Bool.or_eq_true, bs_size] at q4
  · rw [if_pos (by omega)] at hk
    conv => whnf
    exact hk
  rw [if_neg (by omega)] at hk
  conv => whnf
  refine loop_at [35] [1] (fun r vs cs h' => h = h' ∧ cs = [some (Sc.cs ⟨c, u, .slice bP P.length cP, P, .slice bL L.length cL, L⟩)] ∧ ∃ i : Nat, i ≤ P.length ∧ r = P.length - i ∧ vs = [.v (.int .i64 i)] ∧ ∀ j y, j < i → (partsE ⟨c, u, .slice bP P.length cP, P, .slice bL L.length cL, L⟩)[j]? = some y → y = 0) P.length ⟨rfl, rfl, 0, by omega, by omega, rfl, fun j y hj => by omega⟩ ?_
  rintro r vs cs mm bx _ ⟨rfl, rfl, i, hi, rfl, rfl, hg⟩
  conv => whnf
  refine bsel_intro (fun q5 => ?_) (fun q5 => ?_) <;> try simp only [decide_eq_true_eq, decide_eq_false_iff_not, beq_iff_eq, beq_eq_false_iff_ne, ne_eq, Bool.not_eq_true', Bool.not_eq_false', bne_iff_ne, bne_eq_false_iff_eq, Bool.not_eq_true, Bool.not_eq_false, Bool.and_eq_true, Bool.or_eq_true, bs_size] at q5
  · have hiP : i < P.length := by omega
    obtain ⟨p, hp⟩ : ∃ p, P[i]? = some p := ⟨_, List.getElem?_eq_getElem hiP⟩
    have hpo := ho.P p (List.mem_of_getElem? hp)
    obtain ⟨a, rfl, e1⟩ := fP i p hp
    have hpe : (partsE ⟨c, u, .slice (some a) P.length cP, P, .slice bL L.length cL, L⟩)[i]? = some (partE c.c p.at_ p.b.length) := by
      unfold partsE
      rw [List.getElem?_map, hp]; rfl
    obtain ⟨bB, cB, eB, _⟩ := hpo.shape
    have hpa := hpo.at_
    have hpl := hpo.len
    obtain ⟨at_, sl, b⟩ := p
    simp only at eB hpa hpl hpe
    subst eB
    conv => whnf
    first | refine need_intro (⟨by omega, by omega⟩) ?_ | refine must.mk (⟨by omega, by omega⟩) ?_
    conv => whnf
    have e2 : loadH Tryd.prog 127 h (a.add (((i : Int)).toNat * 2)) = some (.agg #[.int .u64 at_, .slice bB b.length cB]) := by rw [show ((i : Int)).toNat = i by omega]; exact e1
    refine ⟨_, e2, ?_⟩
    conv => whnf
    refine part_x c hcr at_ (by omega) (by omega) bB b.length cB hpl ?_
    conv => whnf
    refine bsel_intro (fun q6 => ?_) (fun q6 => ?_) <;> try simp only [decide_eq_true_eq, decide_eq_false_iff_not, beq_iff_eq, beq_eq_false_iff_ne, ne_eq, Bool.not_eq_true', Bool.not_eq_false', bne_iff_ne, bne_eq_false_iff_eq, Bool.not_eq_true, Bool.not_eq_false, Bool.and_eq_true, Bool.or_eq_true, bs_size] at q6
    · have := firstNZ_at _ i _ hg hpe q6
      rw [this, if_pos q6] at hk
      conv => whnf
      exact hk
    · conv => whnf
      first | refine ov_i64 (by omega) ?_ | refine ov_u64 (by omega) ?_ | refine ov_i64 (by decide) ?_ | refine ov_u64 (by decide) ?_ | refine ov_u8 (by omega) ?_ | refine ov_i32 (by omega) ?_ | refine ov_u32 (by omega) ?_
      conv => whnf
      refine ⟨P.length - (i + 1), by omega, rfl, rfl, i + 1, by omega, rfl, rfl, fun j y hj hy => ?_⟩
      by_cases e : j = i
      · subst e; rw [hpe] at hy; cases hy; exact q6
      · exact hg j y (by omega) hy
  · have : i = P.length := by omega
    subst this
    have h0 := firstNZ_all (partsE ⟨c, u, .slice bP P.length cP, P, .slice bL L.length cL, L⟩) fun j y hj hy => hg j y (by simpa [partsE] using hj) hy
    rw [h0, if_neg (by simp)] at hk
    clear hg h0
    conv => whnf
    refine loop_at [50] [1] (fun r vs cs h' => h = h' ∧ cs = [some (Sc.cs ⟨c, u, .slice bP P.length cP, P, .slice bL L.length cL, L⟩)] ∧ ∃ i : Nat, i ≤ L.length ∧ r = L.length - i ∧ vs = [.v (.int .i64 i)] ∧ ∀ j y, j < i → (linesE ⟨c, u, .slice bP P.length cP, P, .slice bL L.length cL, L⟩)[j]? = some y → y = 0) L.length ⟨rfl, rfl, 0, by omega, by omega, rfl, fun j y hj => by omega⟩ ?_
    rintro r vs cs mm bx _ ⟨rfl, rfl, i, hi, rfl, rfl, hg⟩
    conv => whnf
    refine bsel_intro (fun q6 => ?_) (fun q6 => ?_) <;> try simp only [decide_eq_true_eq, decide_eq_false_iff_not, beq_iff_eq, beq_eq_false_iff_ne, ne_eq, Bool.not_eq_true', Bool.not_eq_false', bne_iff_ne, bne_eq_false_iff_eq, Bool.not_eq_true, Bool.not_eq_false, Bool.and_eq_true, Bool.or_eq_true, bs_size] at q6
    · have hiL : i < L.length := by omega
      obtain ⟨l, hl⟩ : ∃ l, L[i]? = some l := ⟨_, List.getElem?_eq_getElem hiL⟩
      obtain ⟨a, rfl, e1⟩ := fL i l hl
      have hle : (linesE ⟨c, u, .slice bP P.length cP, P, .slice (some a) L.length cL, L⟩)[i]? = some (lineE c.a l) := by
        unfold linesE
        rw [List.getElem?_map, hl]; rfl
      conv => whnf
      first | refine need_intro (⟨by omega, by omega⟩) ?_ | refine must.mk (⟨by omega, by omega⟩) ?_
      conv => whnf
      have e2 : loadH Tryd.prog 47 h (a.add (((i : Int)).toNat * 3)) = some (.agg #[.int .i64 l.w, .int .i64 l.n, .bool l.on]) := by rw [show ((i : Int)).toNat = i by omega]; exact e1
      refine ⟨_, e2, ?_⟩
      conv => whnf
      refine line_x36 c hcr l ?_
      conv => whnf
      refine bsel_intro (fun q7 => ?_) (fun q7 => ?_) <;> try simp only [decide_eq_true_eq, decide_eq_false_iff_not, beq_iff_eq, beq_eq_false_iff_ne, ne_eq, Bool.not_eq_true', Bool.not_eq_false', bne_iff_ne, bne_eq_false_iff_eq, Bool.not_eq_true, Bool.not_eq_false, Bool.and_eq_true, Bool.or_eq_true, bs_size] at q7
      · have := firstNZ_at _ i _ hg hle q7
        rw [this] at hk
        conv => whnf
        exact hk
      · conv => whnf
        first | refine ov_i64 (by omega) ?_ | refine ov_u64 (by omega) ?_ | refine ov_i64 (by decide) ?_ | refine ov_u64 (by decide) ?_ | refine ov_u8 (by omega) ?_ | refine ov_i32 (by omega) ?_ | refine ov_u32 (by omega) ?_
        conv => whnf
        refine ⟨L.length - (i + 1), by omega, rfl, rfl, i + 1, by omega, rfl, rfl, fun j y hj hy => ?_⟩
        by_cases e : j = i
        · subst e; rw [hle] at hy; cases hy; exact q7
        · exact hg j y (by omega) hy
    · have : i = L.length := by omega
      subst this
      have h0 := firstNZ_all (linesE ⟨c, u, .slice bP P.length cP, P, .slice bL L.length cL, L⟩) fun j y hj hy => hg j y (by simpa [linesE] using hj) hy
      rw [h0] at hk
      conv => whnf
      exact hk
theorem rcheck_x (s : Sc) (ho : s.ok 133 h) (hk : K (.int .i64 (checkE s)) h) : X Tryd.prog 21 #[s.v] h K := by
  unfold checkE at hk
  obtain ⟨bP, cP, eP, fP⟩ := ho.shapeP
  obtain ⟨bL, cL, eL, fL⟩ := rdL ho.ls
  have lP := ho.lP
  have lL := ho.lL
  obtain ⟨c, u, ps, P, ls, L⟩ := s
  simp only at eP eL fP fL lP lL hk
  subst eP
  subst eL
  refine fnv (args := _) mixed [(1, 1), (8, 1), (17, 1), (22, 1), (28, 1), (34, 1), (36, 1), (46, 1), (52, 1), (54, 1)] [] [] Tryd.func21 rfl (by kernel_rfl) ?_
  conv => whnf
  refine rright_x c ?_
  conv => whnf
  refine bsel_intro (fun q1 => ?_) (fun q1 => ?_)
  · have q1 : rightB c = false := by simpa using q1
    rw [if_pos q1] at hk
    conv => whnf
    exact hk
  have q1 : rightB c = true := by simpa using q1
  have hcr := (rightB_iff c).1 q1
  rw [if_neg (by simp [q1])] at hk
  conv => whnf
  refine rbudgets_x ⟨c, u, .slice bP P.length cP, P, .slice bL L.length cL, L⟩ ?_
  conv => whnf
  refine bsel_intro (fun q2 => ?_) (fun q2 => ?_) <;> try simp only [decide_eq_true_eq, decide_eq_false_iff_not, beq_iff_eq, beq_eq_false_iff_ne, ne_eq, Bool.not_eq_true', Bool.not_eq_false', bne_iff_ne, bne_eq_false_iff_eq, Bool.not_eq_true, Bool.not_eq_false, Bool.and_eq_true, Bool.or_eq_true, bs_size] at q2
  · rw [if_pos q2] at hk
    conv => whnf
    exact hk
  rw [if_neg (fun hh => hh q2)] at hk
  conv => whnf
  refine bsel_intro (fun q3 => ?_) (fun q3 => ?_) <;> try simp only [decide_eq_true_eq, decide_eq_false_iff_not, beq_iff_eq, beq_eq_false_iff_ne, ne_eq, Bool.not_eq_true', Bool.not_eq_false', bne_iff_ne, bne_eq_false_iff_eq, Bool.not_eq_true, Bool.not_eq_false, Bool.and_eq_true, Bool.or_eq_true, bs_size] at q3
  · rw [if_pos (by omega)] at hk
    conv => whnf
    exact hk
  conv => whnf
  refine bsel_intro (fun q4 => ?_) (fun q4 => ?_) <;> try simp only [decide_eq_true_eq, decide_eq_false_iff_not, beq_iff_eq, beq_eq_false_iff_ne, ne_eq, Bool.not_eq_true', Bool.not_eq_false', bne_iff_ne, bne_eq_false_iff_eq, Bool.not_eq_true, Bool.not_eq_false, Bool.and_eq_true, Bool.or_eq_true, bs_size] at q4
  · rw [if_pos (by omega)] at hk
    conv => whnf
    exact hk
  rw [if_neg (by omega)] at hk
  conv => whnf
  refine loop_at [4] [1] (fun r vs cs h' => h = h' ∧ cs = [some (Sc.cs ⟨c, u, .slice bP P.length cP, P, .slice bL L.length cL, L⟩)] ∧ ∃ i : Nat, i ≤ P.length ∧ r = P.length - i ∧ vs = [.v (.int .i64 i)] ∧ ∀ j y, j < i → (partsE ⟨c, u, .slice bP P.length cP, P, .slice bL L.length cL, L⟩)[j]? = some y → y = 0) P.length ⟨rfl, rfl, 0, by omega, by omega, rfl, fun j y hj => by omega⟩ ?_
  rintro r vs cs mm bx _ ⟨rfl, rfl, i, hi, rfl, rfl, hg⟩
  conv => whnf
  refine bsel_intro (fun q5 => ?_) (fun q5 => ?_) <;> try simp only [decide_eq_true_eq, decide_eq_false_iff_not, beq_iff_eq, beq_eq_false_iff_ne, ne_eq, Bool.not_eq_true', Bool.not_eq_false', bne_iff_ne, bne_eq_false_iff_eq, Bool.not_eq_true, Bool.not_eq_false, Bool.and_eq_true, Bool.or_eq_true, bs_size] at q5
  · have hiP : i < P.length := by omega
    obtain ⟨p, hp⟩ : ∃ p, P[i]? = some p := ⟨_, List.getElem?_eq_getElem hiP⟩
    have hpo := ho.P p (List.mem_of_getElem? hp)
    obtain ⟨a, rfl, e1⟩ := fP i p hp
    have hpe : (partsE ⟨c, u, .slice (some a) P.length cP, P, .slice bL L.length cL, L⟩)[i]? = some (partE c.c p.at_ p.b.length) := by
      unfold partsE
      rw [List.getElem?_map, hp]; rfl
    obtain ⟨bB, cB, eB, _⟩ := hpo.shape
    have hpa := hpo.at_
    have hpl := hpo.len
    obtain ⟨at_, sl, b⟩ := p
    simp only at eB hpa hpl hpe
    subst eB
    conv => whnf
    first | refine need_intro (⟨by omega, by omega⟩) ?_ | refine must.mk (⟨by omega, by omega⟩) ?_
    conv => whnf
    have e2 : loadH Tryd.prog 133 h (a.add (((i : Int)).toNat * 2)) = some (.agg #[.int .u64 at_, .slice bB b.length cB]) := by rw [show ((i : Int)).toNat = i by omega]; exact e1
    refine ⟨_, e2, ?_⟩
    conv => whnf
    refine rpart_x c hcr at_ (by omega) (by omega) bB b.length cB hpl ?_
    refine ⟨trivial, ?_⟩
    conv => whnf
    refine bsel_intro (fun q6 => ?_) (fun q6 => ?_) <;> try simp only [decide_eq_true_eq, decide_eq_false_iff_not, beq_iff_eq, beq_eq_false_iff_ne, ne_eq, Bool.not_eq_true', Bool.not_eq_false', bne_iff_ne, bne_eq_false_iff_eq, Bool.not_eq_true, Bool.not_eq_false, Bool.and_eq_true, Bool.or_eq_true, bs_size] at q6
    · have := firstNZ_at _ i _ hg hpe q6
      rw [this, if_pos q6] at hk
      conv => whnf
      exact hk
    · conv => whnf
      first | refine ov_i64 (by omega) ?_ | refine ov_u64 (by omega) ?_ | refine ov_i64 (by decide) ?_ | refine ov_u64 (by decide) ?_ | refine ov_u8 (by omega) ?_ | refine ov_i32 (by omega) ?_ | refine ov_u32 (by omega) ?_
      conv => whnf
      refine ⟨P.length - (i + 1), by omega, rfl, rfl, i + 1, by omega, rfl, rfl, fun j y hj hy => ?_⟩
      by_cases e : j = i
      · subst e; rw [hpe] at hy; cases hy; exact q6
      · exact hg j y (by omega) hy
  · have : i = P.length := by omega
    subst this
    have h0 := firstNZ_all (partsE ⟨c, u, .slice bP P.length cP, P, .slice bL L.length cL, L⟩) fun j y hj hy => hg j y (by simpa [partsE] using hj) hy
    rw [h0, if_neg (by simp)] at hk
    clear hg h0
    conv => whnf
    refine loop_at [6] [1] (fun r vs cs h' => h = h' ∧ cs = [some (Sc.cs ⟨c, u, .slice bP P.length cP, P, .slice bL L.length cL, L⟩)] ∧ ∃ i : Nat, i ≤ L.length ∧ r = L.length - i ∧ vs = [.v (.int .i64 i)] ∧ ∀ j y, j < i → (linesE ⟨c, u, .slice bP P.length cP, P, .slice bL L.length cL, L⟩)[j]? = some y → y = 0) L.length ⟨rfl, rfl, 0, by omega, by omega, rfl, fun j y hj => by omega⟩ ?_
    rintro r vs cs mm bx _ ⟨rfl, rfl, i, hi, rfl, rfl, hg⟩
    conv => whnf
    refine bsel_intro (fun q6 => ?_) (fun q6 => ?_) <;> try simp only [decide_eq_true_eq, decide_eq_false_iff_not, beq_iff_eq, beq_eq_false_iff_ne, ne_eq, Bool.not_eq_true', Bool.not_eq_false', bne_iff_ne, bne_eq_false_iff_eq, Bool.not_eq_true, Bool.not_eq_false, Bool.and_eq_true, Bool.or_eq_true, bs_size] at q6
    · have hiL : i < L.length := by omega
      obtain ⟨l, hl⟩ : ∃ l, L[i]? = some l := ⟨_, List.getElem?_eq_getElem hiL⟩
      obtain ⟨a, rfl, e1⟩ := fL i l hl
      have hle : (linesE ⟨c, u, .slice bP P.length cP, P, .slice (some a) L.length cL, L⟩)[i]? = some (lineE c.a l) := by
        unfold linesE
        rw [List.getElem?_map, hl]; rfl
      conv => whnf
      first | refine need_intro (⟨by omega, by omega⟩) ?_ | refine must.mk (⟨by omega, by omega⟩) ?_
      conv => whnf
      have e2 : loadH Tryd.prog 47 h (a.add (((i : Int)).toNat * 3)) = some (.agg #[.int .i64 l.w, .int .i64 l.n, .bool l.on]) := by rw [show ((i : Int)).toNat = i by omega]; exact e1
      refine ⟨_, e2, ?_⟩
      conv => whnf
      refine rline_x36 c hcr l ?_
      refine ⟨trivial, ?_⟩
      conv => whnf
      refine bsel_intro (fun q7 => ?_) (fun q7 => ?_) <;> try simp only [decide_eq_true_eq, decide_eq_false_iff_not, beq_iff_eq, beq_eq_false_iff_ne, ne_eq, Bool.not_eq_true', Bool.not_eq_false', bne_iff_ne, bne_eq_false_iff_eq, Bool.not_eq_true, Bool.not_eq_false, Bool.and_eq_true, Bool.or_eq_true, bs_size] at q7
      · have := firstNZ_at _ i _ hg hle q7
        rw [this] at hk
        conv => whnf
        exact hk
      · conv => whnf
        first | refine ov_i64 (by omega) ?_ | refine ov_u64 (by omega) ?_ | refine ov_i64 (by decide) ?_ | refine ov_u64 (by decide) ?_ | refine ov_u8 (by omega) ?_ | refine ov_i32 (by omega) ?_ | refine ov_u32 (by omega) ?_
        conv => whnf
        refine ⟨L.length - (i + 1), by omega, rfl, rfl, i + 1, by omega, rfl, rfl, fun j y hj hy => ?_⟩
        by_cases e : j = i
        · subst e; rw [hle] at hy; cases hy; exact q7
        · exact hg j y (by omega) hy
    · have : i = L.length := by omega
      subst this
      have h0 := firstNZ_all (linesE ⟨c, u, .slice bP P.length cP, P, .slice bL L.length cL, L⟩) fun j y hj hy => hg j y (by simpa [linesE] using hj) hy
      rw [h0] at hk
      conv => whnf
      exact hk
end
end Go.Proofs.YtclbommhagmpdaaDoor
