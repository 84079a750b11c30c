/-
  Scripts: what may be, the leaves.
-/
import Derived.Test.YtclbommhagmpdaaDoorScr1
import Derived.Test.YtclbommhagmpdaaDoorLibC
import Derived.Test.YtclbommhagmpdaaDoorMidY
namespace Go.Proofs.YtclbommhagmpdaaDoor
set_option linter.unusedSimpArgs false
set_option linter.unusedVariables false
open Go Go.Mid Go.RowKit
attribute [local irreducible] mid
section
set_option maxHeartbeats 8000000
set_option maxRecDepth 10000
variable {h : Hp} {K : Value → Hp → Prop}
theorem w99_x (a b : Int) (hk : K (.bool (decide (1 ≤ a ∧ a ≤ b))) h) : X Tryd.prog 99 #[.int .i64 a, .int .i64 b] h K := by
  refine fnv (args := _) mixed [] [] [] Tryd.func99 rfl (by kernel_rfl) ?_
  conv => whnf
  refine bsel_intro (fun q1 => ?_) (fun q1 => ?_) <;> try simp only [decide_eq_true_eq, decide_eq_false_iff_not, beq_iff_eq, beq_eq_false_iff_ne, ne_eq, Bool.not_eq_true', Bool.not_eq_false', bne_iff_ne, bne_eq_false_iff_eq, Bool.not_eq_true, Bool.not_eq_false, Bool.and_eq_true, Bool.or_eq_true, bs_size] at q1
  · conv => whnf
    exact kq hk (bI (by rw [Bool.eq_iff_iff]; simp; omega))
  · conv => whnf
    exact kq hk (bI (by rw [Bool.eq_iff_iff]; simp; omega))
theorem w100_x (a b c : Int) (hk : K (.bool (decide (b ≤ a ∧ a ≤ c))) h) : X Tryd.prog 100 #[.int .i64 a, .int .i64 b, .int .i64 c] h K := by
  refine fnv (args := _) mixed [] [] [] Tryd.func100 rfl (by kernel_rfl) ?_
  conv => whnf
  refine bsel_intro (fun q1 => ?_) (fun q1 => ?_) <;> try simp only [decide_eq_true_eq, decide_eq_false_iff_not, beq_iff_eq, beq_eq_false_iff_ne, ne_eq, Bool.not_eq_true', Bool.not_eq_false', bne_iff_ne, bne_eq_false_iff_eq, Bool.not_eq_true, Bool.not_eq_false, Bool.and_eq_true, Bool.or_eq_true, bs_size] at q1
  · conv => whnf
    exact kq hk (bI (by rw [Bool.eq_iff_iff]; simp; omega))
  · conv => whnf
    exact kq hk (bI (by rw [Bool.eq_iff_iff]; simp; omega))
structure Cf where
  a : Int
  b : Int
  c : Int
  d : Int
  deriving DecidableEq
abbrev Cf.cs (c : Cf) : List Value := [.int .i64 c.a, .int .i64 c.b, .int .i64 c.c, .int .i64 c.d]
abbrev Cf.v (c : Cf) : Value := .agg #[.int .i64 c.a, .int .i64 c.b, .int .i64 c.c, .int .i64 c.d]
structure Cf.right (c : Cf) : Prop where
  a0 : 1 ≤ c.a
  a1 : c.a ≤ 8
  b0 : 1 ≤ c.b
  b1 : c.b ≤ 64
  c0 : 1 ≤ c.c
  c1 : c.c ≤ 4096
  d0 : 1 ≤ c.d
  d1 : c.d ≤ 32
def rightB (c : Cf) : Bool := decide (1 ≤ c.a ∧ c.a ≤ 8 ∧ 1 ≤ c.b ∧ c.b ≤ 64 ∧ 1 ≤ c.c ∧ c.c ≤ 4096 ∧ 1 ≤ c.d ∧ c.d ≤ 32)
theorem rightB_iff (c : Cf) : rightB c = true ↔ c.right := by
  unfold rightB
  rw [decide_eq_true_iff]
  exact ⟨fun ⟨h1, h2, h3, h4, h5, h6, h7, h8⟩ => ⟨h1, h2, h3, h4, h5, h6, h7, h8⟩, fun ⟨h1, h2, h3, h4, h5, h6, h7, h8⟩ => ⟨h1, h2, h3, h4, h5, h6, h7, h8⟩⟩
theorem right_x (c : Cf) (hk : K (.bool (rightB c)) h) : X Tryd.prog 59 #[c.v] h K := by
  unfold rightB at hk
  refine fnv (args := _) mixed [(1, 1), (3, 1), (7, 1), (12, 1), (17, 1)] [] [] Tryd.func59 rfl (by kernel_rfl) ?_
  conv => whnf
  repeat' first
    | (refine need_intro (by omega) ?_; conv => whnf)
    | (refine w99_x _ _ ?_; conv => whnf)
    | ((first | refine ov_i64 (by omega) ?_ | refine ov_u64 (by omega) ?_ | refine ov_i64 (by decide) ?_ | refine ov_u64 (by decide) ?_ | refine ov_u8 (by omega) ?_ | refine ov_i32 (by omega) ?_ | refine ov_u32 (by omega) ?_); conv => whnf)
    | (refine ⟨trivial, ?_⟩; conv => whnf)
    | (refine bsel_intro (fun hq => ?_) (fun hq => ?_) <;> (try simp only [decide_eq_true_eq, decide_eq_false_iff_not, beq_iff_eq, beq_eq_false_iff_ne, ne_eq, Bool.not_eq_true', Bool.not_eq_false', bne_iff_ne, bne_eq_false_iff_eq, Bool.not_eq_true, Bool.not_eq_false, Bool.and_eq_true, Bool.or_eq_true, bs_size] at hq) <;> conv => whnf)
  all_goals exact kq hk (bI (by rw [Bool.eq_iff_iff]; simp; omega))
theorem rright_x (c : Cf) (hk : K (.bool (rightB c)) h) : X Tryd.prog 63 #[c.v] h K := by
  unfold rightB at hk
  refine fnv (args := _) mixed [(1, 1), (3, 1), (7, 1), (12, 1), (17, 1), (22, 1), (27, 1), (32, 1), (37, 1)] [] [] Tryd.func63 rfl (by kernel_rfl) ?_
  conv => whnf
  repeat' first
    | (refine need_intro (by omega) ?_; conv => whnf)
    | (refine w99_x _ _ ?_; conv => whnf)
    | ((first | refine ov_i64 (by omega) ?_ | refine ov_u64 (by omega) ?_ | refine ov_i64 (by decide) ?_ | refine ov_u64 (by decide) ?_ | refine ov_u8 (by omega) ?_ | refine ov_i32 (by omega) ?_ | refine ov_u32 (by omega) ?_); conv => whnf)
    | (refine ⟨trivial, ?_⟩; conv => whnf)
    | (refine bsel_intro (fun hq => ?_) (fun hq => ?_) <;> (try simp only [decide_eq_true_eq, decide_eq_false_iff_not, beq_iff_eq, beq_eq_false_iff_ne, ne_eq, Bool.not_eq_true', Bool.not_eq_false', bne_iff_ne, bne_eq_false_iff_eq, Bool.not_eq_true, Bool.not_eq_false, Bool.and_eq_true, Bool.or_eq_true, bs_size] at hq) <;> conv => whnf)
  all_goals exact kq hk (bI (by rw [Bool.eq_iff_iff]; simp; omega))
def partE (c at_ len : Int) : Int := if len < 1 ∨ 256 < len then 4 else if at_ < 2147483648 ∨ 2147483648 + 64 * c < at_ + len then 3 else 0
theorem part_x (c : Cf) (hc : c.right) (at_ : Int) (hat0 : 0 ≤ at_) (hat : at_ < 18446744073709551616) (base : Option Addr) (len cap : Nat) (hl : len ≤ 9223372036854775807) (hk : K (.int .i64 (partE c.c at_ len)) h) : X Tryd.prog 61 #[c.v, .agg #[.int .u64 at_, .slice base len cap]] h K := by
  have c0 := hc.c0
  have c1 := hc.c1
  unfold partE at hk
  refine fnv (args := _) mixed [(2, 2), (12, 2), (3, 3), (7, 3), (16, 3), (19, 3), (28, 3)] [] [] Tryd.func61 rfl (by kernel_rfl) ?_
  conv => whnf
  refine w100_x _ _ _ ?_
  conv => whnf
  refine bsel_intro (fun q1 => ?_) (fun q1 => ?_) <;> try simp only [decide_eq_true_eq, decide_eq_false_iff_not, beq_iff_eq, beq_eq_false_iff_ne, ne_eq, Bool.not_eq_true', Bool.not_eq_false', bne_iff_ne, bne_eq_false_iff_eq, Bool.not_eq_true, Bool.not_eq_false, Bool.and_eq_true, Bool.or_eq_true, bs_size] at q1
  · rw [if_pos (by omega)] at hk
    conv => whnf
    exact hk
  rw [if_neg (by omega)] at hk
  conv => whnf
  refine ov_u64 (by omega) ?_
  conv => whnf
  refine ov_u64 (by omega) ?_
  conv => whnf
  by_cases hlt : at_ < 2147483648
  · rw [if_pos (by omega)] at hk
    refine ov_wrap ?_
    conv => whnf
    refine bsel_true ?_ ?_
    · simp; omega
    conv => whnf
    exact hk
  · refine ov_u64 (by omega) ?_
    conv => whnf
    refine bsel_false ?_ ?_
    · simp; omega
    conv => whnf
    refine bsel_intro (fun q2 => ?_) (fun q2 => ?_) <;> try simp only [decide_eq_true_eq, decide_eq_false_iff_not, beq_iff_eq, beq_eq_false_iff_ne, ne_eq, Bool.not_eq_true', Bool.not_eq_false', bne_iff_ne, bne_eq_false_iff_eq, Bool.not_eq_true, Bool.not_eq_false, Bool.and_eq_true, Bool.or_eq_true, bs_size] at q2
    · rw [if_pos (by omega)] at hk
      conv => whnf
      exact hk
    · conv => whnf
      refine ov_u64 (by omega) ?_
      conv => whnf
      refine ov_u64 (by omega) ?_
      conv => whnf
      refine bsel_intro (fun q3 => ?_) (fun q3 => ?_) <;> try simp only [decide_eq_true_eq, decide_eq_false_iff_not, beq_iff_eq, beq_eq_false_iff_ne, ne_eq, Bool.not_eq_true', Bool.not_eq_false', bne_iff_ne, bne_eq_false_iff_eq, Bool.not_eq_true, Bool.not_eq_false, Bool.and_eq_true, Bool.or_eq_true, bs_size] at q3
      · rw [if_pos (by omega)] at hk
        conv => whnf
        exact hk
      · rw [if_neg (by omega)] at hk
        conv => whnf
        exact hk
theorem rpart_x (c : Cf) (hc : c.right) (at_ : Int) (hat0 : 0 ≤ at_) (hat : at_ < 18446744073709551616) (base : Option Addr) (len cap : Nat) (hl : len ≤ 9223372036854775807) (hk : K (.int .i64 (partE c.c at_ len)) h) : X Tryd.prog 65 #[c.v, .agg #[.int .u64 at_, .slice base len cap]] h K := by
  have c0 := hc.c0
  have c1 := hc.c1
  unfold partE at hk
  refine fnv (args := _) mixed [(2, 2), (21, 2), (36, 2), (3, 3), (5, 3), (10, 3), (15, 3), (19, 3), (29, 3), (31, 3)] [] [] Tryd.func65 rfl (by kernel_rfl) ?_
  conv => whnf
  refine bsel_intro (fun q1 => ?_) (fun q1 => ?_) <;> try simp only [decide_eq_true_eq, decide_eq_false_iff_not, beq_iff_eq, beq_eq_false_iff_ne, ne_eq, Bool.not_eq_true', Bool.not_eq_false', bne_iff_ne, bne_eq_false_iff_eq, Bool.not_eq_true, Bool.not_eq_false, Bool.and_eq_true, Bool.or_eq_true, bs_size] at q1
  · rw [if_pos (by omega)] at hk
    conv => whnf
    exact hk
  conv => whnf
  refine bsel_intro (fun q2 => ?_) (fun q2 => ?_) <;> try simp only [decide_eq_true_eq, decide_eq_false_iff_not, beq_iff_eq, beq_eq_false_iff_ne, ne_eq, Bool.not_eq_true', Bool.not_eq_false', bne_iff_ne, bne_eq_false_iff_eq, Bool.not_eq_true, Bool.not_eq_false, Bool.and_eq_true, Bool.or_eq_true, bs_size] at q2
  · rw [if_pos (by omega)] at hk
    conv => whnf
    exact hk
  rw [if_neg (by omega)] at hk
  conv => whnf
  refine bsel_intro (fun q3 => ?_) (fun q3 => ?_) <;> try simp only [decide_eq_true_eq, decide_eq_false_iff_not, beq_iff_eq, beq_eq_false_iff_ne, ne_eq, Bool.not_eq_true', Bool.not_eq_false', bne_iff_ne, bne_eq_false_iff_eq, Bool.not_eq_true, Bool.not_eq_false, Bool.and_eq_true, Bool.or_eq_true, bs_size] at q3
  · rw [if_pos (by omega)] at hk
    conv => whnf
    exact hk
  conv => whnf
  first | refine ov_i64 (by omega) ?_ | refine ov_u64 (by omega) ?_ | refine ov_i64 (by decide) ?_ | refine ov_u64 (by decide) ?_ | refine ov_u8 (by omega) ?_ | refine ov_i32 (by omega) ?_ | refine ov_u32 (by omega) ?_
  conv => whnf
  refine ov_u64 (by omega) ?_
  conv => whnf
  refine ov_u64 (by omega) ?_
  conv => whnf
  refine bsel_intro (fun q4 => ?_) (fun q4 => ?_) <;> try simp only [decide_eq_true_eq, decide_eq_false_iff_not, beq_iff_eq, beq_eq_false_iff_ne, ne_eq, Bool.not_eq_true', Bool.not_eq_false', bne_iff_ne, bne_eq_false_iff_eq, Bool.not_eq_true, Bool.not_eq_false, Bool.and_eq_true, Bool.or_eq_true, bs_size] at q4
  · rw [if_pos (by omega)] at hk
    conv => whnf
    exact hk
  conv => whnf
  refine ov_u64 (by omega) ?_
  conv => whnf
  refine ov_u64 (by omega) ?_
  conv => whnf
  first | refine ov_i64 (by omega) ?_ | refine ov_u64 (by omega) ?_ | refine ov_i64 (by decide) ?_ | refine ov_u64 (by decide) ?_ | refine ov_u8 (by omega) ?_ | refine ov_i32 (by omega) ?_ | refine ov_u32 (by omega) ?_
  conv => whnf
  refine ov_u64 (by omega) ?_
  conv => whnf
  refine ov_u64 (by omega) ?_
  conv => whnf
  refine bsel_intro (fun q5 => ?_) (fun q5 => ?_) <;> try simp only [decide_eq_true_eq, decide_eq_false_iff_not, beq_iff_eq, beq_eq_false_iff_ne, ne_eq, Bool.not_eq_true', Bool.not_eq_false', bne_iff_ne, bne_eq_false_iff_eq, Bool.not_eq_true, Bool.not_eq_false, Bool.and_eq_true, Bool.or_eq_true, bs_size] at q5
  · rw [if_pos (by omega)] at hk
    conv => whnf
    exact hk
  rw [if_neg (by omega)] at hk
  conv => whnf
  exact hk
def lineE (a : Int) (l : Ln) : Int := if l.w < 0 ∨ 3 < l.w ∨ (l.on = true ∧ l.w ≠ 3) then 1 else if (l.w = 0 ∧ (l.n < 0 ∨ a ≤ l.n)) ∨ (l.w = 1 ∧ l.n < 0) ∨ (l.w = 2 ∧ (l.n < 0 ∨ 255 < l.n)) ∨ (l.w = 3 ∧ (l.n < 1 ∨ 31 < l.n ∨ l.n = 10)) then 3 else 0
theorem line_x36 (c : Cf) (hc : c.right) (l : Ln) (hk : K (.int .i64 (lineE c.a l)) h) : X Tryd.prog 62 #[c.v, .agg #[.int .i64 l.w, .int .i64 l.n, .bool l.on]] h K := by
  have c0 := hc.a0
  have c1 := hc.a1
  obtain ⟨w, n, on⟩ := l
  cases on
  all_goals
    unfold lineE at hk
    refine fnv (args := _) mixed [(2, 2), (12, 2), (3, 3), (6, 3), (10, 3), (18, 3), (23, 3), (28, 3), (32, 3), (37, 3), (40, 3)] [] [] Tryd.func62 rfl (by kernel_rfl) ?_
    conv => whnf
    repeat' first
      | (refine need_intro (by omega) ?_; conv => whnf)
      | (refine w100_x _ _ _ ?_; conv => whnf)
      | ((first | refine ov_i64 (by omega) ?_ | refine ov_u64 (by omega) ?_ | refine ov_i64 (by decide) ?_ | refine ov_u64 (by decide) ?_ | refine ov_u8 (by omega) ?_ | refine ov_i32 (by omega) ?_ | refine ov_u32 (by omega) ?_); conv => whnf)
      | (refine ⟨trivial, ?_⟩; conv => whnf)
      | (refine bsel_intro (fun hq => ?_) (fun hq => ?_) <;> (try simp only [decide_eq_true_eq, decide_eq_false_iff_not, beq_iff_eq, beq_eq_false_iff_ne, ne_eq, Bool.not_eq_true', Bool.not_eq_false', bne_iff_ne, bne_eq_false_iff_eq, Bool.not_eq_true, Bool.not_eq_false, Bool.and_eq_true, Bool.or_eq_true, bs_size] at hq) <;> conv => whnf)
  all_goals exact kq hk (iI (by simp; (repeat split) <;> omega))
theorem rline_x36 (c : Cf) (hc : c.right) (l : Ln) (hk : K (.int .i64 (lineE c.a l)) h) : X Tryd.prog 66 #[c.v, .agg #[.int .i64 l.w, .int .i64 l.n, .bool l.on]] h K := by
  have c0 := hc.a0
  have c1 := hc.a1
  obtain ⟨w, n, on⟩ := l
  cases on
  all_goals
    unfold lineE at hk
    refine fnv (args := _) mixed [(2, 2), (33, 2), (3, 3), (6, 3), (10, 3), (15, 3), (18, 3), (23, 3), (27, 3), (31, 3), (39, 3), (44, 3), (48, 3), (54, 3), (58, 3), (63, 3)] [] [] Tryd.func66 rfl (by kernel_rfl) ?_
    conv => whnf
    repeat' first
      | (refine need_intro (by omega) ?_; conv => whnf)
      | (refine w100_x _ _ _ ?_; conv => whnf)
      | ((first | refine ov_i64 (by omega) ?_ | refine ov_u64 (by omega) ?_ | refine ov_i64 (by decide) ?_ | refine ov_u64 (by decide) ?_ | refine ov_u8 (by omega) ?_ | refine ov_i32 (by omega) ?_ | refine ov_u32 (by omega) ?_); conv => whnf)
      | (refine ⟨trivial, ?_⟩; conv => whnf)
      | (refine bsel_intro (fun hq => ?_) (fun hq => ?_) <;> (try simp only [decide_eq_true_eq, decide_eq_false_iff_not, beq_iff_eq, beq_eq_false_iff_ne, ne_eq, Bool.not_eq_true', Bool.not_eq_false', bne_iff_ne, bne_eq_false_iff_eq, Bool.not_eq_true, Bool.not_eq_false, Bool.and_eq_true, Bool.or_eq_true, bs_size] at hq) <;> conv => whnf)
  all_goals exact kq hk (iI (by simp; (repeat split) <;> omega))
structure Bu where
  b0 : Int
  b1 : Int
  b2 : Int
  b3 : Int
  b4 : Int
  b5 : Int
  b6 : Int
  b7 : Int
  deriving DecidableEq
abbrev Bu.l (b : Bu) : List Int := [b.b0, b.b1, b.b2, b.b3, b.b4, b.b5, b.b6, b.b7]
abbrev Bu.cs (b : Bu) : List Value := [.int .i64 b.b0, .int .i64 b.b1, .int .i64 b.b2, .int .i64 b.b3, .int .i64 b.b4, .int .i64 b.b5, .int .i64 b.b6, .int .i64 b.b7]
def Bu.at (b : Bu) (i : Nat) : Int := b.l.getD i 0
theorem bu_at (b : Bu) {i : Nat} (hi : i < 8) : b.cs[i]? = some (.int .i64 (b.at i)) := by
  match i, hi with
  | 0, _ => rfl
  | 1, _ => rfl
  | 2, _ => rfl
  | 3, _ => rfl
  | 4, _ => rfl
  | 5, _ => rfl
  | 6, _ => rfl
  | 7, _ => rfl
def budOk (a : Int) (b : Bu) (i : Nat) : Prop := ((i : Int) < a → 0 ≤ b.at i ∧ b.at i ≤ 1000) ∧ (a ≤ i → b.at i = 0)
instance (a : Int) (b : Bu) (i : Nat) : Decidable (budOk a b i) := by unfold budOk; infer_instance
def budE (a : Int) (b : Bu) : Int := if ∀ i : Nat, i < 8 → budOk a b i then 0 else 3
theorem budE_bad {a : Int} {b : Bu} {i : Nat} (hi : i < 8) (h : ¬ budOk a b i) : budE a b = 3 := if_neg fun hh => h (hh i hi)
theorem budgets_x (c : Cf) (b : Bu) (hk : K (.int .i64 (budE c.a b)) h) : X Tryd.prog 60 #[c.v, .agg #[.int .i64 b.b0, .int .i64 b.b1, .int .i64 b.b2, .int .i64 b.b3, .int .i64 b.b4, .int .i64 b.b5, .int .i64 b.b6, .int .i64 b.b7]] h K := by
  refine fnv (args := _) mixed [(2, 2), (13, 2), (23, 2), (3, 3)] [] [] Tryd.func60 rfl (by kernel_rfl) ?_
  conv => whnf
  refine loop_at [8] [2] (fun r vs cs h' => h = h' ∧ cs = [some c.cs] ∧ ∃ i : Nat, i ≤ 8 ∧ r = 8 - i ∧ vs = [.v (.int .i64 i)] ∧ ∀ j, j < i → budOk c.a b j) 8 ⟨rfl, rfl, 0, by omega, by omega, rfl, fun j hj => by omega⟩ ?_
  rintro r vs cs mm bx _ ⟨rfl, rfl, i, hi, rfl, rfl, hg⟩
  conv => whnf
  refine bsel_intro (fun q1 => ?_) (fun q1 => ?_) <;> try simp only [decide_eq_true_eq, decide_eq_false_iff_not, beq_iff_eq, beq_eq_false_iff_ne, ne_eq, Bool.not_eq_true', Bool.not_eq_false', bne_iff_ne, bne_eq_false_iff_eq, Bool.not_eq_true, Bool.not_eq_false, Bool.and_eq_true, Bool.or_eq_true, bs_size] at q1
  · have hi8 : i < 8 := by omega
    conv => whnf
    refine need_intro ⟨by omega, by show _ < ((8 : Nat) : Int); omega⟩ ?_
    refine part_cell (cs := b.cs) (k := i) (v := .int .i64 (b.at i)) aggIn (by rw [show ((i : Int)).toNat = i by omega]; exact Nat.mul_one _) (bu_at b hi8) ?_
    generalize hv : b.at i = v at *
    conv => whnf
    refine bsel_intro (fun q2 => ?_) (fun q2 => ?_) <;> try simp only [decide_eq_true_eq, decide_eq_false_iff_not, beq_iff_eq, beq_eq_false_iff_ne, ne_eq, Bool.not_eq_true', Bool.not_eq_false', bne_iff_ne, bne_eq_false_iff_eq, Bool.not_eq_true, Bool.not_eq_false, Bool.and_eq_true, Bool.or_eq_true, bs_size] at q2
    · conv => whnf
      refine w100_x _ _ _ ?_
      conv => whnf
      refine bsel_intro (fun q3 => ?_) (fun q3 => ?_) <;> try simp only [decide_eq_true_eq, decide_eq_false_iff_not, beq_iff_eq, beq_eq_false_iff_ne, ne_eq, Bool.not_eq_true', Bool.not_eq_false', bne_iff_ne, bne_eq_false_iff_eq, Bool.not_eq_true, Bool.not_eq_false, Bool.and_eq_true, Bool.or_eq_true, bs_size] at q3
      · have hb : ¬ budOk c.a b i := fun ⟨g1, g2⟩ => by omega
        rw [budE_bad hi8 hb] at hk
        conv => whnf
        exact hk
      · conv => whnf
        refine bsel_false ?_ ?_
        · simp; omega
        conv => whnf
        have hb : budOk c.a b i := ⟨fun _ => by omega, fun _ => by omega⟩
        conv => whnf
        first | refine ov_i64 (by omega) ?_ | refine ov_u64 (by omega) ?_ | refine ov_i64 (by decide) ?_ | refine ov_u64 (by decide) ?_ | refine ov_u8 (by omega) ?_ | refine ov_i32 (by omega) ?_ | refine ov_u32 (by omega) ?_
        conv => whnf
        exact ⟨8 - (i + 1), by omega, rfl, rfl, i + 1, by omega, rfl, rfl, fun j hj => by
          by_cases e : j = i
          · subst e; exact hb
          · exact hg j (by omega)⟩
    · conv => whnf
      refine bsel_true ?_ ?_
      · simp; omega
      conv => whnf
      refine bsel_intro (fun q3 => ?_) (fun q3 => ?_) <;> try simp only [decide_eq_true_eq, decide_eq_false_iff_not, beq_iff_eq, beq_eq_false_iff_ne, ne_eq, Bool.not_eq_true', Bool.not_eq_false', bne_iff_ne, bne_eq_false_iff_eq, Bool.not_eq_true, Bool.not_eq_false, Bool.and_eq_true, Bool.or_eq_true, bs_size] at q3
      · have hb : ¬ budOk c.a b i := fun ⟨g1, g2⟩ => by omega
        rw [budE_bad hi8 hb] at hk
        conv => whnf
        exact hk
      · have hb : budOk c.a b i := ⟨fun _ => by omega, fun _ => by omega⟩
        conv => whnf
        first | refine ov_i64 (by omega) ?_ | refine ov_u64 (by omega) ?_ | refine ov_i64 (by decide) ?_ | refine ov_u64 (by decide) ?_ | refine ov_u8 (by omega) ?_ | refine ov_i32 (by omega) ?_ | refine ov_u32 (by omega) ?_
        conv => whnf
        exact ⟨8 - (i + 1), by omega, rfl, rfl, i + 1, by omega, rfl, rfl, fun j hj => by
          by_cases e : j = i
          · subst e; exact hb
          · exact hg j (by omega)⟩
  · have : i = 8 := by omega
    subst this
    have hb : budE c.a b = 0 := if_pos fun j hj => hg j (by omega)
    rw [hb] at hk
    conv => whnf
    exact hk
end
end Go.Proofs.YtclbommhagmpdaaDoor
