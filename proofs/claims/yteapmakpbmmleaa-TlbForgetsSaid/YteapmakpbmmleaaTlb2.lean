/-
  Entries, their keys, and which requests forget them.
-/
import Derived.Test.YteapmakpbmmleaaTlb1
namespace Go.Proofs.Yteapmakpbmmleaa
set_option linter.unusedSimpArgs false
set_option linter.unusedVariables false
open Go Go.Mid Go.RowKit
attribute [local irreducible] mid structOk
structure En where
  asid : Int
  page : Int
  level : Int
  pte : Int
  deriving DecidableEq
structure Ky where
  asid : Int
  page : Int
  level : Int
  deriving DecidableEq
structure Rq where
  set : Bool
  byVa : Bool
  byAsid : Bool
  va : Int
  asid : Int
def En.cells (e : En) : List Value := [.int .i64 e.asid, .int .u64 e.page, .int .i64 e.level, .int .u64 e.pte]
def En.v (e : En) : Value := .agg e.cells.toArray
def Ky.cells (k : Ky) : List Value := [.int .i64 k.asid, .int .u64 k.page, .int .i64 k.level]
def Ky.v (k : Ky) : Value := .agg k.cells.toArray
def Rq.cells (r : Rq) : List Value := [.bool r.set, .bool r.byVa, .bool r.byAsid, .int .u64 r.va, .int .i64 r.asid]
def Rq.v (r : Rq) : Value := .agg r.cells.toArray
/-- The numbers of an entry, of a request, fit. -/
def En.ok (e : En) : Prop := (0 ≤ e.page ∧ e.page < 2 ^ 64) ∧ 0 ≤ e.pte ∧ e.pte < 2 ^ 64
def Rq.ok (r : Rq) : Prop := 0 ≤ r.va ∧ r.va < 2 ^ 64
def keyI (e : En) : Ky := ⟨if globI e.pte then -1 else e.asid, pageI e.page e.level, e.level⟩
def forgI (r : Rq) (e : En) : Bool := r.set && (!r.byVa || decide (pageI r.va e.level = pageI e.page e.level)) && (!r.byAsid || (decide (e.asid = r.asid) && !globI e.pte))
theorem and1 (x : Int) (hx : 0 ≤ x ∧ x < 2 ^ 64) : IntKind.u64.wrap (BitVec.ofInt IntKind.u64.bits x &&& BitVec.ofInt IntKind.u64.bits 1).toNat = x % 2 := by
  obtain ⟨n, rfl⟩ : ∃ n : Nat, x = n := ⟨x.toNat, by omega⟩
  have hn : n < 2 ^ 64 := by omega
  have e1 : (BitVec.ofInt IntKind.u64.bits (n : Int) &&& BitVec.ofInt IntKind.u64.bits 1).toNat = n % 2 := by
    show (BitVec.ofInt 64 (n : Int) &&& BitVec.ofInt 64 1).toNat = _
    have h1 : BitVec.ofInt 64 (n : Int) = BitVec.ofNat 64 n := by apply BitVec.eq_of_toNat_eq; simp
    have h2 : BitVec.ofInt 64 1 = BitVec.ofNat 64 1 := by decide
    rw [h1, h2, BitVec.toNat_and, BitVec.toNat_ofNat, BitVec.toNat_ofNat, Nat.mod_eq_of_lt hn]
    exact Nat.and_one_is_mod n
  rw [e1, IntWalk.u64_in _ (by omega)]
  simp
section
set_option maxRecDepth 10000
variable {h : Hp} {K : Value → Hp → Prop}
theorem rlevel_x (l : Int) (hk : K (.bool (thereI l)) h) : X Try.prog 40 #[.int .i64 l] h K := by
  refine fnv (args := _) mixed [] [] [] Try.func40 rfl (by kernel_rfl) ?_
  conv => whnf
  refine bsel_intro (fun h1 => ?_) (fun h1 => ?_) <;> try simp only [decide_eq_true_eq, decide_eq_false_iff_not, beq_iff_eq, beq_eq_false_iff_ne, ne_eq, Bool.not_eq_true', Bool.not_eq_false', bne_iff_ne, bne_eq_false_iff_eq, Bool.not_eq_true, Bool.not_eq_false, Bool.and_eq_true, Bool.or_eq_true] at h1
  · conv => whnf
    exact kq hk (bI (by unfold thereI; simp; omega))
  · conv => whnf
    refine bsel_intro (fun h2 => ?_) (fun h2 => ?_) <;> try simp only [decide_eq_true_eq, decide_eq_false_iff_not, beq_iff_eq, beq_eq_false_iff_ne, ne_eq, Bool.not_eq_true', Bool.not_eq_false', bne_iff_ne, bne_eq_false_iff_eq, Bool.not_eq_true, Bool.not_eq_false, Bool.and_eq_true, Bool.or_eq_true] at h2
    · conv => whnf
      exact kq hk (bI (by unfold thereI; simp; omega))
    · conv => whnf
      exact kq hk (bI (by rw [Bool.eq_iff_iff]; unfold thereI; simp; omega))
theorem rsize_x (l : Int) (hl : 0 ≤ l ∧ l ≤ 2) (hk : K (.int .u64 (sizeI l)) h) : X Try.prog 41 #[.int .i64 l] h K := by
  have hc : l = 0 ∨ l = 1 ∨ l = 2 := by omega
  rcases hc with rfl | rfl | rfl
  · refine fnv (args := _) mixed [] [] [] Try.func41 rfl (by kernel_rfl) ?_
    conv => whnf
    refine rlevel_x _ ?_
    conv => whnf
    refine loop_step ?_
    conv => whnf
    exact hk
  · refine fnv (args := _) mixed [] [] [] Try.func41 rfl (by kernel_rfl) ?_
    conv => whnf
    refine rlevel_x _ ?_
    conv => whnf
    refine loop_step ?_
    conv => whnf
    first | refine ov_i64 (by omega) ?_ | refine ov_u64 (by omega) ?_ | refine ov_i64 (by decide) ?_ | refine ov_u64 (by decide) ?_ | refine ov_u8 (by omega) ?_ | refine ov_i32 (by omega) ?_ | refine ov_u32 (by omega) ?_
    conv => whnf
    first | refine ov_i64 (by omega) ?_ | refine ov_u64 (by omega) ?_ | refine ov_i64 (by decide) ?_ | refine ov_u64 (by decide) ?_ | refine ov_u8 (by omega) ?_ | refine ov_i32 (by omega) ?_ | refine ov_u32 (by omega) ?_
    conv => whnf
    refine loop_step ?_
    conv => whnf
    exact hk
  · refine fnv (args := _) mixed [] [] [] Try.func41 rfl (by kernel_rfl) ?_
    conv => whnf
    refine rlevel_x _ ?_
    conv => whnf
    refine loop_step ?_
    conv => whnf
    first | refine ov_i64 (by omega) ?_ | refine ov_u64 (by omega) ?_ | refine ov_i64 (by decide) ?_ | refine ov_u64 (by decide) ?_ | refine ov_u8 (by omega) ?_ | refine ov_i32 (by omega) ?_ | refine ov_u32 (by omega) ?_
    conv => whnf
    first | refine ov_i64 (by omega) ?_ | refine ov_u64 (by omega) ?_ | refine ov_i64 (by decide) ?_ | refine ov_u64 (by decide) ?_ | refine ov_u8 (by omega) ?_ | refine ov_i32 (by omega) ?_ | refine ov_u32 (by omega) ?_
    conv => whnf
    refine loop_step ?_
    conv => whnf
    first | refine ov_i64 (by omega) ?_ | refine ov_u64 (by omega) ?_ | refine ov_i64 (by decide) ?_ | refine ov_u64 (by decide) ?_ | refine ov_u8 (by omega) ?_ | refine ov_i32 (by omega) ?_ | refine ov_u32 (by omega) ?_
    conv => whnf
    first | refine ov_i64 (by omega) ?_ | refine ov_u64 (by omega) ?_ | refine ov_i64 (by decide) ?_ | refine ov_u64 (by decide) ?_ | refine ov_u8 (by omega) ?_ | refine ov_i32 (by omega) ?_ | refine ov_u32 (by omega) ?_
    conv => whnf
    refine loop_step ?_
    conv => whnf
    exact hk
theorem rpage_x (va l : Int) (hva : 0 ≤ va ∧ va < 2 ^ 64) (hk : K (.int .u64 (pageI va l)) h) : X Try.prog 30 #[.int .u64 va, .int .i64 l] h K := by
  refine fnv (args := _) mixed [] [] [] Try.func30 rfl (by kernel_rfl) ?_
  conv => whnf
  refine rlevel_x _ ?_
  conv => whnf
  have hu := pageI_u (l := l) hva
  unfold pageI at hk hu
  unfold thereI
  refine bsel_intro (fun h1 => ?_) (fun h1 => ?_) <;> try simp only [decide_eq_true_eq, decide_eq_false_iff_not, beq_iff_eq, beq_eq_false_iff_ne, ne_eq, Bool.not_eq_true', Bool.not_eq_false', bne_iff_ne, bne_eq_false_iff_eq, Bool.not_eq_true, Bool.not_eq_false, Bool.and_eq_true, Bool.or_eq_true] at h1
  · rw [if_neg h1] at hk
    conv => whnf
    exact hk
  · rw [if_pos h1] at hk hu
    conv => whnf
    refine rsize_x _ h1 ?_
    refine ⟨trivial, ?_⟩
    conv => whnf
    have hs : 0 < sizeI l := by unfold sizeI; repeat' split
                                all_goals omega
    have hd := Int.mul_ediv_self_le (x := va) (k := sizeI l) (by omega)
    have hd2 : 0 ≤ va / sizeI l := Int.ediv_nonneg hva.1 (by omega)
    have hd3 : va / sizeI l ≤ va := Int.ediv_le_self _ hva.1
    have e1 : va.tdiv (sizeI l) = va / sizeI l := Int.tdiv_eq_ediv_of_nonneg hva.1
    first | refine need_intro (by omega) ?_ | refine must.mk (by omega) ?_
    conv => whnf
    rw [e1]
    first | refine ov_i64 (by omega) ?_ | refine ov_u64 (by omega) ?_ | refine ov_i64 (by decide) ?_ | refine ov_u64 (by decide) ?_ | refine ov_u8 (by omega) ?_ | refine ov_i32 (by omega) ?_ | refine ov_u32 (by omega) ?_
    conv => whnf
    refine rsize_x _ h1 ?_
    refine ⟨trivial, ?_⟩
    conv => whnf
    first | refine ov_i64 (by omega) ?_ | refine ov_u64 (by omega) ?_ | refine ov_i64 (by decide) ?_ | refine ov_u64 (by decide) ?_ | refine ov_u8 (by omega) ?_ | refine ov_i32 (by omega) ?_ | refine ov_u32 (by omega) ?_
    conv => whnf
    exact hk
theorem bit_x (w i : Int) (hw : 0 ≤ w ∧ w < 2 ^ 64) (hi : 0 ≤ i ∧ i ≤ 63) (hk : K (.int .u64 (w / 2 ^ i.toNat % 2)) h) : X Try.prog 42 #[.int .u64 w, .int .i64 i] h K := by
  refine fnv (args := _) mixed [] [] [] Try.func42 rfl (by kernel_rfl) ?_
  conv => whnf
  refine bsel_false ?_ ?_
  · simp; omega
  conv => whnf
  refine bsel_false ?_ ?_
  · simp; omega
  conv => whnf
  refine loop_at [5, 0] [] (fun r vs _ h' => h = h' ∧ ∃ k : Nat, k ≤ i.toNat ∧ r = i.toNat - k ∧ vs = [.v (.int .i64 k), .v (.int .u64 (w / 2 ^ k))]) i.toNat ⟨rfl, 0, by omega, by omega, by rw [show w / 2 ^ 0 = w by simp]; rfl⟩ ?_
  rintro r vs cs mm bx _ ⟨rfl, k, hk1, rfl, rfl⟩
  conv => whnf
  have hwk : 0 ≤ w / 2 ^ k := Int.ediv_nonneg hw.1 (Int.le_of_lt (Int.pow_pos (by decide)))
  have hwk2 : w / 2 ^ k ≤ w := Int.ediv_le_self _ hw.1
  refine bsel_intro (fun h1 => ?_) (fun h1 => ?_) <;> try simp only [decide_eq_true_eq, decide_eq_false_iff_not, beq_iff_eq, beq_eq_false_iff_ne, ne_eq, Bool.not_eq_true', Bool.not_eq_false', bne_iff_ne, bne_eq_false_iff_eq, Bool.not_eq_true, Bool.not_eq_false, Bool.and_eq_true, Bool.or_eq_true] at h1
  · conv => whnf
    have e1 : (w / 2 ^ k).tdiv 2 = w / 2 ^ (k + 1) := by rw [Int.tdiv_eq_ediv_of_nonneg hwk, Int.pow_succ, Int.ediv_ediv_of_nonneg (Int.le_of_lt (Int.pow_pos (by decide)))]
    rw [e1]
    have hwk3 : 0 ≤ w / 2 ^ (k + 1) := Int.ediv_nonneg hw.1 (Int.le_of_lt (Int.pow_pos (by decide)))
    have hwk4 : w / 2 ^ (k + 1) ≤ w := Int.ediv_le_self _ hw.1
    first | refine ov_i64 (by omega) ?_ | refine ov_u64 (by omega) ?_ | refine ov_i64 (by decide) ?_ | refine ov_u64 (by decide) ?_ | refine ov_u8 (by omega) ?_ | refine ov_i32 (by omega) ?_ | refine ov_u32 (by omega) ?_
    conv => whnf
    first | refine ov_i64 (by omega) ?_ | refine ov_u64 (by omega) ?_ | refine ov_i64 (by decide) ?_ | refine ov_u64 (by decide) ?_ | refine ov_u8 (by omega) ?_ | refine ov_i32 (by omega) ?_ | refine ov_u32 (by omega) ?_
    conv => whnf
    exact ⟨i.toNat - (k + 1), by omega, rfl, k + 1, by omega, rfl, rfl⟩
  · conv => whnf
    obtain rfl : k = i.toNat := by omega
    exact kq hk (iI (Int.tmod_eq_emod_of_nonneg hwk))
theorem rglob_x (p : Int) (hp : 0 ≤ p ∧ p < 2 ^ 64) (hk : K (.bool (globI p)) h) : X Try.prog 31 #[.int .u64 p, .int .u8 71] h K := by
  refine fnv (args := _) mixed [] [] [] Try.func31 rfl (by kernel_rfl) ?_
  conv => whnf
  iterate 5
    refine loop_step ?_
    conv => whnf
    first | refine ov_i64 (by omega) ?_ | refine ov_u64 (by omega) ?_ | refine ov_i64 (by decide) ?_ | refine ov_u64 (by decide) ?_ | refine ov_u8 (by omega) ?_ | refine ov_i32 (by omega) ?_ | refine ov_u32 (by omega) ?_
    conv => whnf
  refine loop_step ?_
  conv => whnf
  refine bit_x _ _ hp (by decide) ?_
  conv => whnf
  exact kq hk (bI (by rw [Bool.eq_iff_iff]; simp [globI]))
theorem glob_x (p : Int) (hp : 0 ≤ p ∧ p < 2 ^ 64) (hk : K (.bool (globI p)) h) : X Try.prog 25 #[.int .u64 p] h K := by
  refine fnv (args := _) mixed [] [] [] Try.func25 rfl (by kernel_rfl) ?_
  conv => whnf
  refine fnv (args := _) mixed [] [] [] Try.func37 rfl (by kernel_rfl) ?_
  conv => whnf
  first | refine ov_i64 (by omega) ?_ | refine ov_u64 (by omega) ?_ | refine ov_i64 (by decide) ?_ | refine ov_u64 (by decide) ?_ | refine ov_u8 (by omega) ?_ | refine ov_i32 (by omega) ?_ | refine ov_u32 (by omega) ?_
  conv => whnf
  exact kq hk (bI (by
    have : (IntKind.u64.wrap (BitVec.ofInt IntKind.u64.bits (p.fdiv (2 ^ 5)) &&& BitVec.ofInt IntKind.u64.bits 1).toNat == 1) = globI p := by
      rw [Int.fdiv_eq_ediv_of_nonneg _ (by decide), and1 _ (by omega)]
      rw [Bool.eq_iff_iff]; simp [globI]
    exact this))
theorem vsame_x (a b l : Int) (ha : 0 ≤ a ∧ a < 2 ^ 64) (hb : 0 ≤ b ∧ b < 2 ^ 64) (hk : K (.bool (decide (pageI a l = pageI b l))) h) : X Try.prog 24 #[.int .u64 a, .int .u64 b, .int .i64 l] h K := by
  refine fnv (args := _) mixed [] [] [] Try.func24 rfl (by kernel_rfl) ?_
  conv => whnf
  refine page_x _ _ ha ?_
  conv => whnf
  refine page_x _ _ hb ?_
  conv => whnf
  exact kq hk (bI (by rw [Bool.eq_iff_iff]; simp))
theorem keyOf_x (e : En) (he : e.ok) (hk : K (keyI e).v h) : X Try.prog 19 #[e.v] h K := by
  refine fnv (args := _) mixed [(1, 1), (4, 1), (6, 1), (8, 1), (11, 1), (14, 1), (2, 2), (3, 3), (17, 3)] [] [] Try.func19 rfl (by kernel_rfl) ?_
  conv => whnf
  refine page_x _ _ he.1 ?_
  refine ⟨trivial, ?_⟩
  conv => whnf
  refine glob_x _ he.2 ?_
  conv => whnf
  unfold keyI at hk
  refine bsel_intro (fun h1 => ?_) (fun h1 => ?_) <;> try simp only [decide_eq_true_eq, decide_eq_false_iff_not, beq_iff_eq, beq_eq_false_iff_ne, ne_eq, Bool.not_eq_true', Bool.not_eq_false', bne_iff_ne, bne_eq_false_iff_eq, Bool.not_eq_true, Bool.not_eq_false, Bool.and_eq_true, Bool.or_eq_true] at h1
  · conv => whnf
    rw [if_pos h1] at hk
    exact hk
  · conv => whnf
    rw [if_neg (by simp [h1])] at hk
    exact hk
theorem forgets_x (r : Rq) (e : En) (hr : r.ok) (he : e.ok) (hk : K (.bool (forgI r e)) h) : X Try.prog 11 #[r.v, e.v] h K := by
  obtain ⟨s, bv, ba, va, asd⟩ := r
  unfold forgI at hk
  cases s <;> cases bv <;> cases ba
  all_goals
    refine fnv (args := _) mixed [(2, 2), (5, 2), (8, 2), (11, 2), (20, 2), (26, 2), (3, 3), (13, 3), (15, 3), (24, 3), (30, 3)] [] [] Try.func11 rfl (by kernel_rfl) ?_
    conv => whnf
  iterate 4 exact hk
  · exact hk
  · refine bsel_intro (fun h1 => ?_) (fun h1 => ?_) <;> try simp only [decide_eq_true_eq, decide_eq_false_iff_not, beq_iff_eq, beq_eq_false_iff_ne, ne_eq, Bool.not_eq_true', Bool.not_eq_false', bne_iff_ne, bne_eq_false_iff_eq, Bool.not_eq_true, Bool.not_eq_false, Bool.and_eq_true, Bool.or_eq_true] at h1
    · conv => whnf
      refine glob_x _ he.2 ?_
      conv => whnf
      exact kq hk (bI (by simp [h1]))
    · conv => whnf
      exact kq hk (bI (by simp [h1]))
  · refine vsame_x _ _ _ hr he.1 ?_
    conv => whnf
    refine bsel_intro (fun h1 => ?_) (fun h1 => ?_) <;> try simp only [decide_eq_true_eq, decide_eq_false_iff_not, beq_iff_eq, beq_eq_false_iff_ne, ne_eq, Bool.not_eq_true', Bool.not_eq_false', bne_iff_ne, bne_eq_false_iff_eq, Bool.not_eq_true, Bool.not_eq_false, Bool.and_eq_true, Bool.or_eq_true] at h1
    · conv => whnf
      exact kq hk (bI (by simp [h1]))
    · conv => whnf
      exact kq hk (bI (by simp [h1]))
  · refine vsame_x _ _ _ hr he.1 ?_
    conv => whnf
    refine bsel_intro (fun h1 => ?_) (fun h1 => ?_) <;> try simp only [decide_eq_true_eq, decide_eq_false_iff_not, beq_iff_eq, beq_eq_false_iff_ne, ne_eq, Bool.not_eq_true', Bool.not_eq_false', bne_iff_ne, bne_eq_false_iff_eq, Bool.not_eq_true, Bool.not_eq_false, Bool.and_eq_true, Bool.or_eq_true] at h1
    · conv => whnf
      exact kq hk (bI (by simp [h1]))
    · conv => whnf
      refine bsel_intro (fun h2 => ?_) (fun h2 => ?_) <;> try simp only [decide_eq_true_eq, decide_eq_false_iff_not, beq_iff_eq, beq_eq_false_iff_ne, ne_eq, Bool.not_eq_true', Bool.not_eq_false', bne_iff_ne, bne_eq_false_iff_eq, Bool.not_eq_true, Bool.not_eq_false, Bool.and_eq_true, Bool.or_eq_true] at h2
      · conv => whnf
        refine glob_x _ he.2 ?_
        conv => whnf
        exact kq hk (bI (by simp [h1, h2]))
      · conv => whnf
        exact kq hk (bI (by simp [h1, h2]))
theorem rforgets_x (r : Rq) (e : En) (hr : r.ok) (he : e.ok) (hk : K (.bool (forgI r e)) h) : X Try.prog 15 #[r.v, e.v] h K := by
  obtain ⟨s, bv, ba, va, asd⟩ := r
  unfold forgI at hk
  cases s <;> cases bv <;> cases ba
  all_goals
    refine fnv (args := _) mixed [(2, 2), (7, 2), (11, 2), (23, 2), (29, 2), (39, 2), (3, 3), (13, 3), (16, 3), (18, 3), (27, 3), (33, 3)] [] [] Try.func15 rfl (by kernel_rfl) ?_
    conv => whnf
    repeat' first
      | (refine need_intro (by omega) ?_; conv => whnf)
      | (refine rpage_x _ _ hr ?_; conv => whnf)
      | (refine rpage_x _ _ he.1 ?_; conv => whnf)
      | (refine rglob_x _ he.2 ?_; conv => whnf)
      | ((first | refine ov_i64 (by omega) ?_ | refine ov_u64 (by omega) ?_ | refine ov_i64 (by decide) ?_ | refine ov_u64 (by decide) ?_ | refine ov_u8 (by omega) ?_ | refine ov_i32 (by omega) ?_ | refine ov_u32 (by omega) ?_); conv => whnf)
      | (refine ⟨trivial, ?_⟩; conv => whnf)
      | (refine bsel_intro (fun hq => ?_) (fun hq => ?_) <;> (try simp only [decide_eq_true_eq, decide_eq_false_iff_not, beq_iff_eq, beq_eq_false_iff_ne, ne_eq, Bool.not_eq_true', Bool.not_eq_false', bne_iff_ne, bne_eq_false_iff_eq, Bool.not_eq_true, Bool.not_eq_false, Bool.and_eq_true, Bool.or_eq_true] at hq) <;> conv => whnf)
  all_goals
    refine kq hk (bI ?_)
    simp_all
theorem keyI_eq {a b : En} (ha : 0 ≤ a.asid) (hb : 0 ≤ b.asid) : keyI a = keyI b ↔ globI a.pte = globI b.pte ∧ (globI a.pte = false → a.asid = b.asid) ∧ a.level = b.level ∧ pageI a.page a.level = pageI b.page b.level := by
  unfold keyI
  rw [Ky.mk.injEq]
  cases globI a.pte <;> cases globI b.pte <;> simp <;> omega
theorem rsame_x (a b : En) (ha : a.ok) (hb : b.ok) (ha2 : 0 ≤ a.asid) (hb2 : 0 ≤ b.asid) (hk : K (.bool (decide (keyI a = keyI b))) h) : X Try.prog 38 #[a.v, b.v] h K := by
  have hkk := keyI_eq ha2 hb2
  refine fnv (args := _) mixed [(2, 2), (7, 2), (20, 2), (28, 2), (34, 2), (36, 2), (3, 3), (10, 3), (22, 3), (30, 3), (39, 3), (41, 3)] [] [] Try.func38 rfl (by kernel_rfl) ?_
  conv => whnf
  repeat' first
    | (refine need_intro (by omega) ?_; conv => whnf)
    | (refine rpage_x _ _ ha.1 ?_; conv => whnf)
    | (refine rpage_x _ _ hb.1 ?_; conv => whnf)
    | (refine rglob_x _ ha.2 ?_; conv => whnf)
    | (refine rglob_x _ hb.2 ?_; conv => whnf)
    | ((first | refine ov_i64 (by omega) ?_ | refine ov_u64 (by omega) ?_ | refine ov_i64 (by decide) ?_ | refine ov_u64 (by decide) ?_ | refine ov_u8 (by omega) ?_ | refine ov_i32 (by omega) ?_ | refine ov_u32 (by omega) ?_); conv => whnf)
    | (refine ⟨trivial, ?_⟩; conv => whnf)
    | (refine bsel_intro (fun hq => ?_) (fun hq => ?_) <;> (try simp only [decide_eq_true_eq, decide_eq_false_iff_not, beq_iff_eq, beq_eq_false_iff_ne, ne_eq, Bool.not_eq_true', Bool.not_eq_false', bne_iff_ne, bne_eq_false_iff_eq, Bool.not_eq_true, Bool.not_eq_false, Bool.and_eq_true, Bool.or_eq_true] at hq) <;> conv => whnf)
  all_goals
    refine kq hk (bI ?_)
    rw [Bool.eq_iff_iff, decide_eq_true_iff, hkk]
    clear hk hkk
    simp_all
end
end Go.Proofs.Yteapmakpbmmleaa
