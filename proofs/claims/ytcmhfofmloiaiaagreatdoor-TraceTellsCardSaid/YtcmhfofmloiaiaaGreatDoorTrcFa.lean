/-
  Events: writes, timed, touches.
-/
import Derived.Test.YtcmhfofmloiaiaaGreatDoorTrcE
namespace Go.Proofs.YtcmhfofmloiaiaaGreatDoor
set_option linter.unusedSimpArgs false
set_option linter.unusedVariables false
open Go Go.Mid Go.RowKit
attribute [local irreducible] mid
section
set_option maxHeartbeats 8000000
set_option maxRecDepth 10000
variable {h : Hp} {K : Value → Hp → Prop}
def writesB (a : Ak) (b : An) : Bool := decide (a.kind = 3 ∨ a.kind = 4 ∨ ((a.kind = 6 ∨ a.kind = 8) ∧ b.good = true))
theorem swrites_x (a : Ak) (b : An) (hk : K (.bool (writesB a b)) h) : X Tryz.prog 45 #[.agg a.cs.toArray, .agg b.cs.toArray] h K := by
  refine X.forget ?_
  have hk' : ∀ (h' : Hp) (t : Bool), t = writesB a b → h.le h' → (∃ g : Hp, g.le h' ∧ K (.bool t) g) := fun h' t e hle => ⟨h, hle, e ▸ hk⟩
  clear hk
  unfold writesB at hk'
  generalize hg : b.good = g at hk'
  refine fnv (args := _) mixed [] [] [] Tryz.func45 rfl (by kernel_rfl) ?_
  conv => whnf
  refine new_intro (o := rowO 48 a.cs) (fun x h1 n_x le_x at_x ot_x => ?_)
  conv => whnf
  refine new_intro (o := rowO 51 b.cs) (fun y h2 n_y le_y at_y ot_y => ?_)
  conv => whnf
  have hle := Hp.le_trans le_x le_y
  have x2 := le_y _ _ at_x
  have lg : loadH Tryz.prog 4 h2 ((⟨y, 0, none⟩ : Addr).add 1) = some (.bool g) := by rw [← hg]; exact loadC (i := 1) aggBo at_y rfl
  refine ⟨_, loadC (i := 0) aggKi x2 rfl, ?_⟩
  conv => whnf
  generalize a.kind = k at *
  refine bsel_intro (fun q1 => ?_) (fun q1 => ?_) <;> try simp only [decide_eq_true_eq, decide_eq_false_iff_not, beq_iff_eq, beq_eq_false_iff_ne, ne_eq, Bool.not_eq_true', Bool.not_eq_false', bne_iff_ne, bne_eq_false_iff_eq, Bool.not_eq_true, Bool.not_eq_false, Bool.and_eq_true, Bool.or_eq_true, bs_size] at q1
  · conv => whnf
    refine bsel_true ?_ ?_
    · simp [q1]
    conv => whnf
    exact hk' _ _ (by simp [q1]) hle
  conv => whnf
  refine bsel_intro (fun q2 => ?_) (fun q2 => ?_) <;> try simp only [decide_eq_true_eq, decide_eq_false_iff_not, beq_iff_eq, beq_eq_false_iff_ne, ne_eq, Bool.not_eq_true', Bool.not_eq_false', bne_iff_ne, bne_eq_false_iff_eq, Bool.not_eq_true, Bool.not_eq_false, Bool.and_eq_true, Bool.or_eq_true, bs_size] at q2
  · conv => whnf
    exact hk' _ _ (by simp [q2]) hle
  conv => whnf
  refine bsel_intro (fun q3 => ?_) (fun q3 => ?_) <;> try simp only [decide_eq_true_eq, decide_eq_false_iff_not, beq_iff_eq, beq_eq_false_iff_ne, ne_eq, Bool.not_eq_true', Bool.not_eq_false', bne_iff_ne, bne_eq_false_iff_eq, Bool.not_eq_true, Bool.not_eq_false, Bool.and_eq_true, Bool.or_eq_true, bs_size] at q3
  · conv => whnf
    refine bsel_true ?_ ?_
    · simp [q3]
    conv => whnf
    refine ⟨_, lg, ?_⟩
    conv => whnf
    exact hk' _ _ (by cases g <;> simp [q1, q2, q3]) hle
  conv => whnf
  refine bsel_intro (fun q4 => ?_) (fun q4 => ?_) <;> try simp only [decide_eq_true_eq, decide_eq_false_iff_not, beq_iff_eq, beq_eq_false_iff_ne, ne_eq, Bool.not_eq_true', Bool.not_eq_false', bne_iff_ne, bne_eq_false_iff_eq, Bool.not_eq_true, Bool.not_eq_false, Bool.and_eq_true, Bool.or_eq_true, bs_size] at q4
  · conv => whnf
    refine ⟨_, lg, ?_⟩
    conv => whnf
    exact hk' _ _ (by cases g <;> simp [q1, q2, q4]) hle
  conv => whnf
  exact hk' _ _ (by simp [q1, q2, q3, q4]) hle
theorem rwrites_x (a : Ak) (b : An) (hk : K (.bool (writesB a b)) h) : X Tryz.prog 27 #[.agg a.cs.toArray, .agg b.cs.toArray] h K := by
  refine X.forget ?_
  have hk' : ∀ (h' : Hp) (t : Bool), t = writesB a b → h.le h' → (∃ g : Hp, g.le h' ∧ K (.bool t) g) := fun h' t e hle => ⟨h, hle, e ▸ hk⟩
  clear hk
  unfold writesB at hk'
  generalize hg : b.good = g at hk'
  refine fnv (args := _) mixed [] [] [] Tryz.func27 rfl (by kernel_rfl) ?_
  conv => whnf
  refine new_intro (o := rowO 48 a.cs) (fun x h1 n_x le_x at_x ot_x => ?_)
  conv => whnf
  refine new_intro (o := rowO 51 b.cs) (fun y h2 n_y le_y at_y ot_y => ?_)
  conv => whnf
  have hle := Hp.le_trans le_x le_y
  have x2 := le_y _ _ at_x
  have lg : loadH Tryz.prog 4 h2 ((⟨y, 0, none⟩ : Addr).add 1) = some (.bool g) := by rw [← hg]; exact loadC (i := 1) aggBo at_y rfl
  have lk : loadH Tryz.prog 41 h2 ((⟨x, 0, none⟩ : Addr).add 0) = some (.int .i64 a.kind) := loadC (i := 0) aggKi x2 rfl
  generalize a.kind = k at *
  refine ⟨_, lk, ?_⟩
  conv => whnf
  refine bsel_intro (fun q1 => ?_) (fun q1 => ?_) <;> try simp only [decide_eq_true_eq, decide_eq_false_iff_not, beq_iff_eq, beq_eq_false_iff_ne, ne_eq, Bool.not_eq_true', Bool.not_eq_false', bne_iff_ne, bne_eq_false_iff_eq, Bool.not_eq_true, Bool.not_eq_false, Bool.and_eq_true, Bool.or_eq_true, bs_size] at q1
  · conv => whnf
    exact hk' _ _ (by simp [q1]) hle
  conv => whnf
  refine ⟨_, lk, ?_⟩
  conv => whnf
  refine bsel_intro (fun q2 => ?_) (fun q2 => ?_) <;> try simp only [decide_eq_true_eq, decide_eq_false_iff_not, beq_iff_eq, beq_eq_false_iff_ne, ne_eq, Bool.not_eq_true', Bool.not_eq_false', bne_iff_ne, bne_eq_false_iff_eq, Bool.not_eq_true, Bool.not_eq_false, Bool.and_eq_true, Bool.or_eq_true, bs_size] at q2
  · conv => whnf
    exact hk' _ _ (by simp [q2]) hle
  conv => whnf
  refine ⟨_, lg, ?_⟩
  conv => whnf
  cases g
  · conv => whnf
    exact hk' _ _ (by simp [q1, q2]) hle
  · conv => whnf
    refine ⟨_, lk, ?_⟩
    conv => whnf
    refine bsel_intro (fun q3 => ?_) (fun q3 => ?_) <;> try simp only [decide_eq_true_eq, decide_eq_false_iff_not, beq_iff_eq, beq_eq_false_iff_ne, ne_eq, Bool.not_eq_true', Bool.not_eq_false', bne_iff_ne, bne_eq_false_iff_eq, Bool.not_eq_true, Bool.not_eq_false, Bool.and_eq_true, Bool.or_eq_true, bs_size] at q3
    · conv => whnf
      exact hk' _ _ (by simp [q3]) hle
    conv => whnf
    refine ⟨_, lk, ?_⟩
    conv => whnf
    exact hk' _ _ (by rw [Bool.eq_iff_iff]; simp [q1, q2, q3]) hle
theorem ewrites_x (e : Ev) (hk : K (.bool (writesB e.ask e.ans)) h) : X Tryz.prog 20 #[.agg e.cs.toArray] h K := by
  refine X.forget ?_
  refine fnv (args := _) mixed [] [] [] Tryz.func20 rfl (by kernel_rfl) ?_
  conv => whnf
  refine new_intro (o := rowO 53 e.cs) (fun b h1 n_b le_b at_b ot_b => ?_)
  conv => whnf
  refine ⟨_, loadP (k := 1) (x := e.ask.cs) aggAk sizAk at_b rfl rfl, ?_⟩
  conv => whnf
  refine ⟨_, loadP (k := 20) (x := e.ans.cs) aggAn sizAn at_b rfl rfl, ?_⟩
  conv => whnf
  refine swrites_x e.ask e.ans ?_
  conv => whnf
  exact ⟨h, le_b, hk⟩
def timedB (e : Ev) : Bool := decide (0 ≤ e.from_ ∧ e.from_ ≤ e.at_ ∧ e.at_ ≤ e.to ∧ e.to ≤ 1000000000)
theorem timed_x (e : Ev) (hk : K (.bool (timedB e)) h) : X Tryz.prog 15 #[.agg e.cs.toArray] h K := by
  refine X.forget ?_
  have hk' : ∀ (h' : Hp) (t : Bool), t = timedB e → h.le h' → (∃ g : Hp, g.le h' ∧ K (.bool t) g) := fun h' t e hle => ⟨h, hle, e ▸ hk⟩
  clear hk
  unfold timedB at hk'
  refine fnv (args := _) mixed [] [] [] Tryz.func15 rfl (by kernel_rfl) ?_
  conv => whnf
  refine new_intro (o := rowO 53 e.cs) (fun b h1 n_b le_b at_b ot_b => ?_)
  conv => whnf
  refine ⟨_, loadC (i := 62) aggIn at_b rfl, ?_⟩
  conv => whnf
  refine bsel_intro (fun q1 => ?_) (fun q1 => ?_) <;> try simp only [decide_eq_true_eq, decide_eq_false_iff_not, beq_iff_eq, beq_eq_false_iff_ne, ne_eq, Bool.not_eq_true', Bool.not_eq_false', bne_iff_ne, bne_eq_false_iff_eq, Bool.not_eq_true, Bool.not_eq_false, Bool.and_eq_true, Bool.or_eq_true, bs_size] at q1
  · conv => whnf
    refine ⟨_, loadC (i := 62) aggIn at_b rfl, ?_⟩
    conv => whnf
    refine ⟨_, loadC (i := 63) aggIn at_b rfl, ?_⟩
    conv => whnf
    refine bsel_intro (fun q2 => ?_) (fun q2 => ?_) <;> try simp only [decide_eq_true_eq, decide_eq_false_iff_not, beq_iff_eq, beq_eq_false_iff_ne, ne_eq, Bool.not_eq_true', Bool.not_eq_false', bne_iff_ne, bne_eq_false_iff_eq, Bool.not_eq_true, Bool.not_eq_false, Bool.and_eq_true, Bool.or_eq_true, bs_size] at q2
    · conv => whnf
      refine ⟨_, loadC (i := 63) aggIn at_b rfl, ?_⟩
      conv => whnf
      refine ⟨_, loadC (i := 64) aggIn at_b rfl, ?_⟩
      conv => whnf
      refine bsel_intro (fun q3 => ?_) (fun q3 => ?_) <;> try simp only [decide_eq_true_eq, decide_eq_false_iff_not, beq_iff_eq, beq_eq_false_iff_ne, ne_eq, Bool.not_eq_true', Bool.not_eq_false', bne_iff_ne, bne_eq_false_iff_eq, Bool.not_eq_true, Bool.not_eq_false, Bool.and_eq_true, Bool.or_eq_true, bs_size] at q3
      · conv => whnf
        refine ⟨_, loadC (i := 64) aggIn at_b rfl, ?_⟩
        conv => whnf
        exact hk' _ _ (by rw [Bool.eq_iff_iff]; simp; omega) le_b
      · conv => whnf
        exact hk' _ _ (by rw [Bool.eq_iff_iff]; simp; omega) le_b
    · conv => whnf
      exact hk' _ _ (by rw [Bool.eq_iff_iff]; simp; omega) le_b
  · conv => whnf
    exact hk' _ _ (by rw [Bool.eq_iff_iff]; simp; omega) le_b
theorem rtimed_x (e : Ev) (hk : K (.bool (timedB e)) h) : X Tryz.prog 19 #[.agg e.cs.toArray] h K := by
  refine X.forget ?_
  have hk' : ∀ (h' : Hp) (t : Bool), t = timedB e → h.le h' → (∃ g : Hp, g.le h' ∧ K (.bool t) g) := fun h' t e hle => ⟨h, hle, e ▸ hk⟩
  clear hk
  unfold timedB at hk'
  refine fnv (args := _) mixed [] [] [] Tryz.func19 rfl (by kernel_rfl) ?_
  conv => whnf
  refine new_intro (o := rowO 53 e.cs) (fun b h1 n_b le_b at_b ot_b => ?_)
  conv => whnf
  refine ⟨_, loadC (i := 62) aggIn at_b rfl, ?_⟩
  conv => whnf
  refine bsel_intro (fun q1 => ?_) (fun q1 => ?_) <;> try simp only [decide_eq_true_eq, decide_eq_false_iff_not, beq_iff_eq, beq_eq_false_iff_ne, ne_eq, Bool.not_eq_true', Bool.not_eq_false', bne_iff_ne, bne_eq_false_iff_eq, Bool.not_eq_true, Bool.not_eq_false, Bool.and_eq_true, Bool.or_eq_true, bs_size] at q1
  · conv => whnf
    refine ⟨_, loadC (i := 62) aggIn at_b rfl, ?_⟩
    conv => whnf
    refine ⟨_, loadC (i := 63) aggIn at_b rfl, ?_⟩
    conv => whnf
    refine bsel_intro (fun q2 => ?_) (fun q2 => ?_) <;> try simp only [decide_eq_true_eq, decide_eq_false_iff_not, beq_iff_eq, beq_eq_false_iff_ne, ne_eq, Bool.not_eq_true', Bool.not_eq_false', bne_iff_ne, bne_eq_false_iff_eq, Bool.not_eq_true, Bool.not_eq_false, Bool.and_eq_true, Bool.or_eq_true, bs_size] at q2
    · conv => whnf
      refine ⟨_, loadC (i := 63) aggIn at_b rfl, ?_⟩
      conv => whnf
      refine ⟨_, loadC (i := 64) aggIn at_b rfl, ?_⟩
      conv => whnf
      refine bsel_intro (fun q3 => ?_) (fun q3 => ?_) <;> try simp only [decide_eq_true_eq, decide_eq_false_iff_not, beq_iff_eq, beq_eq_false_iff_ne, ne_eq, Bool.not_eq_true', Bool.not_eq_false', bne_iff_ne, bne_eq_false_iff_eq, Bool.not_eq_true, Bool.not_eq_false, Bool.and_eq_true, Bool.or_eq_true, bs_size] at q3
      · conv => whnf
        refine ⟨_, loadC (i := 64) aggIn at_b rfl, ?_⟩
        conv => whnf
        exact hk' _ _ (by rw [Bool.eq_iff_iff]; simp; omega) le_b
      · conv => whnf
        exact hk' _ _ (by rw [Bool.eq_iff_iff]; simp; omega) le_b
    · conv => whnf
      exact hk' _ _ (by rw [Bool.eq_iff_iff]; simp; omega) le_b
  · conv => whnf
    exact hk' _ _ (by rw [Bool.eq_iff_iff]; simp; omega) le_b
/-- s reads the numbers L. -/
abbrev RdU (h : Hp) (s : Value) (L : List Nat) : Prop := Rd Tryz.prog 23 1 h s (L.map uv)
theorem rdU {s : Value} {L : List Nat} (r : RdU h s L) : ∃ base cap, s = .slice base L.length cap ∧ ∀ (i x : Nat), L[i]? = some x → ∃ a, base = some a ∧ loadH Tryz.prog 23 h (a.add (((i : Int)).toNat * 1)) = some (uv x) := by
  obtain ⟨base, cap, e, f⟩ := r
  refine ⟨base, cap, by rw [e]; simp, fun i x hx => ?_⟩
  rw [Int.toNat_natCast]
  exact f i _ (by rw [List.getElem?_map, hx]; rfl)
theorem linesA_len (a : Ak) (ha : a.ok) : (linesA a).length ≤ 8 := by
  unfold linesA
  split
  · rename_i hh
    obtain ⟨m1, m2, m3, m4⟩ := (mayB_iff a).1 hh.2
    have := dl_len_le ((List.range a.size.toNat).map fun i => byteN a.addr a.next a.cut i / 64)
    rw [List.length_map, List.length_range] at this
    unfold accL
    omega
  · simp
theorem mem_at {L : List Nat} {v : Nat} (h : ∀ j x, j < L.length → L[j]? = some x → x ≠ v) : v ∉ L := fun hm => by
  obtain ⟨j, hj, e⟩ := List.getElem_of_mem hm
  exact h j v hj (by rw [List.getElem?_eq_getElem hj, e]) rfl
theorem touches_x (a : Ak) (ha : a.ok) (n : Nat) (hk : K (.bool (decide (n ∈ linesA a))) h) : X Tryz.prog 26 #[.agg a.cs.toArray, uv n] h K := by
  refine X.forget ?_
  have hk' : ∀ h' : Hp, h.le h' → (∃ g : Hp, g.le h' ∧ K (.bool (decide (n ∈ linesA a))) g) := fun h' hle => ⟨h, hle, hk⟩
  clear hk
  have hl := linesA_len a ha
  refine fnv (args := _) mixed [] [] [] Tryz.func26 rfl (by kernel_rfl) ?_
  conv => whnf
  refine new_intro (o := rowO 48 a.cs) (fun b h1 n_b le_b at_b ot_b => ?_)
  conv => whnf
  refine ⟨_, loadA0 aggAk sizAk at_b rfl, ?_⟩
  conv => whnf
  refine rlines_x a ha fun s h2 hO => ?_
  obtain ⟨base, cap, rfl, f⟩ := rdU (hO.rd aggU)
  have hle := Hp.le_trans le_b hO.le
  generalize linesA a = L at *
  conv => whnf
  refine loop_at [6] [] (fun r vs cs h' => h2 = h' ∧ ∃ i : Nat, i ≤ L.length ∧ r = L.length - i ∧ vs = [.v (.int .i64 i)] ∧ ∀ j x, j < i → L[j]? = some x → x ≠ n) L.length ⟨rfl, 0, by omega, by omega, rfl, fun j x hj => by omega⟩ ?_
  rintro r vs cs mm bx _ ⟨rfl, i, hi, rfl, rfl, hg⟩
  conv => whnf
  refine bsel_intro (fun q1 => ?_) (fun q1 => ?_) <;> try simp only [decide_eq_true_eq, decide_eq_false_iff_not, beq_iff_eq, beq_eq_false_iff_ne, ne_eq, Bool.not_eq_true', Bool.not_eq_false', bne_iff_ne, bne_eq_false_iff_eq, Bool.not_eq_true, Bool.not_eq_false, Bool.and_eq_true, Bool.or_eq_true, bs_size] at q1
  · have hiL : i < L.length := by omega
    obtain ⟨x, hx⟩ : ∃ x, L[i]? = some x := ⟨_, List.getElem?_eq_getElem hiL⟩
    obtain ⟨a3, rfl, e2⟩ := f i x hx
    conv => whnf
    first | refine need_intro (⟨by omega, by omega⟩) ?_ | refine must.mk (⟨by omega, by omega⟩) ?_
    conv => whnf
    refine ⟨_, e2, ?_⟩
    conv => whnf
    refine bsel_intro (fun q2 => ?_) (fun q2 => ?_) <;> try simp only [decide_eq_true_eq, decide_eq_false_iff_not, beq_iff_eq, beq_eq_false_iff_ne, ne_eq, Bool.not_eq_true', Bool.not_eq_false', bne_iff_ne, bne_eq_false_iff_eq, Bool.not_eq_true, Bool.not_eq_false, Bool.and_eq_true, Bool.or_eq_true, bs_size] at q2
    · have hxn : x = n := by omega
      rw [decide_eq_true (hxn ▸ List.mem_of_getElem? hx)] at hk'
      conv => whnf
      exact hk' _ hle
    · conv => whnf
      first | refine ov_i64 (by omega) ?_ | refine ov_u64 (by omega) ?_ | refine ov_i64 (by decide) ?_ | refine ov_u64 (by decide) ?_ | refine ov_u8 (by omega) ?_ | refine ov_i32 (by omega) ?_ | refine ov_u32 (by omega) ?_
      conv => whnf
      refine ⟨L.length - (i + 1), by omega, rfl, i + 1, by omega, rfl, rfl, fun j y hj hy => ?_⟩
      by_cases e : j = i
      · subst e; rw [hx] at hy; cases hy; omega
      · exact hg j y (by omega) hy
  · rw [decide_eq_false (mem_at fun j x hj hx => hg j x (by omega) hx)] at hk'
    conv => whnf
    exact hk' _ hle
end
end Go.Proofs.YtcmhfofmloiaiaaGreatDoor
