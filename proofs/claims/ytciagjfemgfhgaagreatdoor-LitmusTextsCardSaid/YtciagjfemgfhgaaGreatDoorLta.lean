/-
  Tests of threads: data; whether a test may be.
-/
import Derived.Test.YtciagjfemgfhgaaGreatDoorMidMO
import Derived.Test.YtciagjfemgfhgaaGreatDoorLib0
/-! Tests of threads: data; whether a test may be. -/
namespace Go.Proofs.YtciagjfemgfhgaaGreatDoor
set_option linter.unusedSimpArgs false
set_option linter.unusedVariables false
open Go Go.Mid Go.RowKit
abbrev rfXLta0 : Go.Mid.RF := [(1, 1), (5, 1), (9, 1), (13, 1), (17, 1), (22, 1), (27, 1), (32, 1), (37, 1), (42, 1), (50, 1), (58, 1)]
abbrev rfXLta1 : Go.Mid.RF := [(1, 1), (10, 1), (15, 1), (20, 1), (31, 1), (8, 8)]
abbrev rfXLta2 : Go.Mid.RF := [(6, 6), (49, 6), (53, 6), (57, 6), (61, 6), (66, 6), (71, 6), (76, 6), (81, 6), (85, 6), (90, 6), (95, 6), (100, 6)]
abbrev rfXLta3 : Go.Mid.RF := [(5, 5), (17, 5), (23, 5), (27, 5), (33, 5), (58, 5), (70, 5), (82, 5), (95, 5), (41, 5), (48, 5)]
attribute [local irreducible] mid
abbrev zv (x : Int) : Value := .int .i64 x
abbrev uv (n : Nat) : Value := .int .u64 n
/-- A deed. -/
structure Dd where
  what : Int
  reg : Int
  vr : Int
  n : Int
def Dd.cs (d : Dd) : List Value := [zv d.what, zv d.reg, zv d.vr, zv d.n]
structure Dd.ok (d : Dd) : Prop where
  w0 : -9223372036854775808 ≤ d.what
  w1 : d.what ≤ 9223372036854775807
  r0 : -9223372036854775808 ≤ d.reg
  r1 : d.reg ≤ 9223372036854775807
  v0 : -9223372036854775808 ≤ d.vr
  v1 : d.vr ≤ 9223372036854775807
  n0 : -9223372036854775808 ≤ d.n
  n1 : d.n ≤ 9223372036854775807
/-- A thread: where its deeds lie, and which they are. -/
structure Th where
  a : Option Addr
  c : Nat
  L : List Dd
abbrev Th.v (p : Th) : Value := .slice p.a p.L.length p.c
def numB (w : Int) : Bool := decide (w = 1 ∨ w = 3 ∨ w = 4 ∨ w = 6)
def deedE (d : Dd) : Int := if d.what < 1 ∨ 6 < d.what then 1 else if d.reg < 0 ∨ 3 < d.reg ∨ d.vr < 0 ∨ 3 < d.vr ∨ d.n < 0 ∨ 255 < d.n then 3 else if (d.what = 1 ∧ d.reg ≠ 0) ∨ (numB d.what = false ∧ d.n ≠ 0) then 2 else 0
def firstE : List Dd → Int
  | [] => 0
  | d :: r => if deedE d ≠ 0 then deedE d else firstE r
theorem firstE_cons (d : Dd) (r : List Dd) : firstE (d :: r) = if deedE d ≠ 0 then deedE d else firstE r := rfl
def longB (T : List (List Dd)) : Bool := T.any fun L => decide (5 < L.length)
def chk (T : List (List Dd)) : Int := if T.length < 1 ∨ 3 < T.length then 1 else if longB T = true then 4 else firstE T.flatten
section
set_option maxHeartbeats 8000000
set_option maxRecDepth 10000
variable {h : Hp} {K : Value → Hp → Prop}
/-- v reads the threads Ts. -/
def RdT (tsl td : TypeId) (h : Hp) (v : Value) (Ts : List Th) : Prop := ∃ base cap, v = .slice base Ts.length cap ∧ (∀ (i : Nat) (p : Th), Ts[i]? = some p → ∃ b, base = some b ∧ loadH Tryz.prog tsl h (b.add (((i : Nat) : Int).toNat * 1)) = some p.v) ∧
  ∀ p ∈ Ts, ∀ (j : Nat) (d : Dd), p.L[j]? = some d → ∃ b, p.a = some b ∧ loadH Tryz.prog td h (b.add (((j : Nat) : Int).toNat * 4)) = some (.agg d.cs.toArray)
theorem RdT.le {tsl td : TypeId} {h h' : Hp} {v : Value} {Ts : List Th} (r : RdT tsl td h v Ts) (hle : h.le h') : RdT tsl td h' v Ts := by
  obtain ⟨b, c, e, f, g⟩ := r
  exact ⟨b, c, e, fun i p hp => by obtain ⟨a, e1, e2⟩ := f i p hp; exact ⟨a, e1, loadH_le hle e2⟩, fun p hp j d hd => by obtain ⟨a, e1, e2⟩ := g p hp j d hd; exact ⟨a, e1, loadH_le hle e2⟩⟩
abbrev RdP (h : Hp) (v : Value) (Ts : List Th) : Prop := RdT 41 56 h v Ts
abbrev RdR (h : Hp) (v : Value) (Ts : List Th) : Prop := RdT 64 66 h v Ts
theorem uses_x (w : Int) (hk : K (.tuple #[.bool (decide (w ≠ 1)), .bool (numB w)]) h) : X Tryz.prog 38 #[zv w] h K := by
  unfold numB at hk
  have hk' : ∀ a b : Bool, a = decide (w ≠ 1) → b = decide (w = 1 ∨ w = 3 ∨ w = 4 ∨ w = 6) → K (.tuple #[.bool a, .bool b]) h := fun a b e1 e2 => by subst e1 e2; exact hk
  clear hk
  refine fnv (args := _) mixed [] [] [] Tryz.func38 rfl (by kernel_rfl) ?_; conv => whnf
  repeat' first
    | (refine need_intro (by omega) ?_; conv => whnf)
    | ((first | refine ov_i64 (by omega) ?_ | refine ov_u64 (by omega) ?_ | refine ov_i64 (by decide) ?_ | refine ov_u64 (by decide) ?_ | refine ov_u8 (by omega) ?_ | refine ov_i32 (by omega) ?_ | refine ov_u32 (by omega) ?_); conv => whnf)
    | (refine ⟨trivial, ?_⟩; conv => whnf)
    | (refine bsel_intro (fun hq => ?_) (fun hq => ?_) <;> (try simp only [decide_eq_true_eq, decide_eq_false_iff_not, beq_iff_eq, beq_eq_false_iff_ne, ne_eq, Bool.not_eq_true', Bool.not_eq_false', bne_iff_ne, bne_eq_false_iff_eq, Bool.not_eq_true, Bool.not_eq_false, Bool.and_eq_true, Bool.or_eq_true, bs_size] at hq) <;> conv => whnf)
  all_goals exact hk' _ _ (by rw [Bool.eq_iff_iff]; simp; try omega) (by rw [Bool.eq_iff_iff]; simp; omega)
theorem reg_x (w : Int) (hk : K (.bool (decide (w ≠ 1))) h) : X Tryz.prog 23 #[zv w] h K := by
  refine fnv (args := _) mixed [] [] [] Tryz.func23 rfl (by kernel_rfl) ?_; conv => whnf
  exact kq hk (bI (by rw [Bool.eq_iff_iff]; simp))
theorem num_x (w : Int) (hk : K (.bool (numB w)) h) : X Tryz.prog 24 #[zv w] h K := by
  unfold numB at hk
  refine fnv (args := _) mixed [] [] [] Tryz.func24 rfl (by kernel_rfl) ?_; conv => whnf
  repeat' first
    | (refine need_intro (by omega) ?_; conv => whnf)
    | ((first | refine ov_i64 (by omega) ?_ | refine ov_u64 (by omega) ?_ | refine ov_i64 (by decide) ?_ | refine ov_u64 (by decide) ?_ | refine ov_u8 (by omega) ?_ | refine ov_i32 (by omega) ?_ | refine ov_u32 (by omega) ?_); conv => whnf)
    | (refine ⟨trivial, ?_⟩; conv => whnf)
    | (refine bsel_intro (fun hq => ?_) (fun hq => ?_) <;> (try simp only [decide_eq_true_eq, decide_eq_false_iff_not, beq_iff_eq, beq_eq_false_iff_ne, ne_eq, Bool.not_eq_true', Bool.not_eq_false', bne_iff_ne, bne_eq_false_iff_eq, Bool.not_eq_true, Bool.not_eq_false, Bool.and_eq_true, Bool.or_eq_true, bs_size] at hq) <;> conv => whnf)
  all_goals exact kq hk (bI (by rw [Bool.eq_iff_iff]; simp; omega))
theorem deed_x (d : Dd) (hk : K (zv (deedE d)) h) : X Tryz.prog 22 #[.agg d.cs.toArray] h K := by
  have hk' : ∀ e : Int, e = deedE d → K (zv e) h := fun e h => h ▸ hk
  clear hk
  unfold deedE at hk'
  refine fnv (args := _) mixed rfXLta0 [] [] Tryz.func22 rfl (by kernel_rfl) ?_; conv => whnf
  repeat' first
    | (refine need_intro (by omega) ?_; conv => whnf)
    | (refine uses_x d.what ?_; conv => whnf)
    | ((first | refine ov_i64 (by omega) ?_ | refine ov_u64 (by omega) ?_ | refine ov_i64 (by decide) ?_ | refine ov_u64 (by decide) ?_ | refine ov_u8 (by omega) ?_ | refine ov_i32 (by omega) ?_ | refine ov_u32 (by omega) ?_); conv => whnf)
    | (refine ⟨trivial, ?_⟩; conv => whnf)
    | (refine bsel_intro (fun hq => ?_) (fun hq => ?_) <;> (try simp only [decide_eq_true_eq, decide_eq_false_iff_not, beq_iff_eq, beq_eq_false_iff_ne, ne_eq, Bool.not_eq_true', Bool.not_eq_false', bne_iff_ne, bne_eq_false_iff_eq, Bool.not_eq_true, Bool.not_eq_false, Bool.and_eq_true, Bool.or_eq_true, bs_size] at hq) <;> conv => whnf)
  all_goals exact hk' _ (by (repeat' split) <;> simp_all <;> omega)
/-- What is left to be looked at, at a thread's deed. -/
def restL (Ts : List Th) (i k : Nat) : List Dd := ((Ts[i]?).map fun p => p.L.drop k).getD [] ++ ((Ts.drop (i + 1)).map (·.L)).flatten
def restT (Ts : List Th) (i : Nat) : List Dd := ((Ts.drop i).map (·.L)).flatten
theorem restT_at {Ts : List Th} {i : Nat} {p : Th} (h : Ts[i]? = some p) : restT Ts i = restL Ts i 0 := by
  unfold restT restL
  have hlt := (List.getElem?_eq_some_iff.1 h).1
  have he : Ts[i] = p := (List.getElem?_eq_some_iff.1 h).2
  rw [List.drop_eq_getElem_cons hlt, he, h]
  rfl
theorem restL_at {Ts : List Th} {i k : Nat} {p : Th} {d : Dd} (h : Ts[i]? = some p) (hd : p.L[k]? = some d) : restL Ts i k = d :: restL Ts i (k + 1) := by
  unfold restL
  have hlt := (List.getElem?_eq_some_iff.1 hd).1
  have he : p.L[k] = d := (List.getElem?_eq_some_iff.1 hd).2
  rw [h]
  simp only [Option.map_some, Option.getD_some]
  rw [List.drop_eq_getElem_cons hlt, he]
  rfl
theorem restL_end {Ts : List Th} {i : Nat} {p : Th} (h : Ts[i]? = some p) : restL Ts i p.L.length = restT Ts (i + 1) := by
  unfold restL restT
  rw [h]
  simp
theorem chk_len {Ts : List Th} (h : Ts.length < 1 ∨ 3 < Ts.length) : chk (Ts.map (·.L)) = 1 := by unfold chk; rw [List.length_map, if_pos h]
theorem chk_long {Ts : List Th} (h : ¬ (Ts.length < 1 ∨ 3 < Ts.length)) {i : Nat} {p : Th} (hp : Ts[i]? = some p) (h5 : 5 < p.L.length) : chk (Ts.map (·.L)) = 4 := by
  unfold chk
  rw [List.length_map, if_neg h, if_pos]
  unfold longB
  rw [List.any_eq_true]
  exact ⟨p.L, List.mem_map.2 ⟨p, List.mem_of_getElem? hp, rfl⟩, by simpa using h5⟩
theorem chk_fit {Ts : List Th} (h : ¬ (Ts.length < 1 ∨ 3 < Ts.length)) (h5 : ∀ (i : Nat) (p : Th), Ts[i]? = some p → p.L.length ≤ 5) : chk (Ts.map (·.L)) = firstE (restT Ts 0) := by
  unfold chk
  rw [List.length_map, if_neg h, if_neg]
  · rfl
  · unfold longB
    rw [Bool.not_eq_true, List.any_eq_false]
    intro L hL
    obtain ⟨p, hp, rfl⟩ := List.mem_map.1 hL
    obtain ⟨i, hi, rfl⟩ := List.mem_iff_getElem.1 hp
    have := h5 i Ts[i] (List.getElem?_eq_getElem hi)
    simp only [decide_eq_true_eq]
    omega
theorem aggTs : isAggT Tryz.prog 22 = some false := by kernel_rfl
theorem aggDl : isAggT Tryz.prog 41 = some false := by kernel_rfl
theorem check_x (v : Value) (Ts : List Th) (hr : RdP h v Ts) (hk : K (zv (chk (Ts.map (·.L)))) h) : X Tryz.prog 9 #[.agg #[v]] h K := by
  obtain ⟨base, cap, rfl, f, g⟩ := hr
  refine fnv (args := _) mixed rfXLta1 [] [] Tryz.func9 rfl (by kernel_rfl) ?_; conv => whnf
  refine bsel_intro (fun q1 => ?_) (fun q1 => ?_) <;> try simp only [bsL] at q1
  · rw [chk_len (by omega)] at hk
    conv => whnf
    exact hk
  conv => whnf
  refine bsel_intro (fun q2 => ?_) (fun q2 => ?_) <;> try simp only [bsL] at q2
  · rw [chk_len (by omega)] at hk
    conv => whnf
    exact hk
  have hlen : ¬ (Ts.length < 1 ∨ 3 < Ts.length) := by omega
  conv => whnf
  refine loop_at [23] [1] (fun r vs cs h' => h = h' ∧ cs = [some [.slice base Ts.length cap]] ∧ ∃ i : Nat, i ≤ Ts.length ∧ r = Ts.length - i ∧ vs = [.v (zv i)] ∧ ∀ (j : Nat) (p : Th), j < i → Ts[j]? = some p → p.L.length ≤ 5) Ts.length ⟨rfl, rfl, 0, by omega, by omega, rfl, fun j p hj => by omega⟩ ?_
  rintro r vs cs mm bx _ ⟨rfl, rfl, i, hi, rfl, rfl, h5⟩
  conv => whnf
  refine bsel_intro (fun q3 => ?_) (fun q3 => ?_) <;> try simp only [bsL] at q3
  · have hiT : i < Ts.length := by omega
    obtain ⟨p, hp⟩ : ∃ p, Ts[i]? = some p := ⟨_, List.getElem?_eq_getElem hiT⟩
    obtain ⟨b1, rfl, l1⟩ := f i p hp
    conv => whnf
    (first | refine need_intro (⟨by omega, by omega⟩) ?_ | refine must.mk (⟨by omega, by omega⟩) ?_); conv => whnf
    refine ⟨_, l1, ?_⟩; conv => whnf
    refine bsel_intro (fun q4 => ?_) (fun q4 => ?_) <;> try simp only [bsL] at q4
    · rw [chk_long hlen hp (by omega)] at hk
      conv => whnf
      exact hk
    · conv => whnf
      (first | refine ov_c (by simp only [loK, hiK]; omega) ?_ | refine ov_c (by decide) ?_); conv => whnf
      refine ⟨Ts.length - (i + 1), by omega, rfl, rfl, i + 1, by omega, rfl, rfl, fun j z hj hz => ?_⟩
      by_cases e : j = i
      · subst e; rw [hp] at hz; cases hz; omega
      · exact h5 j z (by omega) hz
  have hin : i = Ts.length := by omega
  subst hin
  have h5b : ∀ (i : Nat) (p : Th), Ts[i]? = some p → p.L.length ≤ 5 := fun i p hp => h5 i p (List.getElem?_eq_some_iff.1 hp).1 hp
  rw [chk_fit hlen h5b] at hk
  clear h5
  conv => whnf
  refine loop_at [34] [1] (fun r vs cs h' => h = h' ∧ cs = [some [.slice base Ts.length cap]] ∧ ∃ i : Nat, i ≤ Ts.length ∧ r = Ts.length - i ∧ vs = [.v (zv i)] ∧ firstE (restT Ts i) = firstE (restT Ts 0)) Ts.length ⟨rfl, rfl, 0, by omega, by omega, rfl, rfl⟩ ?_
  rintro r vs cs mm bx _ ⟨rfl, rfl, i, hi, rfl, rfl, he⟩
  conv => whnf
  refine bsel_intro (fun q5 => ?_) (fun q5 => ?_) <;> try simp only [bsL] at q5
  · have hiT : i < Ts.length := by omega
    obtain ⟨⟨pa, pc, pL⟩, hp⟩ : ∃ p, Ts[i]? = some p := ⟨_, List.getElem?_eq_getElem hiT⟩
    obtain ⟨b1, rfl, l1⟩ := f i _ hp
    have g1 := g _ (List.mem_of_getElem? hp)
    have h5p := h5b i _ hp
    simp only [] at g1 h5p
    rw [restT_at hp] at he
    conv => whnf
    (first | refine need_intro (⟨by omega, by omega⟩) ?_ | refine must.mk (⟨by omega, by omega⟩) ?_); conv => whnf
    refine ⟨_, l1, ?_⟩; conv => whnf
    refine loop_at [40] [1] (fun r vs cs h' => h = h' ∧ cs = [some [.slice (some b1) Ts.length cap]] ∧ ∃ k : Nat, k ≤ pL.length ∧ r = pL.length - k ∧ vs = [.v (zv k)] ∧ firstE (restL Ts i k) = firstE (restT Ts 0)) pL.length ⟨rfl, rfl, 0, by omega, by omega, rfl, he⟩ ?_
    rintro r vs cs mm bx _ ⟨rfl, rfl, k, hk1, rfl, rfl, hek⟩
    conv => whnf
    refine bsel_intro (fun q6 => ?_) (fun q6 => ?_) <;> try simp only [bsL] at q6
    · have hkL : k < pL.length := by omega
      obtain ⟨d, hd⟩ : ∃ d, pL[k]? = some d := ⟨_, List.getElem?_eq_getElem hkL⟩
      obtain ⟨b2, rfl, l2⟩ := g1 k d hd
      rw [restL_at (p := ⟨_, pc, pL⟩) hp hd] at hek
      rw [firstE_cons] at hek
      conv => whnf
      (first | refine need_intro (⟨by omega, by omega⟩) ?_ | refine must.mk (⟨by omega, by omega⟩) ?_); conv => whnf
      refine ⟨_, l2, ?_⟩; conv => whnf
      refine deed_x d ?_
      conv => whnf
      refine bsel_intro (fun q7 => ?_) (fun q7 => ?_) <;> try simp only [bsL] at q7
      · rw [if_pos q7] at hek
        rw [← hek] at hk
        conv => whnf
        exact hk
      · rw [if_neg (fun hh => hh (by omega))] at hek
        conv => whnf
        (first | refine ov_c (by simp only [loK, hiK]; omega) ?_ | refine ov_c (by decide) ?_); conv => whnf
        exact ⟨pL.length - (k + 1), by omega, rfl, rfl, k + 1, by omega, rfl, rfl, hek⟩
    · have hkn : k = pL.length := by omega
      subst hkn
      have := restL_end hp
      simp only [] at this
      rw [this] at hek
      conv => whnf
      (first | refine ov_c (by simp only [loK, hiK]; omega) ?_ | refine ov_c (by decide) ?_); conv => whnf
      exact ⟨Ts.length - (i + 1), by omega, rfl, rfl, i + 1, by omega, rfl, rfl, hek⟩
  · have hin : i = Ts.length := by omega
    have h0 : firstE (restT Ts i) = 0 := by unfold restT; rw [hin, List.drop_length]; rfl
    rw [← he, h0] at hk
    conv => whnf
    exact hk
end
end Go.Proofs.YtciagjfemgfhgaaGreatDoor
/-! Tests of threads: the document's check; a test as the document's. -/
namespace Go.Proofs.YtciagjfemgfhgaaGreatDoor
set_option linter.unusedSimpArgs false
set_option linter.unusedVariables false
open Go Go.Mid Go.RowKit
attribute [local irreducible] mid
section
set_option maxHeartbeats 8000000
set_option maxRecDepth 10000
variable {h : Hp} {K : Value → Hp → Prop}
theorem rcheck_x (v : Value) (Ts : List Th) (hr : RdR h v Ts) (hk : K (zv (chk (Ts.map (·.L)))) h) : X Tryz.prog 10 #[v] h K := by
  obtain ⟨base, cap, rfl, f, g⟩ := hr
  refine fnv (args := _) mixed rfXLta2 [] [] Tryz.func10 rfl (by kernel_rfl) ?_; conv => whnf
  refine bsel_intro (fun q1 => ?_) (fun q1 => ?_) <;> try simp only [bsL] at q1
  · rw [chk_len (by omega)] at hk
    conv => whnf
    exact hk
  conv => whnf
  refine bsel_intro (fun q2 => ?_) (fun q2 => ?_) <;> try simp only [bsL] at q2
  · rw [chk_len (by omega)] at hk
    conv => whnf
    exact hk
  have hlen : ¬ (Ts.length < 1 ∨ 3 < Ts.length) := by omega
  conv => whnf
  refine loop_at [3] [] (fun r vs cs h' => h = h' ∧ ∃ i : Nat, i ≤ Ts.length ∧ r = Ts.length - i ∧ vs = [.v (zv i)] ∧ ∀ (j : Nat) (p : Th), j < i → Ts[j]? = some p → p.L.length ≤ 5) Ts.length ⟨rfl, 0, by omega, by omega, rfl, fun j p hj => by omega⟩ ?_
  rintro r vs cs mm bx _ ⟨rfl, i, hi, rfl, rfl, h5⟩
  conv => whnf
  refine bsel_intro (fun q3 => ?_) (fun q3 => ?_) <;> try simp only [bsL] at q3
  · have hiT : i < Ts.length := by omega
    obtain ⟨p, hp⟩ : ∃ p, Ts[i]? = some p := ⟨_, List.getElem?_eq_getElem hiT⟩
    obtain ⟨b1, rfl, l1⟩ := f i p hp
    conv => whnf
    (first | refine need_intro (⟨by omega, by omega⟩) ?_ | refine must.mk (⟨by omega, by omega⟩) ?_); conv => whnf
    refine ⟨_, l1, ?_⟩; conv => whnf
    refine bsel_intro (fun q4 => ?_) (fun q4 => ?_) <;> try simp only [bsL] at q4
    · rw [chk_long hlen hp (by omega)] at hk
      conv => whnf
      exact hk
    · conv => whnf
      (first | refine ov_c (by simp only [loK, hiK]; omega) ?_ | refine ov_c (by decide) ?_); conv => whnf
      refine ⟨Ts.length - (i + 1), by omega, rfl, i + 1, by omega, rfl, rfl, fun j z hj hz => ?_⟩
      by_cases e : j = i
      · subst e; rw [hp] at hz; cases hz; omega
      · exact h5 j z (by omega) hz
  have hin : i = Ts.length := by omega
  subst hin
  have h5b : ∀ (i : Nat) (p : Th), Ts[i]? = some p → p.L.length ≤ 5 := fun i p hp => h5 i p (List.getElem?_eq_some_iff.1 hp).1 hp
  rw [chk_fit hlen h5b] at hk
  clear h5
  conv => whnf
  refine loop_at [4] [] (fun r vs cs h' => h = h' ∧ ∃ i : Nat, i ≤ Ts.length ∧ r = Ts.length - i ∧ vs = [.v (zv i)] ∧ firstE (restT Ts i) = firstE (restT Ts 0)) Ts.length ⟨rfl, 0, by omega, by omega, rfl, rfl⟩ ?_
  rintro r vs cs mm bx _ ⟨rfl, i, hi, rfl, rfl, he⟩
  conv => whnf
  refine bsel_intro (fun q5 => ?_) (fun q5 => ?_) <;> try simp only [bsL] at q5
  · have hiT : i < Ts.length := by omega
    obtain ⟨⟨pa, pc, pL⟩, hp⟩ : ∃ p, Ts[i]? = some p := ⟨_, List.getElem?_eq_getElem hiT⟩
    obtain ⟨b1, rfl, l1⟩ := f i _ hp
    have g1 := g _ (List.mem_of_getElem? hp)
    have h5p := h5b i _ hp
    simp only [] at g1 h5p
    rw [restT_at hp] at he
    conv => whnf
    refine loop_at [5] [] (fun r vs cs h' => h = h' ∧ ∃ k : Nat, k ≤ pL.length ∧ r = pL.length - k ∧ vs = [.v (zv k)] ∧ firstE (restL Ts i k) = firstE (restT Ts 0)) pL.length ⟨rfl, 0, by omega, by omega, rfl, he⟩ ?_
    rintro r vs cs mm bx _ ⟨rfl, k, hk1, rfl, rfl, hek⟩
    conv => whnf
    (first | refine need_intro (⟨by omega, by omega⟩) ?_ | refine must.mk (⟨by omega, by omega⟩) ?_); conv => whnf
    refine ⟨_, l1, ?_⟩; conv => whnf
    refine bsel_intro (fun q6 => ?_) (fun q6 => ?_) <;> try simp only [bsL] at q6
    · have hkL : k < pL.length := by omega
      obtain ⟨d, hd⟩ : ∃ d, pL[k]? = some d := ⟨_, List.getElem?_eq_getElem hkL⟩
      obtain ⟨b2, rfl, l2⟩ := g1 k d hd
      rw [restL_at (p := ⟨_, pc, pL⟩) hp hd, firstE_cons] at hek
      have hno : ∀ e : Int, e = deedE d → e ≠ 0 → K (zv e) h := fun e h1 h2 => by
        subst h1
        rw [if_pos h2] at hek
        rw [hek]; exact hk
      have hyes : deedE d = 0 → ∃ n', n' < pL.length - k ∧ (h = h ∧ ∃ k' : Nat, k' ≤ pL.length ∧ n' = pL.length - k' ∧ [MV.v (zv ((k : Int) + 1))] = [MV.v (zv k')] ∧ firstE (restL Ts i k') = firstE (restT Ts 0)) := fun h1 => by
        rw [if_neg (fun hh => hh h1)] at hek
        exact ⟨pL.length - (k + 1), by omega, rfl, k + 1, by omega, rfl, rfl, hek⟩
      clear hk hek he
      unfold deedE at hno hyes
      conv => whnf
      (first | refine need_intro (⟨by omega, by omega⟩) ?_ | refine must.mk (⟨by omega, by omega⟩) ?_); conv => whnf
      refine ⟨_, l1, ?_⟩; conv => whnf
      (first | refine need_intro (⟨by omega, by omega⟩) ?_ | refine must.mk (⟨by omega, by omega⟩) ?_); conv => whnf
      refine ⟨_, l2, ?_⟩; conv => whnf
      repeat' first
        | (refine need_intro (by omega) ?_; conv => whnf)
        | (refine reg_x d.what ?_; conv => whnf)
        | (refine num_x d.what ?_; conv => whnf)
        | ((first | refine ov_i64 (by omega) ?_ | refine ov_u64 (by omega) ?_ | refine ov_i64 (by decide) ?_ | refine ov_u64 (by decide) ?_ | refine ov_u8 (by omega) ?_ | refine ov_i32 (by omega) ?_ | refine ov_u32 (by omega) ?_); conv => whnf)
        | (refine ⟨trivial, ?_⟩; conv => whnf)
        | (refine bsel_intro (fun hq => ?_) (fun hq => ?_) <;> (try simp only [decide_eq_true_eq, decide_eq_false_iff_not, beq_iff_eq, beq_eq_false_iff_ne, ne_eq, Bool.not_eq_true', Bool.not_eq_false', bne_iff_ne, bne_eq_false_iff_eq, Bool.not_eq_true, Bool.not_eq_false, Bool.and_eq_true, Bool.or_eq_true, bs_size] at hq) <;> conv => whnf)
      all_goals first
        | exact hno _ (by (repeat' split) <;> simp_all <;> omega) (by decide)
        | exact hyes (by (repeat' split) <;> simp_all <;> omega)
    · have hkn : k = pL.length := by omega
      subst hkn
      have := restL_end hp
      simp only [] at this
      rw [this] at hek
      conv => whnf
      (first | refine ov_c (by simp only [loK, hiK]; omega) ?_ | refine ov_c (by decide) ?_); conv => whnf
      exact ⟨Ts.length - (i + 1), by omega, rfl, i + 1, by omega, rfl, rfl, hek⟩
  · have hin : i = Ts.length := by omega
    have h0 : firstE (restT Ts i) = 0 := by unfold restT; rw [hin, List.drop_length]; rfl
    rw [← he, h0] at hk
    conv => whnf
    exact hk
def sumL (Ts : List Th) (m : Nat) : Nat := ((Ts.take m).map fun p => p.L.length).sum
theorem sumL_succ {Ts : List Th} {m : Nat} {p : Th} (h : Ts[m]? = some p) : sumL Ts (m + 1) = sumL Ts m + p.L.length := by
  unfold sumL
  rw [List.take_add_one, h]
  simp
theorem sumL_mono {Ts : List Th} {m n : Nat} (h : m ≤ n) : sumL Ts m ≤ sumL Ts n := by
  unfold sumL
  obtain ⟨k, rfl⟩ := Nat.exists_eq_add_of_le h
  rw [List.take_add]
  simp
def fewB (Ts : List Th) : Bool := decide (Ts.length < 10 ∧ sumL Ts Ts.length ≤ 9)
theorem few_x (v : Value) (Ts : List Th) (hr : RdP h v Ts) (hmx : ∀ p ∈ Ts, p.L.length ≤ 2 ^ 62) (hk : K (.bool (fewB Ts)) h) : X Tryz.prog 4 #[.agg #[v]] h K := by
  obtain ⟨base, cap, rfl, f, g⟩ := hr
  have hk' : ∀ b : Bool, b = fewB Ts → K (.bool b) h := fun b e => e ▸ hk
  clear hk
  refine fnv (args := _) mixed [(1, 1), (6, 1), (17, 1), (26, 1)] [] [] Tryz.func4 rfl (by kernel_rfl) ?_; conv => whnf
  refine loop_at [4, 3] [1] (fun r vs cs h' => h = h' ∧ cs = [some [.slice base Ts.length cap]] ∧ ∃ i : Nat, i ≤ Ts.length ∧ i ≤ 10 ∧ r = Ts.length - i ∧ vs = [.v (zv i), .v (zv (sumL Ts i : Nat))] ∧ sumL Ts i ≤ 9) Ts.length ⟨rfl, rfl, 0, by omega, by omega, by omega, rfl, by simp [sumL]⟩ ?_
  rintro r vs cs mm bx _ ⟨rfl, rfl, i, hi, hi10, rfl, rfl, hs⟩
  conv => whnf
  refine bsel_intro (fun q1 => ?_) (fun q1 => ?_) <;> try simp only [bsL] at q1
  · have hiT : i < Ts.length := by omega
    obtain ⟨p, hp⟩ : ∃ p, Ts[i]? = some p := ⟨_, List.getElem?_eq_getElem hiT⟩
    obtain ⟨b1, rfl, l1⟩ := f i p hp
    have hpm := hmx p (List.mem_of_getElem? hp)
    have hss := sumL_succ hp
    conv => whnf
    refine bsel_intro (fun q2 => ?_) (fun q2 => ?_) <;> try simp only [bsL] at q2
    · conv => whnf
      (first | refine need_intro (⟨by omega, by omega⟩) ?_ | refine must.mk (⟨by omega, by omega⟩) ?_); conv => whnf
      refine ⟨_, l1, ?_⟩; conv => whnf
      (first | refine ov_c (by simp only [loK, hiK]; omega) ?_ | refine ov_c (by decide) ?_); conv => whnf
      refine bsel_intro (fun q3 => ?_) (fun q3 => ?_) <;> try simp only [bsL] at q3
      · have hm := sumL_mono (Ts := Ts) (show i + 1 ≤ Ts.length by omega)
        conv => whnf
        exact hk' _ (by unfold fewB; rw [decide_eq_false (by omega)])
      · conv => whnf
        (first | refine ov_c (by simp only [loK, hiK]; omega) ?_ | refine ov_c (by decide) ?_); conv => whnf
        refine ⟨Ts.length - (i + 1), by omega, rfl, rfl, i + 1, by omega, by omega, rfl, ?_, by omega⟩
        rw [hss]; rfl
    · have hge : ¬ Ts.length < 10 := by omega
      conv => whnf
      exact hk' _ (by unfold fewB; rw [decide_eq_decide]; omega)
  · have hin : i = Ts.length := by omega
    subst hin
    conv => whnf
    exact hk' _ (by unfold fewB; rw [decide_eq_decide]; omega)
end
end Go.Proofs.YtciagjfemgfhgaaGreatDoor
/-! Tests of threads: a test, as the document's. -/
namespace Go.Mid
set_option linter.unusedSimpArgs false
set_option linter.unusedVariables false
open Go Go.RowKit
/-- A slice of elements of several cells that was made later, to be read alone. -/
theorem Owns.alsoN {P : Program} {t : TypeId} {n : Nat} (ht : isAggT P t = some true) (hn : sizeT P t = some n) {α : Type} {f : α → List Value} (hf : ∀ x, (f x).length = n) {k h h' : Hp} {el size m el2 : Nat} {s sx : Value} {cs : List Value} {l : List α} (w : Owns k h el size s m cs) (x : Owns h h' el2 n sx l.length (l.flatMap f)) :
    ∃ k', k.le k' ∧ Owns k' h' el size s m cs ∧ Rd P t n k' sx (l.map fun x => .agg (f x).toArray) := by
  have hle := x.le
  obtain ⟨ob, ⟨h1, ⟨_, rfl, h0⟩ | ⟨b, cap, rest, e1, rfl, hcap, hrest, hb⟩⟩, _, hno⟩ := x
  · obtain rfl := List.eq_nil_of_length_eq_zero h0
    exact ⟨k, Hp.le_refl _, w.up hle, Rd.nil⟩
  · have hnb := hno b e1
    have hkb : k b = none := Hp.none_le w.le hnb
    refine ⟨k.set b (rowO el2 (l.flatMap f ++ rest)), Hp.le_set' hkb, w.new hnb hle hb, ⟨_, cap, by rw [List.length_map], fun i v hv => ⟨_, rfl, ?_⟩⟩⟩
    rw [List.getElem?_map] at hv
    cases hx : l[i]? with
    | none => rw [hx] at hv; cases hv
    | some x => rw [hx] at hv; cases hv; exact loadH_agg ht hn hf (Hp.set_same _ _ _) hx
end Go.Mid
namespace Go.Proofs.YtciagjfemgfhgaaGreatDoor
set_option linter.unusedSimpArgs false
set_option linter.unusedVariables false
open Go Go.Mid Go.RowKit
attribute [local irreducible] mid
section
set_option maxHeartbeats 8000000
set_option maxRecDepth 10000
variable {h : Hp} {K : Value → Hp → Prop}
theorem aggRD : isAggT Tryz.prog 66 = some true := by kernel_rfl
theorem sizRD : sizeT Tryz.prog 66 = some 4 := by kernel_rfl
theorem infRD : Tryz.prog.info? 66 = some Tryz.prog.types[66] := by kernel_rfl
theorem aggRL : isAggT Tryz.prog 64 = some false := by kernel_rfl
theorem infRL : Tryz.prog.info? 64 = some Tryz.prog.types[64] := by kernel_rfl
/-- Each thread's deeds are read. -/
def Reads (td : TypeId) (k : Hp) (Ts : List Th) : Prop := ∀ p ∈ Ts, ∀ (j : Nat) (d : Dd), p.L[j]? = some d → ∃ b, p.a = some b ∧ loadH Tryz.prog td k (b.add (((j : Nat) : Int).toNat * 4)) = some (.agg d.cs.toArray)
theorem Reads.nil (td : TypeId) (k : Hp) : Reads td k [] := fun p hp => by cases hp
theorem Reads.le {td : TypeId} {k k' : Hp} {Ts : List Th} (r : Reads td k Ts) (hle : k.le k') : Reads td k' Ts := fun p hp j d hd => by
  obtain ⟨b, e1, e2⟩ := r p hp j d hd
  exact ⟨b, e1, loadH_le hle e2⟩
theorem to_xB (v : Value) (Ts : List Th) (hr : RdP h v Ts) (hlen : Ts.length * 24 ≤ 140737488355328) (hmx : ∀ p ∈ Ts, p.L.length * 32 ≤ 140737488355328)
    (hk : ∀ (v' : Value) (Us : List Th) (h' : Hp), h.le h' → Us.map (·.L) = Ts.map (·.L) → RdR h' v' Us → K v' h') : X Tryz.prog 8 #[.agg #[v]] h K := by
  obtain ⟨base, cap, rfl, f, g⟩ := hr
  refine fnv (args := _) mixed [(1, 1), (8, 1), (16, 1), (26, 1)] [] [] Tryz.func8 rfl (by kernel_rfl) ?_; conv => whnf
  refine loop_at [4, 3] [1] (fun r vs cs h' => cs = [some [.slice base Ts.length cap]] ∧ ∃ (i : Nat) (sl : Value) (Us : List Th) (k : Hp), i ≤ Ts.length ∧ r = Ts.length - i ∧ vs = [.v (zv i), .v sl] ∧ Us.length = i ∧ Us.map (·.L) = (Ts.take i).map (·.L) ∧ h.le k ∧ Reads 66 k Us ∧ Owns k h' 64 1 sl Us.length (Us.map Th.v)) Ts.length ⟨rfl, 0, .slice none 0 0, [], h, by omega, by omega, rfl, rfl, rfl, Hp.le_refl _, Reads.nil _ _, Owns.nil (Hp.le_refl _)⟩ ?_
  rintro r vs cs mm bx h1 ⟨rfl, i, sl, Us, k, hi, rfl, rfl, hU1, hU2, lk, hRd, hO⟩
  have le1 := Hp.le_trans lk hO.le
  conv => whnf
  refine bsel_intro (fun q1 => ?_) (fun q1 => ?_) <;> try simp only [bsL] at q1
  · have hiT : i < Ts.length := by omega
    obtain ⟨⟨pa, pc, pL⟩, hp⟩ : ∃ p, Ts[i]? = some p := ⟨_, List.getElem?_eq_getElem hiT⟩
    obtain ⟨b1, rfl, l1⟩ := f i _ hp
    have g1 := g _ (List.mem_of_getElem? hp)
    have hpm := hmx _ (List.mem_of_getElem? hp)
    simp only [] at g1 hpm
    conv => whnf
    refine new_intro (o := rowO 66 []) (fun z h2 n_z le_z at_z ot_z => ?_); conv => whnf
    have hz : Owns h1 h2 66 4 (.slice (some ⟨z, 0, none⟩) 0 0) 0 [] := ⟨some z, ⟨rfl, .inr ⟨z, 0, [], rfl, rfl, Nat.le_refl _, rfl, at_z⟩⟩, le_z, fun c e => by cases e; exact n_z⟩
    conv => whnf
    refine loop_at [6, 5] [1] (fun r vs cs h' => cs = [some [.slice (some b1) Ts.length cap]] ∧ ∃ (j : Nat) (s2 : Value), j ≤ pL.length ∧ r = pL.length - j ∧ vs = [.v (zv j), .v s2] ∧ Owns h1 h' 66 4 s2 j ((pL.take j).flatMap Dd.cs)) pL.length ⟨rfl, 0, _, by omega, by omega, rfl, by simpa using hz⟩ ?_
    rintro r vs cs mm bx h3 ⟨rfl, j, s2, hj, rfl, rfl, hO3⟩
    have le3 := Hp.le_trans le1 hO3.le
    conv => whnf
    (first | refine need_intro (⟨by omega, by omega⟩) ?_ | refine must.mk (⟨by omega, by omega⟩) ?_); conv => whnf
    refine ⟨_, loadH_le le3 l1, ?_⟩; conv => whnf
    refine bsel_intro (fun q2 => ?_) (fun q2 => ?_) <;> try simp only [bsL] at q2
    · have hjL : j < pL.length := by omega
      obtain ⟨d, hd⟩ : ∃ d, pL[j]? = some d := ⟨_, List.getElem?_eq_getElem hjL⟩
      obtain ⟨b2, rfl, l2⟩ := g1 j d hd
      conv => whnf
      (first | refine need_intro (⟨by omega, by omega⟩) ?_ | refine must.mk (⟨by omega, by omega⟩) ?_); conv => whnf
      refine ⟨_, loadH_le le3 l1, ?_⟩; conv => whnf
      (first | refine need_intro (⟨by omega, by omega⟩) ?_ | refine must.mk (⟨by omega, by omega⟩) ?_); conv => whnf
      refine ⟨_, loadH_le le3 l2, ?_⟩; conv => whnf
      refine new_intro (o := rowO 66 d.cs) (fun y h4 n_y le_y at_y ot_y => ?_); conv => whnf
      refine Owns.app1B (z := .agg #[zv 0, zv 0, zv 0, zv 0]) (by kernel_rfl) infRD (by kernel_rfl) (by kernel_rfl) (by kernel_rfl) rfl (bytes := 32) (by decide) rfl rfl rfl (hO3.up le_y) at_y rfl rfl (by omega) fun s5 h5 hO5 => ?_
      conv => whnf
      (first | refine ov_c (by simp only [loK, hiK]; omega) ?_ | refine ov_c (by decide) ?_); conv => whnf
      refine ⟨pL.length - (j + 1), by omega, rfl, j + 1, s5, by omega, rfl, rfl, ?_⟩
      rw [show (pL.take (j + 1)).flatMap Dd.cs = (pL.take j).flatMap Dd.cs ++ d.cs by rw [List.take_add_one, hd]; simp]
      exact hO5
    · have hjn : j = pL.length := by omega
      subst hjn
      rw [List.take_length] at hO3
      have hob_ := hO.alsoN aggRD sizRD (f := Dd.cs) (fun _ => rfl) hO3
      obtain ⟨k', lk', hO', rd'⟩ := hob_
      obtain ⟨a2, c2, rfl, fr⟩ := rd'
      rw [List.length_map]
      conv => whnf
      refine new_intro (o := rowO 64 [.slice a2 pL.length c2]) (fun y h4 n_y le_y at_y ot_y => ?_); conv => whnf
      refine Owns.app1B (z := .slice none 0 0) (by kernel_rfl) infRL (by kernel_rfl) (by kernel_rfl) (by kernel_rfl) rfl (bytes := 24) (by decide) rfl rfl rfl (hO'.up le_y) at_y rfl rfl (by omega) fun s5 h5 hO5 => ?_
      conv => whnf
      (first | refine ov_c (by simp only [loK, hiK]; omega) ?_ | refine ov_c (by decide) ?_); conv => whnf
      refine ⟨Ts.length - (i + 1), by omega, rfl, i + 1, s5, Us ++ [⟨a2, c2, pL⟩], k', by omega, rfl, rfl, by simp [hU1], ?_, Hp.le_trans lk lk', ?_, ?_⟩
      · rw [List.take_add_one, hp, List.map_append, List.map_append, hU2]; rfl
      · intro p hp2 j d hd
        rcases List.mem_append.1 hp2 with h9 | h9
        · exact (hRd.le lk') p h9 j d hd
        · simp only [List.mem_singleton] at h9
          subst h9
          rw [Int.toNat_natCast]
          exact fr j _ (by rw [List.getElem?_map, hd]; rfl)
      · rw [List.length_append, List.map_append]
        exact hO5
  have hin : i = Ts.length := by omega
  subst hin
  rw [List.take_length] at hU2
  have rs := hO.rd aggRL
  obtain ⟨a3, c3, rfl, f3⟩ := rs
  rw [List.length_map]
  conv => whnf
  refine hk _ Us h1 le1 hU2 ⟨a3, c3, rfl, fun i p hp => ?_, fun p hp j d hd => (hRd.le hO.le) p hp j d hd⟩
  rw [Int.toNat_natCast]
  exact f3 i _ (by rw [List.getElem?_map, hp]; rfl)
theorem to_x (v : Value) (Ts : List Th) (hr : RdP h v Ts) (hlen : Ts.length ≤ 10) (hmx : ∀ p ∈ Ts, p.L.length ≤ 100)
    (hk : ∀ (v' : Value) (Us : List Th) (h' : Hp), h.le h' → Us.map (·.L) = Ts.map (·.L) → RdR h' v' Us → K v' h') : X Tryz.prog 8 #[.agg #[v]] h K :=
  to_xB v Ts hr (by omega) (fun p hp => by have := hmx p hp; omega) hk
end
end Go.Proofs.YtciagjfemgfhgaaGreatDoor
/-! Tests of threads: a state behind a deed. -/
namespace Go.Proofs.YtciagjfemgfhgaaGreatDoor
set_option linter.unusedSimpArgs false
set_option linter.unusedVariables false
open Go Go.Mid Go.RowKit
attribute [local irreducible] mid
/-- The cells of a state: how far threads are, what they are linked to, what stands. -/
def cells3 (A B : List Int) (W : List Nat) : List Value := A.map zv ++ (B.map zv ++ W.map uv)
section
variable {A B : List Int} {W : List Nat}
theorem c3_len (hA : A.length = 3) (hB : B.length = 3) (hW : W.length = 16) : (cells3 A B W).length = 22 := by simp [cells3, hA, hB, hW]
theorem c3_one : (cells3 A B W).all Value.oneCell' = true := by simp [cells3, Value.oneCell']
theorem c3_a {i : Nat} {x : Int} (h : A[i]? = some x) : (cells3 A B W)[i]? = some (zv x) := by
  unfold cells3
  rw [List.getElem?_append_left (by rw [List.length_map]; exact (List.getElem?_eq_some_iff.1 h).1), List.getElem?_map, h]; rfl
theorem c3_b (hA : A.length = 3) {i : Nat} {x : Int} (h : B[i]? = some x) : (cells3 A B W)[3 + i]? = some (zv x) := by
  unfold cells3
  rw [List.getElem?_append_right (by rw [List.length_map]; omega), List.length_map, hA, Nat.add_sub_cancel_left,
    List.getElem?_append_left (by rw [List.length_map]; exact (List.getElem?_eq_some_iff.1 h).1), List.getElem?_map, h]; rfl
theorem c3_w (hA : A.length = 3) (hB : B.length = 3) {i : Nat} {x : Nat} (h : W[i]? = some x) : (cells3 A B W)[6 + i]? = some (uv x) := by
  unfold cells3
  rw [List.getElem?_append_right (by rw [List.length_map]; omega), List.length_map, hA, List.getElem?_append_right (by rw [List.length_map]; omega), List.length_map, hB,
    show 6 + i - 3 - 3 = i by omega, List.getElem?_map, h]; rfl
theorem c3_seta {i : Nat} (hi : i < A.length) (x : Int) : (cells3 A B W).set i (zv x) = cells3 (A.set i x) B W := by
  unfold cells3
  rw [List.set_append_left _ _ (by rw [List.length_map]; exact hi), List.map_set]
theorem c3_setb (hA : A.length = 3) {i : Nat} (hi : i < B.length) (x : Int) : (cells3 A B W).set (3 + i) (zv x) = cells3 A (B.set i x) W := by
  unfold cells3
  rw [List.set_append_right _ _ (by rw [List.length_map]; omega), List.length_map, hA, Nat.add_sub_cancel_left, List.set_append_left _ _ (by rw [List.length_map]; exact hi), List.map_set]
theorem c3_setw (hA : A.length = 3) (hB : B.length = 3) {i : Nat} (x : Nat) : (cells3 A B W).set (6 + i) (uv x) = cells3 A B (W.set i x) := by
  unfold cells3
  rw [List.set_append_right _ _ (by rw [List.length_map]; omega), List.length_map, hA, List.set_append_right _ _ (by rw [List.length_map]; omega), List.length_map, hB,
    show 6 + i - 3 - 3 = i by omega, List.map_set]
end
/-- Other threads' links to a variable go: the first i threads are looked at. -/
def layTo (B : List Int) (t : Nat) (v : Int) (i : Nat) : List Int := B.mapIdx fun j x => if j < i ∧ j ≠ t ∧ x = v then 0 else x
theorem layTo_len (B : List Int) (t : Nat) (v : Int) (i : Nat) : (layTo B t v i).length = B.length := by simp [layTo]
theorem layTo_zero (B : List Int) (t : Nat) (v : Int) : layTo B t v 0 = B := by
  unfold layTo
  apply List.ext_getElem?
  intro j
  rw [List.getElem?_mapIdx]
  cases B[j]? <;> simp
theorem layTo_at {B : List Int} {t i : Nat} {v x : Int} (h : B[i]? = some x) : (layTo B t v i)[i]? = some x := by
  unfold layTo
  rw [List.getElem?_mapIdx, h]
  simp
theorem layTo_succ {B : List Int} {t i : Nat} {v x : Int} (h : B[i]? = some x) : layTo B t v (i + 1) = if i ≠ t ∧ x = v then (layTo B t v i).set i 0 else layTo B t v i := by
  have hlt := (List.getElem?_eq_some_iff.1 h).1
  split
  · rename_i hc
    apply List.ext_getElem?
    intro j
    rw [List.getElem?_set]
    unfold layTo
    rw [List.length_mapIdx, List.getElem?_mapIdx, List.getElem?_mapIdx]
    by_cases hj : i = j
    · subst hj
      rw [if_pos rfl, if_pos hlt, h]
      simp [hc]
    · rw [if_neg hj]
      cases hb : B[j]? with
      | none => rfl
      | some y =>
        simp only [Option.map_some, Option.some.injEq]
        have : (j < i + 1 ↔ j < i) := by omega
        simp only [this]
  · rename_i hc
    apply List.ext_getElem?
    intro j
    unfold layTo
    rw [List.getElem?_mapIdx, List.getElem?_mapIdx]
    cases hb : B[j]? with
    | none => rfl
    | some y =>
      simp only [Option.map_some, Option.some.injEq]
      by_cases hj : j = i
      · subst hj
        rw [h] at hb
        cases hb
        rw [if_neg (fun hh => hc ⟨hh.2.1, hh.2.2⟩), if_neg (fun hh => hc ⟨hh.2.1, hh.2.2⟩)]
      · have : (j < i + 1 ↔ j < i) := by omega
        simp only [this]
abbrev layL (B : List Int) (t : Nat) (v : Int) : List Int := layTo B t v 3
section
set_option maxHeartbeats 8000000
set_option maxRecDepth 10000
variable {h : Hp} {K : Value → Hp → Prop}
theorem aggI : isAggT Tryz.prog 3 = some false := by kernel_rfl
theorem sizI : sizeT Tryz.prog 3 = some 1 := by kernel_rfl
theorem aggW64 : isAggT Tryz.prog 46 = some false := by kernel_rfl
theorem sizW64 : sizeT Tryz.prog 46 = some 1 := by kernel_rfl
theorem lay_x (b : Nat) (T : TypeId) (A B : List Int) (W : List Nat) (t v w : Nat) (hA : A.length = 3) (hB : B.length = 3) (hW : W.length = 16) (hv : v < 4) (ht : t < 3) (hb : h b = some (rowO T (cells3 A B W)))
    (hk : ∀ h', h' b = some (rowO T (cells3 A (layL B t ((v : Int) + 1)) (W.set v w))) → (∀ c, c ≠ b → h' c = h c) → K (.tuple #[]) h') : X Tryz.prog 47 #[.pointer (some ⟨b, 0, none⟩), zv t, zv v, uv w] h K := by
  refine fnv (args := _) mixed [] [] [] Tryz.func47 rfl (by kernel_rfl) ?_; conv => whnf
  have a1 : (((⟨b, 0, none⟩ : Addr).add 6).add 0).add (((v : Nat) : Int).toNat * 1) = ⟨b, 6 + v, none⟩ := by simp [addr_add]
  (first | refine need_intro (⟨by omega, by omega⟩) ?_ | refine must.mk (⟨by omega, by omega⟩) ?_); conv => whnf
  refine wr_intro (by exact storeCA a1 sizW64 hb (by rw [c3_len hA hB hW]; omega) (c3_setw hA hB w) rfl rfl) (fun h1 at_h1 ot_h1 => ?_)
  try (conv => whnf)
  conv => whnf
  refine loop_at [16] [] (fun r vs cs h' => ∃ i : Nat, i ≤ 3 ∧ r = 3 - i ∧ vs = [.v (zv i)] ∧ h' b = some (rowO T (cells3 A (layTo B t ((v : Int) + 1) i) (W.set v w))) ∧ ∀ c, c ≠ b → h' c = h c) 3 ⟨0, by omega, by omega, rfl, by rw [layTo_zero]; exact at_h1, ot_h1⟩ ?_
  rintro r vs cs mm bx h2 ⟨i, hi, rfl, rfl, hb2, ho2⟩
  conv => whnf
  refine bsel_intro (fun q1 => ?_) (fun q1 => ?_) <;> try simp only [bsL] at q1
  · have hi3 : i < 3 := by omega
    obtain ⟨x, hx⟩ : ∃ x, B[i]? = some x := ⟨_, List.getElem?_eq_getElem (by omega)⟩
    have hsu := layTo_succ (t := t) (v := (v : Int) + 1) hx
    have hat := layTo_at (t := t) (v := (v : Int) + 1) hx
    have hl := layTo_len B t ((v : Int) + 1) i
    generalize layTo B t ((v : Int) + 1) i = Bi at *
    have a2 : ((⟨b, 0, none⟩ : Addr).add 3).add (((i : Nat) : Int).toNat * 1) = ⟨b, 3 + i, none⟩ := by simp [addr_add]
    conv => whnf
    refine bsel_intro (fun q2 => ?_) (fun q2 => ?_) <;> try simp only [bsL] at q2
    · conv => whnf
      (first | refine need_intro (⟨by omega, by omega⟩) ?_ | refine must.mk (⟨by omega, by omega⟩) ?_); conv => whnf
      refine ⟨_, loadCA a2 aggI hb2 (c3_b hA hat), ?_⟩; conv => whnf
      (first | refine ov_c (by simp only [loK, hiK]; omega) ?_ | refine ov_c (by decide) ?_); conv => whnf
      refine bsel_intro (fun q3 => ?_) (fun q3 => ?_) <;> try simp only [bsL] at q3
      · rw [if_pos ⟨by omega, by omega⟩] at hsu
        conv => whnf
        (first | refine need_intro (⟨by omega, by omega⟩) ?_ | refine must.mk (⟨by omega, by omega⟩) ?_); conv => whnf
        refine wr_intro (by exact storeCA a2 sizI hb2 (by rw [c3_len hA (by omega) (by rw [List.length_set]; exact hW)]; omega) (c3_setb hA (by omega) 0) rfl rfl) (fun h3 at_h3 ot_h3 => ?_)
        try (conv => whnf)
        conv => whnf
        (first | refine ov_c (by simp only [loK, hiK]; omega) ?_ | refine ov_c (by decide) ?_); conv => whnf
        exact ⟨3 - (i + 1), by omega, i + 1, by omega, rfl, rfl, by rw [hsu]; exact at_h3, fun c hc => by rw [ot_h3 c hc]; exact ho2 c hc⟩
      · rw [if_neg (fun hh => by omega)] at hsu
        conv => whnf
        (first | refine ov_c (by simp only [loK, hiK]; omega) ?_ | refine ov_c (by decide) ?_); conv => whnf
        exact ⟨3 - (i + 1), by omega, i + 1, by omega, rfl, rfl, by rw [hsu]; exact hb2, ho2⟩
    · rw [if_neg (fun hh => by omega)] at hsu
      conv => whnf
      (first | refine ov_c (by simp only [loK, hiK]; omega) ?_ | refine ov_c (by decide) ?_); conv => whnf
      exact ⟨3 - (i + 1), by omega, i + 1, by omega, rfl, rfl, by rw [hsu]; exact hb2, ho2⟩
  · have : i = 3 := by omega
    subst this
    conv => whnf
    exact hk h2 hb2 ho2
end
end Go.Proofs.YtciagjfemgfhgaaGreatDoor
/-! Tests of threads: a state behind a deed. -/
namespace Go.Proofs.YtciagjfemgfhgaaGreatDoor
set_option linter.unusedSimpArgs false
set_option linter.unusedVariables false
open Go Go.Mid Go.RowKit
attribute [local irreducible] mid
/-- A state. -/
structure St where
  A : List Int
  B : List Int
  W : List Nat
def St.cs (s : St) : List Value := cells3 s.A s.B s.W
/-- The document's: a link is told one less. -/
def St.rs (s : St) : List Value := cells3 s.A (s.B.map fun x => x - 1) s.W
structure St.ok (s : St) : Prop where
  a : s.A.length = 3
  b : s.B.length = 3
  w : s.W.length = 16
  a0 : ∀ x ∈ s.A, 0 ≤ x ∧ x ≤ 1000
  b0 : ∀ x ∈ s.B, 0 ≤ x ∧ x ≤ 4
  w0 : ∀ x ∈ s.W, x < 18446744073709551616
def doN (s : St) (t : Nat) (wh : Int) (rg v n : Nat) : St :=
  if wh = 1 then ⟨s.A.set t (s.A.getD t 0 + 1), layL s.B t ((v : Int) + 1), s.W.set v n⟩
  else if wh = 2 then ⟨s.A.set t (s.A.getD t 0 + 1), s.B, s.W.set (4 + (t * 4 + rg)) (s.W.getD v 0)⟩
  else if wh = 3 then ⟨s.A.set t (s.A.getD t 0 + 1), layL s.B t ((v : Int) + 1), (s.W.set v ((s.W.getD v 0 + n) % 18446744073709551616)).set (4 + (t * 4 + rg)) (s.W.getD v 0)⟩
  else if wh = 4 then ⟨s.A.set t (s.A.getD t 0 + 1), layL s.B t ((v : Int) + 1), (s.W.set v n).set (4 + (t * 4 + rg)) (s.W.getD v 0)⟩
  else if wh = 5 then ⟨s.A.set t (s.A.getD t 0 + 1), s.B.set t ((v : Int) + 1), s.W.set (4 + (t * 4 + rg)) (s.W.getD v 0)⟩
  else if s.B.getD t 0 = (v : Int) + 1 then ⟨s.A.set t (s.A.getD t 0 + 1), (layL s.B t ((v : Int) + 1)).set t 0, (s.W.set v n).set (4 + (t * 4 + rg)) 0⟩
  else ⟨s.A.set t (s.A.getD t 0 + 1), s.B.set t 0, s.W.set (4 + (t * 4 + rg)) 1⟩
def doS (s : St) (t : Nat) (d : Dd) : St := doN s t d.what d.reg.toNat d.vr.toNat d.n.toNat
/-- What a deed of a test that may be is. -/
theorem deed_ok {d : Dd} (h : deedE d = 0) : 1 ≤ d.what ∧ d.what ≤ 6 ∧ 0 ≤ d.reg ∧ d.reg ≤ 3 ∧ 0 ≤ d.vr ∧ d.vr ≤ 3 ∧ 0 ≤ d.n ∧ d.n ≤ 255 := by
  unfold deedE at h
  split at h
  · cases h
  split at h
  · cases h
  omega
theorem getD_at {α : Type} {l : List α} {i : Nat} (x : α) (h : i < l.length) : l[i]? = some (l.getD i x) := by
  rw [List.getD_eq_getElem?_getD, List.getElem?_eq_getElem h]; rfl
section
set_option maxHeartbeats 8000000
set_option maxRecDepth 10000
variable {h : Hp} {K : Value → Hp → Prop}
theorem wrapU2 (x : Int) : IntKind.u64.wrap x = x % 18446744073709551616 := by
  unfold IntKind.wrap
  simp [IntKind.signed, IntKind.bits]
theorem aggSt : isAggT Tryz.prog 80 = some true := by kernel_rfl
theorem sizSt : sizeT Tryz.prog 80 = some 22 := by kernel_rfl
theorem do_x (s : St) (hs : s.ok) (t : Nat) (ht : t < 3) (d : Dd) (hd : deedE d = 0) (hk : K (.agg (doS s t d).cs.toArray) h) : X Tryz.prog 29 #[.agg s.cs.toArray, zv t, .agg d.cs.toArray] h K := by
  refine X.forget ?_
  have hk' : ∀ (h' : Hp) (r : St), r = doS s t d → h.le h' → (∃ g : Hp, g.le h' ∧ K (.agg r.cs.toArray) g) := fun h' r e hle => ⟨h, hle, e ▸ hk⟩
  clear hk
  obtain ⟨d1, d2, d3, d4, d5, d6, d7, d8⟩ := deed_ok hd
  obtain ⟨wh, rg0, v0, n0⟩ := d
  simp only [] at d1 d2 d3 d4 d5 d6 d7 d8
  obtain ⟨rg, rfl⟩ : ∃ x : Nat, rg0 = x := ⟨rg0.toNat, by omega⟩
  obtain ⟨v, rfl⟩ : ∃ x : Nat, v0 = x := ⟨v0.toNat, by omega⟩
  obtain ⟨n, rfl⟩ : ∃ x : Nat, n0 = x := ⟨n0.toNat, by omega⟩
  obtain ⟨A, B, W⟩ := s
  obtain ⟨o1, o2, o3, o4, o5, o6⟩ := hs
  simp only [] at o1 o2 o3 o4 o5 o6
  simp only [doS, doN, Int.toNat_natCast] at hk'
  have ga := getD_at (l := A) 0 (show t < A.length by omega)
  have gb := getD_at (l := B) 0 (show t < B.length by omega)
  have gw := getD_at (l := W) 0 (show v < W.length by omega)
  have ba := o4 _ (List.mem_of_getElem? ga)
  have bb := o5 _ (List.mem_of_getElem? gb)
  have bw := o6 _ (List.mem_of_getElem? gw)
  have hcs : (St.mk A B W).cs = cells3 A B W := rfl
  have hdc : (Dd.mk wh (rg : Int) (v : Int) (n : Int)).cs = [zv wh, zv rg, zv v, zv n] := rfl
  rw [hcs, hdc]
  clear hd
  generalize A.getD t 0 = at0 at *
  generalize B.getD t 0 = bt0 at *
  generalize W.getD v 0 = was at *
  generalize hAS : A.set t (at0 + 1) = A1 at *
  have o1' : A1.length = 3 := by rw [← hAS, List.length_set]; exact o1
  refine fnv (args := _) mixed rfXLta3 [] [] Tryz.func29 rfl (by kernel_rfl) ?_; conv => whnf
  refine new_intro (o := rowO 80 (cells3 A B W)) (fun b3 h1 n_b3 le_b3 at_b3 ot_b3 => ?_); conv => whnf
  refine new_intro (o := _) (fun b6 h2 n_b6 le_b6 at_b6 ot_b6 => ?_); conv => whnf
  have d36 : b3 ≠ b6 := Hp.ne n_b6 at_b3
  have s2 := le_b6 _ _ at_b3
  have le2 := Hp.le_trans le_b3 le_b6
  have n60 : h b6 = none := Hp.none_le le_b3 n_b6
  have ata : ((⟨b3, 0, none⟩ : Addr).add 0).add (((t : Nat) : Int).toNat * 1) = ⟨b3, t, none⟩ := by simp [addr_add]
  have atl : ((⟨b3, 0, none⟩ : Addr).add 3).add (((t : Nat) : Int).toNat * 1) = ⟨b3, 3 + t, none⟩ := by simp [addr_add]
  have atv : (((⟨b3, 0, none⟩ : Addr).add 6).add 0).add (((v : Nat) : Int).toNat * 1) = ⟨b3, 6 + v, none⟩ := by simp [addr_add]
  have atr : ((((⟨b3, 0, none⟩ : Addr).add 6).add 4).add (((t : Nat) : Int).toNat * 4)).add (((rg : Nat) : Int).toNat * 1) = ⟨b3, 6 + (4 + (t * 4 + rg)), none⟩ := by simp [addr_add]; omega
  have hsa := c3_seta (A := A) (B := B) (W := W) (show t < A.length by omega) (at0 + 1)
  rw [hAS] at hsa
  (first | refine need_intro (⟨by omega, by omega⟩) ?_ | refine must.mk (⟨by omega, by omega⟩) ?_); conv => whnf
  refine ⟨_, loadCA ata aggI s2 (c3_a ga), ?_⟩; conv => whnf
  (first | refine ov_c (by simp only [loK, hiK]; omega) ?_ | refine ov_c (by decide) ?_); conv => whnf
  (first | refine need_intro (⟨by omega, by omega⟩) ?_ | refine must.mk (⟨by omega, by omega⟩) ?_); conv => whnf
  refine wr_intro (by exact storeCA ata sizI s2 (by rw [c3_len o1 o2 o3]; omega) hsa rfl rfl) (fun h3 at_h3 ot_h3 => ?_)
  try (conv => whnf)
  have s3 : h3 b3 = some (rowO 80 (cells3 A1 B W)) := at_h3
  have z3 := (ot_h3 b6 (Ne.symm d36)).trans at_b6
  have le3 : h.le h3 := Hp.le_st n_b3 le2 ot_h3
  clear at_h3 ot_h3 s2 le2 at_b6 ot_b6 le_b6 at_b3 ot_b3 le_b3
  conv => whnf
  (first | refine need_intro (⟨by omega, by omega⟩) ?_ | refine must.mk (⟨by omega, by omega⟩) ?_); conv => whnf
  refine ⟨_, loadCA atv aggW64 s3 (c3_w o1' o2 gw), ?_⟩; conv => whnf
  refine ov_u64 (by omega) ?_; conv => whnf
  (first | refine need_intro (⟨by omega, by omega⟩) ?_ | refine must.mk (⟨by omega, by omega⟩) ?_); conv => whnf
  (first | refine need_intro (⟨by omega, by omega⟩) ?_ | refine must.mk (⟨by omega, by omega⟩) ?_); conv => whnf
  have c3s : ∀ {B' : List Int} {W' : List Nat} {x : Nat}, B'.length = 3 → (cells3 A1 B' W').set (6 + (4 + (t * 4 + rg))) (uv x) = cells3 A1 B' (W'.set (4 + (t * 4 + rg)) x) := fun hb => c3_setw o1' hb _
  have hin : ∀ {B' : List Int} {W' : List Nat}, B'.length = 3 → W'.length = 16 → 6 + (4 + (t * 4 + rg)) < (cells3 A1 B' W').length := fun h1 h2 => by rw [c3_len o1' h1 h2]; omega
  have hll : (layL B t ((v : Int) + 1)).length = 3 := by rw [layTo_len]; exact o2
  refine bsel_intro (fun c1 => ?_) (fun c1 => ?_) <;> try simp only [bsL] at c1
  · simp only [if_pos c1] at hk'
    conv => whnf
    refine lay_x b3 _ A1 B W t v n o1' o2 o3 (by omega) ht s3 fun h4 b9 o4 => ?_
    have z9 := (o4 b6 (Ne.symm d36)).trans z3
    have le9 : h.le h4 := Hp.le_st n_b3 le3 o4
    have hB9 := hll
    have hW9 : (W.set v n).length = 16 := by rw [List.length_set]; exact o3
    have hfin : St.mk A1 (layL B t ((v : Int) + 1)) (W.set v n) = _ := rfl
    have hcl := c3_len o1' hB9 hW9
    conv => whnf
    refine ⟨_, loadA0 aggSt sizSt b9 hcl, ?_⟩; conv => whnf
    refine wr_intro (by exact storeA0 sizSt z9 rfl hcl c3_one) (fun hA at_hA ot_hA => ?_)
    try (conv => whnf)
    conv => whnf
    refine ⟨_, loadA0 aggSt sizSt at_hA hcl, ?_⟩; conv => whnf
    exact hk' _ ⟨A1, _, _⟩ hfin (Hp.le_st n60 le9 ot_hA)
  simp only [if_neg c1] at hk'
  conv => whnf
  refine bsel_intro (fun c2 => ?_) (fun c2 => ?_) <;> try simp only [bsL] at c2
  · simp only [if_pos c2] at hk'
    conv => whnf
    refine wr_intro (by exact storeCA atr sizW64 s3 (hin o2 o3) (c3s o2) rfl rfl) (fun h4 at_h4 ot_h4 => ?_)
    try (conv => whnf)
    have b9 : h4 b3 = some (rowO 80 (cells3 A1 B (W.set (4 + (t * 4 + rg)) was))) := at_h4
    have z9 := (ot_h4 b6 (Ne.symm d36)).trans z3
    have le9 : h.le h4 := Hp.le_st n_b3 le3 ot_h4
    have hB9 := o2
    have hW9 : (W.set (4 + (t * 4 + rg)) was).length = 16 := by rw [List.length_set]; exact o3
    have hfin : St.mk A1 B (W.set (4 + (t * 4 + rg)) was) = _ := rfl
    have hcl := c3_len o1' hB9 hW9
    conv => whnf
    refine ⟨_, loadA0 aggSt sizSt b9 hcl, ?_⟩; conv => whnf
    refine wr_intro (by exact storeA0 sizSt z9 rfl hcl c3_one) (fun hA at_hA ot_hA => ?_)
    try (conv => whnf)
    conv => whnf
    refine ⟨_, loadA0 aggSt sizSt at_hA hcl, ?_⟩; conv => whnf
    exact hk' _ ⟨A1, _, _⟩ hfin (Hp.le_st n60 le9 ot_hA)
  simp only [if_neg c2] at hk'
  conv => whnf
  refine bsel_intro (fun c3 => ?_) (fun c3 => ?_) <;> try simp only [bsL] at c3
  · simp only [if_pos c3] at hk'
    conv => whnf
    refine ov_by (show IntKind.u64.wrap ((was : Int) + (n : Int)) = (((was + n) % 18446744073709551616 : Nat) : Int) by rw [wrapU2]; omega) ?_
    generalize (was + n) % 18446744073709551616 = xx at *
    conv => whnf
    refine lay_x b3 _ A1 B W t v xx o1' o2 o3 (by omega) ht s3 fun h4 s4 o4 => ?_
    have z4 := (o4 b6 (Ne.symm d36)).trans z3
    have le4 : h.le h4 := Hp.le_st n_b3 le3 o4
    have hw4 : (W.set v xx).length = 16 := by rw [List.length_set]; exact o3
    conv => whnf
    refine wr_intro (by exact storeCA atr sizW64 s4 (hin hll hw4) (c3s hll) rfl rfl) (fun h5 at_h5 ot_h5 => ?_)
    try (conv => whnf)
    have b9 : h5 b3 = some (rowO 80 (cells3 A1 (layL B t ((v : Int) + 1)) ((W.set v xx).set (4 + (t * 4 + rg)) was))) := at_h5
    have z9 := (ot_h5 b6 (Ne.symm d36)).trans z4
    have le9 : h.le h5 := Hp.le_st n_b3 le4 ot_h5
    have hB9 := hll
    have hW9 : ((W.set v xx).set (4 + (t * 4 + rg)) was).length = 16 := by rw [List.length_set]; exact hw4
    have hfin : St.mk A1 (layL B t ((v : Int) + 1)) ((W.set v xx).set (4 + (t * 4 + rg)) was) = _ := rfl
    have hcl := c3_len o1' hB9 hW9
    conv => whnf
    refine ⟨_, loadA0 aggSt sizSt b9 hcl, ?_⟩; conv => whnf
    refine wr_intro (by exact storeA0 sizSt z9 rfl hcl c3_one) (fun hA at_hA ot_hA => ?_)
    try (conv => whnf)
    conv => whnf
    refine ⟨_, loadA0 aggSt sizSt at_hA hcl, ?_⟩; conv => whnf
    exact hk' _ ⟨A1, _, _⟩ hfin (Hp.le_st n60 le9 ot_hA)
  simp only [if_neg c3] at hk'
  conv => whnf
  refine bsel_intro (fun c4 => ?_) (fun c4 => ?_) <;> try simp only [bsL] at c4
  · simp only [if_pos c4] at hk'
    obtain ⟨xx, hxx⟩ : ∃ xx, n = xx := ⟨n, rfl⟩
    rw [hxx] at hk' ⊢
    conv => whnf
    refine lay_x b3 _ A1 B W t v xx o1' o2 o3 (by omega) ht s3 fun h4 s4 o4 => ?_
    have z4 := (o4 b6 (Ne.symm d36)).trans z3
    have le4 : h.le h4 := Hp.le_st n_b3 le3 o4
    have hw4 : (W.set v xx).length = 16 := by rw [List.length_set]; exact o3
    conv => whnf
    refine wr_intro (by exact storeCA atr sizW64 s4 (hin hll hw4) (c3s hll) rfl rfl) (fun h5 at_h5 ot_h5 => ?_)
    try (conv => whnf)
    have b9 : h5 b3 = some (rowO 80 (cells3 A1 (layL B t ((v : Int) + 1)) ((W.set v xx).set (4 + (t * 4 + rg)) was))) := at_h5
    have z9 := (ot_h5 b6 (Ne.symm d36)).trans z4
    have le9 : h.le h5 := Hp.le_st n_b3 le4 ot_h5
    have hB9 := hll
    have hW9 : ((W.set v xx).set (4 + (t * 4 + rg)) was).length = 16 := by rw [List.length_set]; exact hw4
    have hfin : St.mk A1 (layL B t ((v : Int) + 1)) ((W.set v xx).set (4 + (t * 4 + rg)) was) = _ := rfl
    have hcl := c3_len o1' hB9 hW9
    conv => whnf
    refine ⟨_, loadA0 aggSt sizSt b9 hcl, ?_⟩; conv => whnf
    refine wr_intro (by exact storeA0 sizSt z9 rfl hcl c3_one) (fun hA at_hA ot_hA => ?_)
    try (conv => whnf)
    conv => whnf
    refine ⟨_, loadA0 aggSt sizSt at_hA hcl, ?_⟩; conv => whnf
    exact hk' _ ⟨A1, _, _⟩ hfin (Hp.le_st n60 le9 ot_hA)
  simp only [if_neg c4] at hk'
  conv => whnf
  refine bsel_intro (fun c5 => ?_) (fun c5 => ?_) <;> try simp only [bsL] at c5
  · simp only [if_pos c5] at hk'
    have hw4 : (W.set (4 + (t * 4 + rg)) was).length = 16 := by rw [List.length_set]; exact o3
    conv => whnf
    refine wr_intro (by exact storeCA atr sizW64 s3 (hin o2 o3) (c3s o2) rfl rfl) (fun h4 at_h4 ot_h4 => ?_)
    try (conv => whnf)
    have s4 : h4 b3 = some (rowO 80 (cells3 A1 B (W.set (4 + (t * 4 + rg)) was))) := at_h4
    have z4 := (ot_h4 b6 (Ne.symm d36)).trans z3
    have le4 : h.le h4 := Hp.le_st n_b3 le3 ot_h4
    conv => whnf
    (first | refine ov_c (by simp only [loK, hiK]; omega) ?_ | refine ov_c (by decide) ?_); conv => whnf
    (first | refine need_intro (⟨by omega, by omega⟩) ?_ | refine must.mk (⟨by omega, by omega⟩) ?_); conv => whnf
    refine wr_intro (by exact storeCA atl sizI s4 (by rw [c3_len o1' o2 hw4]; omega) (c3_setb o1' (by omega) ((v : Int) + 1)) rfl rfl) (fun h5 at_h5 ot_h5 => ?_)
    try (conv => whnf)
    have b9 : h5 b3 = some (rowO 80 (cells3 A1 (B.set t ((v : Int) + 1)) (W.set (4 + (t * 4 + rg)) was))) := at_h5
    have z9 := (ot_h5 b6 (Ne.symm d36)).trans z4
    have le9 : h.le h5 := Hp.le_st n_b3 le4 ot_h5
    have hB9 : (B.set t ((v : Int) + 1)).length = 3 := by rw [List.length_set]; exact o2
    have hW9 := hw4
    have hfin : St.mk A1 (B.set t ((v : Int) + 1)) (W.set (4 + (t * 4 + rg)) was) = _ := rfl
    have hcl := c3_len o1' hB9 hW9
    conv => whnf
    refine ⟨_, loadA0 aggSt sizSt b9 hcl, ?_⟩; conv => whnf
    refine wr_intro (by exact storeA0 sizSt z9 rfl hcl c3_one) (fun hA at_hA ot_hA => ?_)
    try (conv => whnf)
    conv => whnf
    refine ⟨_, loadA0 aggSt sizSt at_hA hcl, ?_⟩; conv => whnf
    exact hk' _ ⟨A1, _, _⟩ hfin (Hp.le_st n60 le9 ot_hA)
  simp only [if_neg c5] at hk'
  have hw4 : (W.set (4 + (t * 4 + rg)) 1).length = 16 := by rw [List.length_set]; exact o3
  conv => whnf
  refine wr_intro (by exact storeCA atr sizW64 s3 (hin o2 o3) (c3s (x := 1) o2) rfl rfl) (fun h4 at_h4 ot_h4 => ?_)
  try (conv => whnf)
  have s4 : h4 b3 = some (rowO 80 (cells3 A1 B (W.set (4 + (t * 4 + rg)) 1))) := at_h4
  have z4 := (ot_h4 b6 (Ne.symm d36)).trans z3
  have le4 : h.le h4 := Hp.le_st n_b3 le3 ot_h4
  conv => whnf
  (first | refine need_intro (⟨by omega, by omega⟩) ?_ | refine must.mk (⟨by omega, by omega⟩) ?_); conv => whnf
  refine ⟨_, loadCA atl aggI s4 (c3_b o1' gb), ?_⟩; conv => whnf
  (first | refine ov_c (by simp only [loK, hiK]; omega) ?_ | refine ov_c (by decide) ?_); conv => whnf
  refine bsel_intro (fun c6 => ?_) (fun c6 => ?_) <;> try simp only [bsL] at c6
  · simp only [if_pos c6] at hk'
    have hww : ((W.set (4 + (t * 4 + rg)) 1).set (4 + (t * 4 + rg)) 0).set v n = (W.set v n).set (4 + (t * 4 + rg)) 0 := by
      rw [List.set_set, List.set_comm _ _ (by omega)]
    have hw5 : ((W.set (4 + (t * 4 + rg)) 1).set (4 + (t * 4 + rg)) 0).length = 16 := by rw [List.length_set]; exact hw4
    conv => whnf
    refine wr_intro (by exact storeCA atr sizW64 s4 (hin o2 hw4) (c3s (x := 0) o2) rfl rfl) (fun h5 at_h5 ot_h5 => ?_)
    try (conv => whnf)
    have s5 : h5 b3 = some (rowO 80 (cells3 A1 B ((W.set (4 + (t * 4 + rg)) 1).set (4 + (t * 4 + rg)) 0))) := at_h5
    have z5 := (ot_h5 b6 (Ne.symm d36)).trans z4
    have le5 : h.le h5 := Hp.le_st n_b3 le4 ot_h5
    conv => whnf
    refine lay_x b3 _ A1 B _ t v n o1' o2 hw5 (by omega) ht s5 fun h6 s6 o6 => ?_
    rw [hww] at s6
    have z6 := (o6 b6 (Ne.symm d36)).trans z5
    have le6 : h.le h6 := Hp.le_st n_b3 le5 o6
    have hW9 : ((W.set v n).set (4 + (t * 4 + rg)) 0).length = 16 := by rw [List.length_set, List.length_set]; exact o3
    conv => whnf
    (first | refine need_intro (⟨by omega, by omega⟩) ?_ | refine must.mk (⟨by omega, by omega⟩) ?_); conv => whnf
    refine wr_intro (by exact storeCA atl sizI s6 (by rw [c3_len o1' hll hW9]; omega) (c3_setb o1' (by omega) 0) rfl rfl) (fun h7 at_h7 ot_h7 => ?_)
    try (conv => whnf)
    have b9 : h7 b3 = some (rowO 80 (cells3 A1 ((layL B t ((v : Int) + 1)).set t 0) ((W.set v n).set (4 + (t * 4 + rg)) 0))) := at_h7
    have z9 := (ot_h7 b6 (Ne.symm d36)).trans z6
    have le9 : h.le h7 := Hp.le_st n_b3 le6 ot_h7
    have hB9 : ((layL B t ((v : Int) + 1)).set t 0).length = 3 := by rw [List.length_set]; exact hll
    have hfin : St.mk A1 ((layL B t ((v : Int) + 1)).set t 0) ((W.set v n).set (4 + (t * 4 + rg)) 0) = _ := rfl
    have hcl := c3_len o1' hB9 hW9
    conv => whnf
    refine ⟨_, loadA0 aggSt sizSt b9 hcl, ?_⟩; conv => whnf
    refine wr_intro (by exact storeA0 sizSt z9 rfl hcl c3_one) (fun hA at_hA ot_hA => ?_)
    try (conv => whnf)
    conv => whnf
    refine ⟨_, loadA0 aggSt sizSt at_hA hcl, ?_⟩; conv => whnf
    exact hk' _ ⟨A1, _, _⟩ hfin (Hp.le_st n60 le9 ot_hA)
  · simp only [if_neg c6] at hk'
    conv => whnf
    (first | refine need_intro (⟨by omega, by omega⟩) ?_ | refine must.mk (⟨by omega, by omega⟩) ?_); conv => whnf
    refine wr_intro (by exact storeCA atl sizI s4 (by rw [c3_len o1' o2 hw4]; omega) (c3_setb o1' (by omega) 0) rfl rfl) (fun h7 at_h7 ot_h7 => ?_)
    try (conv => whnf)
    have b9 : h7 b3 = some (rowO 80 (cells3 A1 (B.set t 0) (W.set (4 + (t * 4 + rg)) 1))) := at_h7
    have z9 := (ot_h7 b6 (Ne.symm d36)).trans z4
    have le9 : h.le h7 := Hp.le_st n_b3 le4 ot_h7
    have hB9 : (B.set t 0).length = 3 := by rw [List.length_set]; exact o2
    have hW9 := hw4
    have hfin : St.mk A1 (B.set t 0) (W.set (4 + (t * 4 + rg)) 1) = _ := rfl
    have hcl := c3_len o1' hB9 hW9
    conv => whnf
    refine ⟨_, loadA0 aggSt sizSt b9 hcl, ?_⟩; conv => whnf
    refine wr_intro (by exact storeA0 sizSt z9 rfl hcl c3_one) (fun hA at_hA ot_hA => ?_)
    try (conv => whnf)
    conv => whnf
    refine ⟨_, loadA0 aggSt sizSt at_hA hcl, ?_⟩; conv => whnf
    exact hk' _ ⟨A1, _, _⟩ hfin (Hp.le_st n60 le9 ot_hA)
end
end Go.Proofs.YtciagjfemgfhgaaGreatDoor
