/-
  Lines of a script, side by side: how many are one, the program's and the document's.
-/
import Derived.Test.YtjipfibbkmmfbaaGreatDoorLibZ
import Derived.Test.YtjipfibbkmmfbaaGreatDoorLibU
import Derived.Test.YtjipfibbkmmfbaaGreatDoorMidXY
/-! Lines of a script, side by side: how many are one, the program's and the document's. -/
namespace Go.Proofs.YtjipfibbkmmfbaaGreatDoor
set_option linter.unusedSimpArgs false
set_option linter.unusedVariables false
open Go Go.Mid Go.RowKit
abbrev rfXStxA0 : Go.Mid.RF := [(2, 2), (12, 2), (3, 3), (7, 3), (16, 3), (19, 3), (28, 3)]
abbrev rfXStxA1 : Go.Mid.RF := [(2, 2), (12, 2), (3, 3), (6, 3), (10, 3), (18, 3), (23, 3), (28, 3), (32, 3), (37, 3), (40, 3)]
abbrev rfXStxA2 : Go.Mid.RF := [(1, 1), (10, 1), (14, 1), (16, 1), (22, 1), (27, 1), (32, 1), (39, 1), (47, 1), (54, 1), (5, 5), (8, 8)]
attribute [local irreducible] mid
section
set_option maxHeartbeats 8000000
set_option maxRecDepth 10000
variable {h : Hp} {K : Value → Hp → Prop}
structure Ln where
  w : Int
  n : Int
  on : Bool
  deriving DecidableEq
def Ln.v (x : Ln) : Value := .agg #[.int .i64 x.w, .int .i64 x.n, .bool x.on]
abbrev lv (L : List Ln) : List Value := L.map Ln.v
/-- From i on n lines are one. -/
def IsRun (L : List Ln) (i n : Nat) : Prop := ∃ x, L[i]? = some x ∧ 1 ≤ n ∧ i + n ≤ L.length ∧ (x.w ≠ 0 → n = 1) ∧ (∀ j, j < n → L[i + j]? = some x) ∧ (x.w = 0 → L[i + n]? ≠ some x)
theorem IsRun.one {L : List Ln} {i n m : Nat} (a : IsRun L i n) (b : IsRun L i m) : n = m := by
  obtain ⟨x, hx, a1, a2, a3, a4, a5⟩ := a
  obtain ⟨y, hy, b1, b2, b3, b4, b5⟩ := b
  rw [hx] at hy; cases hy
  by_cases hw : x.w = 0
  · rcases Nat.lt_trichotomy n m with h1 | h1 | h1
    · exact absurd (b4 n h1) (a5 hw)
    · exact h1
    · exact absurd (a4 m h1) (b5 hw)
  · rw [a3 hw, b3 hw]
theorem eqLn0 (a b : Int) (c : Bool) (d e : Int) (f : Bool) : eqW Tryz.prog 10000 44 (.agg #[.int .i64 a, .int .i64 b, .bool c]) (.agg #[.int .i64 d, .int .i64 e, .bool f]) = some ((a == d) && ((b == e) && ((c == f) && true))) := by kernel_rfl
theorem eqLn (x y : Ln) : eqW Tryz.prog 10000 44 (.agg #[.int .i64 x.w, .int .i64 x.n, .bool x.on]) (.agg #[.int .i64 y.w, .int .i64 y.n, .bool y.on]) = some (decide (x = y)) := by
  rw [eqLn0]
  congr 1
  obtain ⟨a, b, c⟩ := x
  obtain ⟨d, e, f⟩ := y
  rw [Bool.eq_iff_iff]
  simp
theorem aggL : isAggT Tryz.prog 44 = some true := by kernel_rfl
theorem sizL : sizeT Tryz.prog 44 = some 3 := by kernel_rfl
theorem aggK : isAggT Tryz.prog 42 = some false := by kernel_rfl
theorem rdL {s : Value} {L : List Ln} (r : Rd Tryz.prog 44 3 h s (lv L)) : ∃ base cap, s = .slice base L.length cap ∧ ∀ i x, L[i]? = some x → ∃ a, base = some a ∧ loadH Tryz.prog 44 h (a.add (i * 3)) = some x.v := by
  obtain ⟨base, cap, e, f⟩ := r
  refine ⟨base, cap, by rw [e]; simp [lv], fun i x hx => f i _ ?_⟩
  rw [lv, List.getElem?_map, hx]; rfl
theorem run_ex {L : List Ln} {i : Nat} {x : Ln} (hx : L[i]? = some x) (hw : x.w = 0) : ∀ (k m : Nat), i + m + k = L.length → 1 ≤ m → (∀ j, j < m → L[i + j]? = some x) → ∃ n, IsRun L i n
  | 0, m, hk, h1, hj => ⟨m, x, hx, h1, by omega, fun hh => absurd hw hh, hj, fun _ => by rw [List.getElem?_eq_none (by omega)]; simp⟩
  | k + 1, m, hk, h1, hj => by
    by_cases hm : L[i + m]? = some x
    · refine run_ex hx hw k (m + 1) (by omega) (by omega) fun j hjm => ?_
      by_cases e : j = m
      · subst e; exact hm
      · exact hj j (by omega)
    · exact ⟨m, x, hx, h1, by omega, fun hh => absurd hw hh, hj, fun _ => hm⟩
theorem run_is {L : List Ln} {i : Nat} (hi : i < L.length) : ∃ n, IsRun L i n := by
  have hx : L[i]? = some L[i] := List.getElem?_eq_getElem hi
  by_cases hw : L[i].w = 0
  · exact run_ex hx hw (L.length - (i + 1)) 1 (by omega) (by omega) fun j hj => by
      obtain rfl : j = 0 := by omega
      exact hx
  · exact ⟨1, L[i], hx, by omega, by omega, fun _ => rfl, fun j hj => by
      obtain rfl : j = 0 := by omega
      exact hx, fun hh => absurd hh hw⟩
theorem aggS : isAggT Tryz.prog 26 = some false := by kernel_rfl
/-- **The iterator over the lines**, whatever function it is given. I: what holds when the line i is next. -/
theorem runs1_x (y : Value) (b : Nat) (s : Value) (L : List Ln) (I : Nat → Hp → Prop) (hL : L.length ≤ 2 ^ 20)
    (hI : ∀ i h', I i h' → h' b = some (rowO 26 [s]) ∧ Rd Tryz.prog 44 3 h' s (lv L)) (h0 : I 0 h)
    (hs : ∀ i n x h', L[i]? = some x → IsRun L i n → I i h' → YV Tryz.prog y [x.v, .int .i64 n] h' fun v h'' => ∃ go : Bool, v = .bool go ∧ (go = true → I (i + n) h'') ∧ (go = false → K (.tuple #[]) h''))
    (hk : ∀ h', I L.length h' → K (.tuple #[]) h') : X Tryz.prog 33 #[y, .pointer (some ⟨b, 0, none⟩)] h K := by
  refine fnv (args := _) mixed [] [] [] Tryz.func33 rfl (by kernel_rfl) ?_; conv => whnf
  refine loop_at [3] [] (fun r vs _ h' => ∃ i : Nat, i ≤ L.length ∧ r = L.length - i ∧ vs = [.v (.int .i64 i)] ∧ I i h') L.length ⟨0, by omega, by omega, rfl, h0⟩ ?_
  rintro r vs cs mm bx h1 ⟨i, hi, rfl, rfl, hi1⟩
  obtain ⟨hb, hr⟩ := hI i h1 hi1
  obtain ⟨base, cap, rfl, f⟩ := rdL hr
  have eb : h1.cell? ⟨b, 0, none⟩ = some (.slice base L.length cap) := cell_row hb rfl
  conv => whnf
  refine ⟨_, loadC0 aggS hb rfl, ?_⟩; conv => whnf
  refine bsel_intro (fun q0 => ?_) (fun q0 => ?_) <;> try simp only [bsL] at q0
  · have hil : i < L.length := by omega
    obtain ⟨n, hn⟩ := run_is hil
    have hn0 := hn
    obtain ⟨x, hx, a1, a2, a3, a4, a5⟩ := hn0
    have hy := hs i n x h1 hx hn hi1
    obtain ⟨a, rfl, e1⟩ := f i x hx
    have e2 : h1.cell? ((a.add (i * 3)).add 0) = some (.int .i64 x.w) := loadH_cellOf aggL sizL e1 rfl
    have fin : ∀ m : Nat, m = n → YV Tryz.prog y [x.v, .int .i64 m] h1 fun v h'' => ∃ go : Bool, v = .bool go ∧ (go = true → I (i + m) h'') ∧ (go = false → K (.tuple #[]) h'') := fun m hm => by subst hm; exact hy
    clear hy hn
    conv => whnf
    refine loop_at [4] [] (fun r vs _ h' => h1 = h' ∧ ∃ m : Nat, 1 ≤ m ∧ m ≤ n ∧ r = n - m ∧ vs = [.v (.int .i64 m)]) (n - 1) ⟨rfl, 1, by omega, a1, by omega, rfl⟩ ?_
    rintro r vs cs mm bx _ ⟨rfl, m, hm1, hm2, rfl, rfl⟩
    conv => whnf
    refine ⟨_, loadC0 aggS hb rfl, ?_⟩; conv => whnf
    (first | refine need_intro (⟨by omega, by omega⟩) ?_ | refine must.mk (⟨by omega, by omega⟩) ?_); conv => whnf
    refine ⟨_, (loadH_cell aggK _ _).trans e2, ?_⟩; conv => whnf
    refine bsel_intro (fun q1 => ?_) (fun q1 => ?_) <;> try simp only [bsL] at q1
    · conv => whnf
      (first | refine ov_c (by simp only [loK, hiK]; omega) ?_ | refine ov_c (by decide) ?_); conv => whnf
      refine ⟨_, loadC0 aggS hb rfl, ?_⟩; conv => whnf
      refine bsel_intro (fun q2 => ?_) (fun q2 => ?_) <;> try simp only [bsL] at q2
      · have hj : i + m < L.length := by omega
        have hy : L[i + m]? = some L[i + m] := List.getElem?_eq_getElem hj
        generalize L[i + m] = z at hy
        obtain ⟨_, ea, e3⟩ := f (i + m) z hy
        cases ea
        have e4 : loadH Tryz.prog 44 h1 (a.add (((i : Int) + (m : Int)).toNat * 3)) = some z.v := by rw [show ((i : Int) + (m : Int)).toNat = i + m by omega]; exact e3
        conv => whnf
        refine ⟨_, loadC0 aggS hb rfl, ?_⟩; conv => whnf
        (first | refine ov_c (by simp only [loK, hiK]; omega) ?_ | refine ov_c (by decide) ?_); conv => whnf
        (first | refine need_intro (⟨by omega, by omega⟩) ?_ | refine must.mk (⟨by omega, by omega⟩) ?_); conv => whnf
        refine ⟨_, e4, ?_⟩; conv => whnf
        refine ⟨_, loadC0 aggS hb rfl, ?_⟩; conv => whnf
        (first | refine need_intro (⟨by omega, by omega⟩) ?_ | refine must.mk (⟨by omega, by omega⟩) ?_); conv => whnf
        refine ⟨_, e1, ?_⟩; conv => whnf
        refine must.mk (by kernel_rfl) ?_
        rw [eqLn]
        conv => whnf
        refine bsel_intro (fun q3 => ?_) (fun q3 => ?_) <;> try simp only [bsL] at q3
        · subst q3
          have hmn : m ≠ n := fun e => by subst e; exact a5 q1 hy
          conv => whnf
          (first | refine ov_c (by simp only [loK, hiK]; omega) ?_ | refine ov_c (by decide) ?_); conv => whnf
          refine ⟨n - (m + 1), by omega, rfl, m + 1, by omega, by omega, by omega, rfl⟩
        · have hmn : m = n := by
            refine Classical.byContradiction fun hc => ?_
            rw [a4 m (by omega)] at hy
            cases hy
            exact q3 rfl
          conv => whnf
          refine ⟨_, loadC0 aggS hb rfl, ?_⟩; conv => whnf
          (first | refine need_intro (⟨by omega, by omega⟩) ?_ | refine must.mk (⟨by omega, by omega⟩) ?_); conv => whnf
          refine ⟨_, e1, ?_⟩; conv => whnf
          refine aRunK_yv rfl rfl rfl ((fin m hmn).mono ?_)
          rintro v h2 ⟨go, rfl, g1, g2⟩
          cases go with
          | false =>
            conv => whnf
            exact g2 rfl
          | true =>
            conv => whnf
            (first | refine ov_c (by simp only [loK, hiK]; omega) ?_ | refine ov_c (by decide) ?_); conv => whnf
            refine ⟨L.length - (i + m), by omega, i + m, by omega, rfl, ?_, g1 rfl⟩
            show [MV.v (.int .i64 ((i : Int) + (m : Int)))] = _
            rw [show ((i + m : Nat) : Int) = (i : Int) + (m : Int) by omega]
      · have hmn : m = n := by omega
        conv => whnf
        refine ⟨_, loadC0 aggS hb rfl, ?_⟩; conv => whnf
        (first | refine need_intro (⟨by omega, by omega⟩) ?_ | refine must.mk (⟨by omega, by omega⟩) ?_); conv => whnf
        refine ⟨_, e1, ?_⟩; conv => whnf
        refine aRunK_yv rfl rfl rfl ((fin m hmn).mono ?_)
        rintro v h2 ⟨go, rfl, g1, g2⟩
        cases go with
        | false =>
          conv => whnf
          exact g2 rfl
        | true =>
          conv => whnf
          (first | refine ov_c (by simp only [loK, hiK]; omega) ?_ | refine ov_c (by decide) ?_); conv => whnf
          refine ⟨L.length - (i + m), by omega, i + m, by omega, rfl, ?_, g1 rfl⟩
          show [MV.v (.int .i64 ((i : Int) + (m : Int)))] = _
          rw [show ((i + m : Nat) : Int) = (i : Int) + (m : Int) by omega]
    · have hmn : m = n := by have := a3 q1; omega
      conv => whnf
      refine ⟨_, loadC0 aggS hb rfl, ?_⟩; conv => whnf
      (first | refine need_intro (⟨by omega, by omega⟩) ?_ | refine must.mk (⟨by omega, by omega⟩) ?_); conv => whnf
      refine ⟨_, e1, ?_⟩; conv => whnf
      refine aRunK_yv rfl rfl rfl ((fin m hmn).mono ?_)
      rintro v h2 ⟨go, rfl, g1, g2⟩
      cases go with
      | false =>
        conv => whnf
        exact g2 rfl
      | true =>
        conv => whnf
        (first | refine ov_c (by simp only [loK, hiK]; omega) ?_ | refine ov_c (by decide) ?_); conv => whnf
        refine ⟨L.length - (i + m), by omega, i + m, by omega, rfl, ?_, g1 rfl⟩
        show [MV.v (.int .i64 ((i : Int) + (m : Int)))] = _
        rw [show ((i + m : Nat) : Int) = (i : Int) + (m : Int) by omega]
  · have : i = L.length := by omega
    subst this
    conv => whnf
    exact hk _ hi1
theorem aggb : isAggT Tryz.prog 4 = some false := by kernel_rfl
theorem sizb : sizeT Tryz.prog 4 = some 1 := by kernel_rfl
theorem aggi : isAggT Tryz.prog 3 = some false := by kernel_rfl
theorem sizi : sizeT Tryz.prog 3 = some 1 := by kernel_rfl
/-- The iterator itself: a function that holds the lines. -/
theorem runs_x (base : Option Addr) (len cap : Nat) (hk : ∀ b h', h b = none → h.le h' → h' b = some (rowO 26 [.slice base len cap]) → (∀ c, c ≠ b → h' c = h c) → K (.func (.func 33) #[] #[.pointer (some ⟨b, 0, none⟩)]) h') :
    X Tryz.prog 14 #[.slice base len cap] h K := by
  refine fnv (args := _) mixed [] [] [] Tryz.func14 rfl (by kernel_rfl) ?_; conv => whnf
  refine new_intro (o := rowO 26 [.slice base len cap]) (fun b h1 n_b le_b at_b ot_b => ?_); conv => whnf
  exact hk b h1 n_b le_b at_b ot_b
end
end Go.Proofs.YtjipfibbkmmfbaaGreatDoor
/-! Scripts: what may be, the leaves. -/
namespace Go.Proofs.YtjipfibbkmmfbaaGreatDoor
set_option linter.unusedSimpArgs false
set_option linter.unusedVariables false
open Go Go.Mid Go.RowKit
attribute [local irreducible] mid
section
set_option maxHeartbeats 8000000
set_option maxRecDepth 10000
variable {h : Hp} {K : Value → Hp → Prop}
theorem w99_x (a b : Int) (hk : K (.bool (decide (1 ≤ a ∧ a ≤ b))) h) : X Tryz.prog 44 #[.int .i64 a, .int .i64 b] h K := by
  refine fnv (args := _) mixed [] [] [] Tryz.func44 rfl (by kernel_rfl) ?_; conv => whnf
  refine bsel_intro (fun q1 => ?_) (fun q1 => ?_) <;> try simp only [bsL] at q1
  · conv => whnf
    exact kq hk (bI (by rw [Bool.eq_iff_iff]; simp; omega))
  · conv => whnf
    exact kq hk (bI (by rw [Bool.eq_iff_iff]; simp; omega))
theorem w100_x (a b c : Int) (hk : K (.bool (decide (b ≤ a ∧ a ≤ c))) h) : X Tryz.prog 45 #[.int .i64 a, .int .i64 b, .int .i64 c] h K := by
  refine fnv (args := _) mixed [] [] [] Tryz.func45 rfl (by kernel_rfl) ?_; conv => whnf
  refine bsel_intro (fun q1 => ?_) (fun q1 => ?_) <;> try simp only [bsL] at q1
  · conv => whnf
    exact kq hk (bI (by rw [Bool.eq_iff_iff]; simp; omega))
  · conv => whnf
    exact kq hk (bI (by rw [Bool.eq_iff_iff]; simp; omega))
structure Cf where
  a : Int
  b : Int
  c : Int
  d : Int
  deriving DecidableEq
abbrev Cf.cs (c : Cf) : List Value := [.int .i64 c.a, .int .i64 c.b, .int .i64 c.c, .int .i64 c.d]
abbrev Cf.v (c : Cf) : Value := .agg #[.int .i64 c.a, .int .i64 c.b, .int .i64 c.c, .int .i64 c.d]
structure Cf.right (c : Cf) : Prop where
  a0 : 1 ≤ c.a
  a1 : c.a ≤ 8
  b0 : 1 ≤ c.b
  b1 : c.b ≤ 64
  c0 : 1 ≤ c.c
  c1 : c.c ≤ 4096
  d0 : 1 ≤ c.d
  d1 : c.d ≤ 32
def rightB (c : Cf) : Bool := decide (1 ≤ c.a ∧ c.a ≤ 8 ∧ 1 ≤ c.b ∧ c.b ≤ 64 ∧ 1 ≤ c.c ∧ c.c ≤ 4096 ∧ 1 ≤ c.d ∧ c.d ≤ 32)
theorem rightB_iff (c : Cf) : rightB c = true ↔ c.right := by
  unfold rightB
  rw [decide_eq_true_iff]
  exact ⟨fun ⟨h1, h2, h3, h4, h5, h6, h7, h8⟩ => ⟨h1, h2, h3, h4, h5, h6, h7, h8⟩, fun ⟨h1, h2, h3, h4, h5, h6, h7, h8⟩ => ⟨h1, h2, h3, h4, h5, h6, h7, h8⟩⟩
theorem right_x (c : Cf) (hk : K (.bool (rightB c)) h) : X Tryz.prog 24 #[c.v] h K := by
  unfold rightB at hk
  refine fnv (args := _) mixed [(1, 1), (3, 1), (7, 1), (12, 1), (17, 1)] [] [] Tryz.func24 rfl (by kernel_rfl) ?_; conv => whnf
  repeat' first
    | (refine need_intro (by omega) ?_; conv => whnf)
    | (refine w99_x _ _ ?_; conv => whnf)
    | ((first | refine ov_i64 (by omega) ?_ | refine ov_u64 (by omega) ?_ | refine ov_i64 (by decide) ?_ | refine ov_u64 (by decide) ?_ | refine ov_u8 (by omega) ?_ | refine ov_i32 (by omega) ?_ | refine ov_u32 (by omega) ?_); conv => whnf)
    | (refine ⟨trivial, ?_⟩; conv => whnf)
    | (refine bsel_intro (fun hq => ?_) (fun hq => ?_) <;> (try simp only [decide_eq_true_eq, decide_eq_false_iff_not, beq_iff_eq, beq_eq_false_iff_ne, ne_eq, Bool.not_eq_true', Bool.not_eq_false', bne_iff_ne, bne_eq_false_iff_eq, Bool.not_eq_true, Bool.not_eq_false, Bool.and_eq_true, Bool.or_eq_true, bs_size] at hq) <;> conv => whnf)
  all_goals exact kq hk (bI (by rw [Bool.eq_iff_iff]; simp; omega))
def partE (c at_ len : Int) : Int := if len < 1 ∨ 256 < len then 4 else if at_ < 2147483648 ∨ 2147483648 + 64 * c < at_ + len then 3 else 0
theorem part_x (c : Cf) (hc : c.right) (at_ : Int) (hat0 : 0 ≤ at_) (hat : at_ < 18446744073709551616) (base : Option Addr) (len cap : Nat) (hl : len ≤ 9223372036854775807) (hk : K (.int .i64 (partE c.c at_ len)) h) : X Tryz.prog 26 #[c.v, .agg #[.int .u64 at_, .slice base len cap]] h K := by
  have c0 := hc.c0
  have c1 := hc.c1
  unfold partE at hk
  refine fnv (args := _) mixed rfXStxA0 [] [] Tryz.func26 rfl (by kernel_rfl) ?_; conv => whnf
  refine w100_x _ _ _ ?_
  conv => whnf
  refine bsel_intro (fun q1 => ?_) (fun q1 => ?_) <;> try simp only [bsL] at q1
  · rw [if_pos (by omega)] at hk
    conv => whnf
    exact hk
  rw [if_neg (by omega)] at hk
  conv => whnf
  refine ov_u64 (by omega) ?_; conv => whnf
  refine ov_u64 (by omega) ?_; conv => whnf
  by_cases hlt : at_ < 2147483648
  · rw [if_pos (by omega)] at hk
    refine ov_wrap ?_
    conv => whnf
    refine bsel_true (by simp; omega) ?_; conv => whnf
    exact hk
  · refine ov_u64 (by omega) ?_; conv => whnf
    refine bsel_false (by simp; omega) ?_; conv => whnf
    refine bsel_intro (fun q2 => ?_) (fun q2 => ?_) <;> try simp only [bsL] at q2
    · rw [if_pos (by omega)] at hk
      conv => whnf
      exact hk
    · conv => whnf
      refine ov_u64 (by omega) ?_; conv => whnf
      refine ov_u64 (by omega) ?_; conv => whnf
      refine bsel_intro (fun q3 => ?_) (fun q3 => ?_) <;> try simp only [bsL] at q3
      · rw [if_pos (by omega)] at hk
        conv => whnf
        exact hk
      · rw [if_neg (by omega)] at hk
        conv => whnf
        exact hk
def lineE (a : Int) (l : Ln) : Int := if l.w < 0 ∨ 3 < l.w ∨ (l.on = true ∧ l.w ≠ 3) then 1 else if (l.w = 0 ∧ (l.n < 0 ∨ a ≤ l.n)) ∨ (l.w = 1 ∧ l.n < 0) ∨ (l.w = 2 ∧ (l.n < 0 ∨ 255 < l.n)) ∨ (l.w = 3 ∧ (l.n < 1 ∨ 31 < l.n ∨ l.n = 10)) then 3 else 0
theorem line_x36 (c : Cf) (hc : c.right) (l : Ln) (hk : K (.int .i64 (lineE c.a l)) h) : X Tryz.prog 27 #[c.v, .agg #[.int .i64 l.w, .int .i64 l.n, .bool l.on]] h K := by
  have c0 := hc.a0
  have c1 := hc.a1
  obtain ⟨w, n, on⟩ := l
  cases on
  all_goals
    unfold lineE at hk
    refine fnv (args := _) mixed rfXStxA1 [] [] Tryz.func27 rfl (by kernel_rfl) ?_; conv => whnf
    repeat' first
      | (refine need_intro (by omega) ?_; conv => whnf)
      | (refine w100_x _ _ _ ?_; conv => whnf)
      | ((first | refine ov_i64 (by omega) ?_ | refine ov_u64 (by omega) ?_ | refine ov_i64 (by decide) ?_ | refine ov_u64 (by decide) ?_ | refine ov_u8 (by omega) ?_ | refine ov_i32 (by omega) ?_ | refine ov_u32 (by omega) ?_); conv => whnf)
      | (refine ⟨trivial, ?_⟩; conv => whnf)
      | (refine bsel_intro (fun hq => ?_) (fun hq => ?_) <;> (try simp only [decide_eq_true_eq, decide_eq_false_iff_not, beq_iff_eq, beq_eq_false_iff_ne, ne_eq, Bool.not_eq_true', Bool.not_eq_false', bne_iff_ne, bne_eq_false_iff_eq, Bool.not_eq_true, Bool.not_eq_false, Bool.and_eq_true, Bool.or_eq_true, bs_size] at hq) <;> conv => whnf)
  all_goals exact kq hk (iI (by simp; (repeat split) <;> omega))
structure Bu where
  b0 : Int
  b1 : Int
  b2 : Int
  b3 : Int
  b4 : Int
  b5 : Int
  b6 : Int
  b7 : Int
  deriving DecidableEq
abbrev Bu.l (b : Bu) : List Int := [b.b0, b.b1, b.b2, b.b3, b.b4, b.b5, b.b6, b.b7]
abbrev Bu.cs (b : Bu) : List Value := [.int .i64 b.b0, .int .i64 b.b1, .int .i64 b.b2, .int .i64 b.b3, .int .i64 b.b4, .int .i64 b.b5, .int .i64 b.b6, .int .i64 b.b7]
def Bu.at (b : Bu) (i : Nat) : Int := b.l.getD i 0
theorem bu_at (b : Bu) {i : Nat} (hi : i < 8) : b.cs[i]? = some (.int .i64 (b.at i)) := by
  match i, hi with
  | 0, _ => rfl
  | 1, _ => rfl
  | 2, _ => rfl
  | 3, _ => rfl
  | 4, _ => rfl
  | 5, _ => rfl
  | 6, _ => rfl
  | 7, _ => rfl
def budOk (a : Int) (b : Bu) (i : Nat) : Prop := ((i : Int) < a → 0 ≤ b.at i ∧ b.at i ≤ 1000) ∧ (a ≤ i → b.at i = 0)
instance (a : Int) (b : Bu) (i : Nat) : Decidable (budOk a b i) := by unfold budOk; infer_instance
def budE (a : Int) (b : Bu) : Int := if ∀ i : Nat, i < 8 → budOk a b i then 0 else 3
theorem budE_bad {a : Int} {b : Bu} {i : Nat} (hi : i < 8) (h : ¬ budOk a b i) : budE a b = 3 := if_neg fun hh => h (hh i hi)
theorem budgets_x (c : Cf) (b : Bu) (hk : K (.int .i64 (budE c.a b)) h) : X Tryz.prog 25 #[c.v, .agg #[.int .i64 b.b0, .int .i64 b.b1, .int .i64 b.b2, .int .i64 b.b3, .int .i64 b.b4, .int .i64 b.b5, .int .i64 b.b6, .int .i64 b.b7]] h K := by
  refine fnv (args := _) mixed [(2, 2), (13, 2), (23, 2), (3, 3)] [] [] Tryz.func25 rfl (by kernel_rfl) ?_; conv => whnf
  refine loop_at [8] [2] (fun r vs cs h' => h = h' ∧ cs = [some c.cs] ∧ ∃ i : Nat, i ≤ 8 ∧ r = 8 - i ∧ vs = [.v (.int .i64 i)] ∧ ∀ j, j < i → budOk c.a b j) 8 ⟨rfl, rfl, 0, by omega, by omega, rfl, fun j hj => by omega⟩ ?_
  rintro r vs cs mm bx _ ⟨rfl, rfl, i, hi, rfl, rfl, hg⟩
  conv => whnf
  refine bsel_intro (fun q1 => ?_) (fun q1 => ?_) <;> try simp only [bsL] at q1
  · have hi8 : i < 8 := by omega
    conv => whnf
    refine need_intro ⟨by omega, by show _ < ((8 : Nat) : Int); omega⟩ ?_
    refine part_cell (cs := b.cs) (k := i) (v := .int .i64 (b.at i)) aggIn (by rw [show ((i : Int)).toNat = i by omega]; exact Nat.mul_one _) (bu_at b hi8) ?_
    generalize hv : b.at i = v at *
    conv => whnf
    refine bsel_intro (fun q2 => ?_) (fun q2 => ?_) <;> try simp only [bsL] at q2
    · conv => whnf
      refine w100_x _ _ _ ?_
      conv => whnf
      refine bsel_intro (fun q3 => ?_) (fun q3 => ?_) <;> try simp only [bsL] at q3
      · have hb : ¬ budOk c.a b i := fun ⟨g1, g2⟩ => by omega
        rw [budE_bad hi8 hb] at hk
        conv => whnf
        exact hk
      · conv => whnf
        refine bsel_false (by simp; omega) ?_; conv => whnf
        have hb : budOk c.a b i := ⟨fun _ => by omega, fun _ => by omega⟩
        conv => whnf
        (first | refine ov_c (by simp only [loK, hiK]; omega) ?_ | refine ov_c (by decide) ?_); conv => whnf
        exact ⟨8 - (i + 1), by omega, rfl, rfl, i + 1, by omega, rfl, rfl, fun j hj => by
          by_cases e : j = i
          · subst e; exact hb
          · exact hg j (by omega)⟩
    · conv => whnf
      refine bsel_true (by simp; omega) ?_; conv => whnf
      refine bsel_intro (fun q3 => ?_) (fun q3 => ?_) <;> try simp only [bsL] at q3
      · have hb : ¬ budOk c.a b i := fun ⟨g1, g2⟩ => by omega
        rw [budE_bad hi8 hb] at hk
        conv => whnf
        exact hk
      · have hb : budOk c.a b i := ⟨fun _ => by omega, fun _ => by omega⟩
        conv => whnf
        (first | refine ov_c (by simp only [loK, hiK]; omega) ?_ | refine ov_c (by decide) ?_); conv => whnf
        exact ⟨8 - (i + 1), by omega, rfl, rfl, i + 1, by omega, rfl, rfl, fun j hj => by
          by_cases e : j = i
          · subst e; exact hb
          · exact hg j (by omega)⟩
  · have : i = 8 := by omega
    subst this
    have hb : budE c.a b = 0 := if_pos fun j hj => hg j (by omega)
    rw [hb] at hk
    conv => whnf
    exact hk
end
end Go.Proofs.YtjipfibbkmmfbaaGreatDoor
/-! Scripts: what may be. -/
namespace Go.Proofs.YtjipfibbkmmfbaaGreatDoor
set_option linter.unusedSimpArgs false
set_option linter.unusedVariables false
open Go Go.Mid Go.RowKit
attribute [local irreducible] mid
section
set_option maxHeartbeats 8000000
set_option maxRecDepth 10000
variable {h : Hp} {K : Value → Hp → Prop}
structure Pt where
  at_ : Nat
  sl : Value
  b : Str
structure Sc where
  c : Cf
  u : Bu
  ps : Value
  P : List Pt
  ls : Value
  L : List Ln
abbrev Pt.v (p : Pt) : Value := .agg #[.int .u64 p.at_, p.sl]
abbrev Sc.cs (s : Sc) : List Value := [.int .i64 s.c.a, .int .i64 s.c.b, .int .i64 s.c.c, .int .i64 s.c.d, .int .i64 s.u.b0, .int .i64 s.u.b1, .int .i64 s.u.b2, .int .i64 s.u.b3, .int .i64 s.u.b4, .int .i64 s.u.b5, .int .i64 s.u.b6, .int .i64 s.u.b7, s.ps, s.ls]
abbrev Sc.v (s : Sc) : Value := .agg #[.int .i64 s.c.a, .int .i64 s.c.b, .int .i64 s.c.c, .int .i64 s.c.d, .int .i64 s.u.b0, .int .i64 s.u.b1, .int .i64 s.u.b2, .int .i64 s.u.b3, .int .i64 s.u.b4, .int .i64 s.u.b5, .int .i64 s.u.b6, .int .i64 s.u.b7, s.ps, s.ls]
/-- A part may be read. -/
structure Pt.ok (h : Hp) (p : Pt) : Prop where
  at_ : p.at_ < 18446744073709551616
  len : p.b.length ≤ 9223372036854775807
  rd : Rd Tryz.prog 5 1 h p.sl (p.b.map byV)
theorem Pt.ok.le {h h' : Hp} {p : Pt} (o : p.ok h) (hle : h.le h') : p.ok h' := ⟨o.at_, o.len, o.rd.le hle⟩
theorem Pt.ok.shape {p : Pt} (o : p.ok h) : ∃ base cap, p.sl = .slice base p.b.length cap ∧ ∀ i x, p.b[i]? = some x → ∃ a, base = some a ∧ h.cell? (a.add i) = some (byV x) := by
  obtain ⟨base, cap, e, f⟩ := o.rd
  refine ⟨base, cap, by rw [e]; simp, fun i x hx => ?_⟩
  obtain ⟨a, ea, hl⟩ := f i (byV x) (by rw [List.getElem?_map, hx]; rfl)
  refine ⟨a, ea, ?_⟩
  rw [loadH_cell aggU8, Nat.mul_one] at hl
  exact hl
/-- s may be read; T: the type of its parts. -/
structure Sc.ok (T : TypeId) (h : Hp) (s : Sc) : Prop where
  a0 : -9223372036854775808 ≤ s.c.a
  a1 : s.c.a ≤ 9223372036854775807
  b0 : -9223372036854775808 ≤ s.c.b
  b1 : s.c.b ≤ 9223372036854775807
  c0 : -9223372036854775808 ≤ s.c.c
  c1 : s.c.c ≤ 9223372036854775807
  d0 : -9223372036854775808 ≤ s.c.d
  d1 : s.c.d ≤ 9223372036854775807
  ps : Rd Tryz.prog T 2 h s.ps (s.P.map Pt.v)
  P : ∀ p ∈ s.P, p.ok h
  lP : s.P.length ≤ 9223372036854775807
  ls : Rd Tryz.prog 44 3 h s.ls (lv s.L)
  lL : s.L.length ≤ 9223372036854775807
  L : ∀ l ∈ s.L, -9223372036854775808 ≤ l.n ∧ l.n ≤ 9223372036854775807
theorem Sc.ok.le {T : TypeId} {h h' : Hp} {s : Sc} (o : s.ok T h) (hle : h.le h') : s.ok T h' :=
  ⟨o.a0, o.a1, o.b0, o.b1, o.c0, o.c1, o.d0, o.d1, o.ps.le hle, fun p hp => (o.P p hp).le hle, o.lP, o.ls.le hle, o.lL, o.L⟩
theorem Sc.ok.shapeP {T : TypeId} {s : Sc} (o : s.ok T h) : ∃ base cap, s.ps = .slice base s.P.length cap ∧ ∀ i x, s.P[i]? = some x → ∃ a, base = some a ∧ loadH Tryz.prog T h (a.add (i * 2)) = some x.v := by
  obtain ⟨base, cap, e, f⟩ := o.ps
  refine ⟨base, cap, by rw [e]; simp, fun i x hx => f i _ ?_⟩
  rw [List.getElem?_map, hx]; rfl
def firstNZ : List Int → Int
  | [] => 0
  | x :: l => if x ≠ 0 then x else firstNZ l
theorem firstNZ_at : ∀ (l : List Int) (i : Nat) (x : Int), (∀ j y, j < i → l[j]? = some y → y = 0) → l[i]? = some x → x ≠ 0 → firstNZ l = x
  | [], i, x, _, h, _ => by simp at h
  | y :: l, 0, x, _, h, hx => by
    simp at h; subst h
    rw [firstNZ, if_pos hx]
  | y :: l, i + 1, x, hj, h, hx => by
    have := hj 0 y (by omega) rfl
    rw [firstNZ, if_neg (by simpa using this)]
    exact firstNZ_at l i x (fun j z hji hz => hj (j + 1) z (by omega) (by simpa using hz)) (by simpa using h) hx
theorem firstNZ_all : ∀ (l : List Int), (∀ j y, j < l.length → l[j]? = some y → y = 0) → firstNZ l = 0
  | [], _ => rfl
  | y :: l, hj => by
    have := hj 0 y (by simp) rfl
    rw [firstNZ, if_neg (by simpa using this)]
    exact firstNZ_all l fun j z hjl hz => hj (j + 1) z (by simpa using hjl) (by simpa using hz)
def partsE (s : Sc) : List Int := s.P.map fun p => partE s.c.c p.at_ p.b.length
def linesE (s : Sc) : List Int := s.L.map fun l => lineE s.c.a l
def checkE (s : Sc) : Int := if rightB s.c = false then 1 else if budE s.c.a s.u ≠ 0 then budE s.c.a s.u else if 256 < s.P.length ∨ 60000 < s.L.length then 4 else
  if firstNZ (partsE s) ≠ 0 then firstNZ (partsE s) else firstNZ (linesE s)
theorem pt_load {T : TypeId} {n : Nat} {a : Addr} {s : Sc} {i : Nat} {p : Pt} (e : loadH Tryz.prog T h (a.add (i * 2)) = some p.v) : loadH Tryz.prog T h (a.add (((i : Int)).toNat * 2)) = some p.v := by rw [show ((i : Int)).toNat = i by omega]; exact e
theorem check_x (s : Sc) (ho : s.ok 41 h) (hk : K (.int .i64 (checkE s)) h) : X Tryz.prog 9 #[s.v] h K := by
  unfold checkE at hk
  obtain ⟨bP, cP, eP, fP⟩ := ho.shapeP
  obtain ⟨bL, cL, eL, fL⟩ := rdL ho.ls
  have lP := ho.lP
  have lL := ho.lL
  obtain ⟨c, u, ps, P, ls, L⟩ := s
  simp only at eP eL fP fL lP lL hk
  subst eP
  subst eL
  refine fnv (args := _) mixed rfXStxA2 [] [] Tryz.func9 rfl (by kernel_rfl) ?_; conv => whnf
  refine right_x c ?_
  conv => whnf
  refine bsel_intro (fun q1 => ?_) (fun q1 => ?_)
  · have q1 : rightB c = false := by simpa using q1
    rw [if_pos q1] at hk
    conv => whnf
    exact hk
  have q1 : rightB c = true := by simpa using q1
  have hcr := (rightB_iff c).1 q1
  rw [if_neg (by simp [q1])] at hk
  conv => whnf
  refine budgets_x c u ?_
  conv => whnf
  refine bsel_intro (fun q2 => ?_) (fun q2 => ?_) <;> try simp only [bsL] at q2
  · rw [if_pos q2] at hk
    conv => whnf
    exact hk
  rw [if_neg (fun hh => hh q2)] at hk
  conv => whnf
  refine bsel_intro (fun q3 => ?_) (fun q3 => ?_) <;> try simp only [bsL] at q3
  · rw [if_pos (by omega)] at hk
    conv => whnf
    exact hk
  conv => whnf
  refine bsel_intro (fun q4 => ?_) (fun q4 => ?_) <;> try simp only [bsL] at q4
  · rw [if_pos (by omega)] at hk
    conv => whnf
    exact hk
  rw [if_neg (by omega)] at hk
  conv => whnf
  refine loop_at [35] [1] (fun r vs cs h' => h = h' ∧ cs = [some (Sc.cs ⟨c, u, .slice bP P.length cP, P, .slice bL L.length cL, L⟩)] ∧ ∃ i : Nat, i ≤ P.length ∧ r = P.length - i ∧ vs = [.v (.int .i64 i)] ∧ ∀ j y, j < i → (partsE ⟨c, u, .slice bP P.length cP, P, .slice bL L.length cL, L⟩)[j]? = some y → y = 0) P.length ⟨rfl, rfl, 0, by omega, by omega, rfl, fun j y hj => by omega⟩ ?_
  rintro r vs cs mm bx _ ⟨rfl, rfl, i, hi, rfl, rfl, hg⟩
  conv => whnf
  refine bsel_intro (fun q5 => ?_) (fun q5 => ?_) <;> try simp only [bsL] at q5
  · have hiP : i < P.length := by omega
    obtain ⟨p, hp⟩ : ∃ p, P[i]? = some p := ⟨_, List.getElem?_eq_getElem hiP⟩
    have hpo := ho.P p (List.mem_of_getElem? hp)
    obtain ⟨a, rfl, e1⟩ := fP i p hp
    have hpe : (partsE ⟨c, u, .slice (some a) P.length cP, P, .slice bL L.length cL, L⟩)[i]? = some (partE c.c p.at_ p.b.length) := by
      unfold partsE
      rw [List.getElem?_map, hp]; rfl
    obtain ⟨bB, cB, eB, _⟩ := hpo.shape
    have hpa := hpo.at_
    have hpl := hpo.len
    obtain ⟨at_, sl, b⟩ := p
    simp only at eB hpa hpl hpe
    subst eB
    conv => whnf
    (first | refine need_intro (⟨by omega, by omega⟩) ?_ | refine must.mk (⟨by omega, by omega⟩) ?_); conv => whnf
    have e2 : loadH Tryz.prog 41 h (a.add (((i : Int)).toNat * 2)) = some (.agg #[.int .u64 at_, .slice bB b.length cB]) := by rw [show ((i : Int)).toNat = i by omega]; exact e1
    refine ⟨_, e2, ?_⟩; conv => whnf
    refine part_x c hcr at_ (by omega) (by omega) bB b.length cB hpl ?_
    conv => whnf
    refine bsel_intro (fun q6 => ?_) (fun q6 => ?_) <;> try simp only [bsL] at q6
    · have := firstNZ_at _ i _ hg hpe q6
      rw [this, if_pos q6] at hk
      conv => whnf
      exact hk
    · conv => whnf
      (first | refine ov_c (by simp only [loK, hiK]; omega) ?_ | refine ov_c (by decide) ?_); conv => whnf
      refine ⟨P.length - (i + 1), by omega, rfl, rfl, i + 1, by omega, rfl, rfl, fun j y hj hy => ?_⟩
      by_cases e : j = i
      · subst e; rw [hpe] at hy; cases hy; exact q6
      · exact hg j y (by omega) hy
  · have : i = P.length := by omega
    subst this
    have h0 := firstNZ_all (partsE ⟨c, u, .slice bP P.length cP, P, .slice bL L.length cL, L⟩) fun j y hj hy => hg j y (by simpa [partsE] using hj) hy
    rw [h0, if_neg (by simp)] at hk
    clear hg h0
    conv => whnf
    refine loop_at [50] [1] (fun r vs cs h' => h = h' ∧ cs = [some (Sc.cs ⟨c, u, .slice bP P.length cP, P, .slice bL L.length cL, L⟩)] ∧ ∃ i : Nat, i ≤ L.length ∧ r = L.length - i ∧ vs = [.v (.int .i64 i)] ∧ ∀ j y, j < i → (linesE ⟨c, u, .slice bP P.length cP, P, .slice bL L.length cL, L⟩)[j]? = some y → y = 0) L.length ⟨rfl, rfl, 0, by omega, by omega, rfl, fun j y hj => by omega⟩ ?_
    rintro r vs cs mm bx _ ⟨rfl, rfl, i, hi, rfl, rfl, hg⟩
    conv => whnf
    refine bsel_intro (fun q6 => ?_) (fun q6 => ?_) <;> try simp only [bsL] at q6
    · have hiL : i < L.length := by omega
      obtain ⟨l, hl⟩ : ∃ l, L[i]? = some l := ⟨_, List.getElem?_eq_getElem hiL⟩
      obtain ⟨a, rfl, e1⟩ := fL i l hl
      have hle : (linesE ⟨c, u, .slice bP P.length cP, P, .slice (some a) L.length cL, L⟩)[i]? = some (lineE c.a l) := by
        unfold linesE
        rw [List.getElem?_map, hl]; rfl
      conv => whnf
      (first | refine need_intro (⟨by omega, by omega⟩) ?_ | refine must.mk (⟨by omega, by omega⟩) ?_); conv => whnf
      have e2 : loadH Tryz.prog 44 h (a.add (((i : Int)).toNat * 3)) = some (.agg #[.int .i64 l.w, .int .i64 l.n, .bool l.on]) := by rw [show ((i : Int)).toNat = i by omega]; exact e1
      refine ⟨_, e2, ?_⟩; conv => whnf
      refine line_x36 c hcr l ?_
      conv => whnf
      refine bsel_intro (fun q7 => ?_) (fun q7 => ?_) <;> try simp only [bsL] at q7
      · have := firstNZ_at _ i _ hg hle q7
        rw [this] at hk
        conv => whnf
        exact hk
      · conv => whnf
        (first | refine ov_c (by simp only [loK, hiK]; omega) ?_ | refine ov_c (by decide) ?_); conv => whnf
        refine ⟨L.length - (i + 1), by omega, rfl, rfl, i + 1, by omega, rfl, rfl, fun j y hj hy => ?_⟩
        by_cases e : j = i
        · subst e; rw [hle] at hy; cases hy; exact q7
        · exact hg j y (by omega) hy
    · have : i = L.length := by omega
      subst this
      have h0 := firstNZ_all (linesE ⟨c, u, .slice bP P.length cP, P, .slice bL L.length cL, L⟩) fun j y hj hy => hg j y (by simpa [linesE] using hj) hy
      rw [h0] at hk
      conv => whnf
      exact hk
end
end Go.Proofs.YtjipfibbkmmfbaaGreatDoor
