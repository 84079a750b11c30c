/-
  Lines of a script, side by side: how many are one, the program's and the document's.
-/
import Derived.Test.YtclbommhagmpdaaDoorLibB
namespace Go.Proofs.YtclbommhagmpdaaDoor
set_option linter.unusedSimpArgs false
set_option linter.unusedVariables false
open Go Go.Mid Go.RowKit
attribute [local irreducible] mid
section
set_option maxHeartbeats 8000000
set_option maxRecDepth 10000
variable {h : Hp} {K : Value → Hp → Prop}
structure Ln where
  w : Int
  n : Int
  on : Bool
  deriving DecidableEq
def Ln.v (x : Ln) : Value := .agg #[.int .i64 x.w, .int .i64 x.n, .bool x.on]
abbrev lv (L : List Ln) : List Value := L.map Ln.v
/-- From i on n lines are one. -/
def IsRun (L : List Ln) (i n : Nat) : Prop := ∃ x, L[i]? = some x ∧ 1 ≤ n ∧ i + n ≤ L.length ∧ (x.w ≠ 0 → n = 1) ∧ (∀ j, j < n → L[i + j]? = some x) ∧ (x.w = 0 → L[i + n]? ≠ some x)
theorem IsRun.one {L : List Ln} {i n m : Nat} (a : IsRun L i n) (b : IsRun L i m) : n = m := by
  obtain ⟨x, hx, a1, a2, a3, a4, a5⟩ := a
  obtain ⟨y, hy, b1, b2, b3, b4, b5⟩ := b
  rw [hx] at hy; cases hy
  by_cases hw : x.w = 0
  · rcases Nat.lt_trichotomy n m with h1 | h1 | h1
    · exact absurd (b4 n h1) (a5 hw)
    · exact h1
    · exact absurd (a4 m h1) (b5 hw)
  · rw [a3 hw, b3 hw]
theorem eqLn0 (a b : Int) (c : Bool) (d e : Int) (f : Bool) : eqW Tryd.prog 10000 47 (.agg #[.int .i64 a, .int .i64 b, .bool c]) (.agg #[.int .i64 d, .int .i64 e, .bool f]) = some ((a == d) && ((b == e) && ((c == f) && true))) := by kernel_rfl
theorem eqLn (x y : Ln) : eqW Tryd.prog 10000 47 (.agg #[.int .i64 x.w, .int .i64 x.n, .bool x.on]) (.agg #[.int .i64 y.w, .int .i64 y.n, .bool y.on]) = some (decide (x = y)) := by
  rw [eqLn0]
  congr 1
  obtain ⟨a, b, c⟩ := x
  obtain ⟨d, e, f⟩ := y
  rw [Bool.eq_iff_iff]
  simp
theorem aggL : isAggT Tryd.prog 47 = some true := by kernel_rfl
theorem sizL : sizeT Tryd.prog 47 = some 3 := by kernel_rfl
theorem aggK : isAggT Tryd.prog 45 = some false := by kernel_rfl
theorem rdL {s : Value} {L : List Ln} (r : Rd Tryd.prog 47 3 h s (lv L)) : ∃ base cap, s = .slice base L.length cap ∧ ∀ i x, L[i]? = some x → ∃ a, base = some a ∧ loadH Tryd.prog 47 h (a.add (i * 3)) = some x.v := by
  obtain ⟨base, cap, e, f⟩ := r
  refine ⟨base, cap, by rw [e]; simp [lv], fun i x hx => f i _ ?_⟩
  rw [lv, List.getElem?_map, hx]; rfl
theorem rrun_x (s : Value) (L : List Ln) (i n : Nat) (hr : Rd Tryd.prog 47 3 h s (lv L)) (hL : L.length ≤ 2 ^ 20) (hn : IsRun L i n) (hk : K (.int .i64 n) h) : X Tryd.prog 15 #[s, .int .i64 i] h K := by
  obtain ⟨base, cap, rfl, f⟩ := rdL hr
  obtain ⟨x, hx, a1, a2, a3, a4, a5⟩ := hn
  obtain ⟨a, rfl, e1⟩ := f i x hx
  have hi : i < L.length := (List.getElem?_eq_some_iff.1 hx).1
  have e2 : h.cell? ((a.add (i * 3)).add 0) = some (.int .i64 x.w) := loadH_cellOf aggL sizL e1 rfl
  refine fnv (args := _) mixed [] [] [] Tryd.func15 rfl (by kernel_rfl) ?_
  conv => whnf
  refine loop_at [5] [] (fun r vs _ h' => h = h' ∧ ∃ m : Nat, 1 ≤ m ∧ m ≤ n ∧ r = n - m ∧ vs = [.v (.int .i64 m)]) (n - 1) ⟨rfl, 1, by omega, a1, by omega, rfl⟩ ?_
  rintro r vs cs mm bx _ ⟨rfl, m, hm1, hm2, rfl, rfl⟩
  conv => whnf
  first | refine need_intro (⟨by omega, by omega⟩) ?_ | refine must.mk (⟨by omega, by omega⟩) ?_
  conv => whnf
  refine ⟨_, (loadH_cell aggK _ _).trans e2, ?_⟩
  conv => whnf
  refine bsel_intro (fun q1 => ?_) (fun q1 => ?_) <;> try simp only [decide_eq_true_eq, decide_eq_false_iff_not, beq_iff_eq, beq_eq_false_iff_ne, ne_eq, Bool.not_eq_true', Bool.not_eq_false', bne_iff_ne, bne_eq_false_iff_eq, Bool.not_eq_true, Bool.not_eq_false, Bool.and_eq_true, Bool.or_eq_true, bs_size] at q1
  · conv => whnf
    first | refine ov_i64 (by omega) ?_ | refine ov_u64 (by omega) ?_ | refine ov_i64 (by decide) ?_ | refine ov_u64 (by decide) ?_ | refine ov_u8 (by omega) ?_ | refine ov_i32 (by omega) ?_ | refine ov_u32 (by omega) ?_
    conv => whnf
    refine bsel_intro (fun q2 => ?_) (fun q2 => ?_) <;> try simp only [decide_eq_true_eq, decide_eq_false_iff_not, beq_iff_eq, beq_eq_false_iff_ne, ne_eq, Bool.not_eq_true', Bool.not_eq_false', bne_iff_ne, bne_eq_false_iff_eq, Bool.not_eq_true, Bool.not_eq_false, Bool.and_eq_true, Bool.or_eq_true, bs_size] at q2
    · have hj : i + m < L.length := by omega
      have hy : L[i + m]? = some L[i + m] := List.getElem?_eq_getElem hj
      generalize L[i + m] = y at hy
      obtain ⟨_, ea, e3⟩ := f (i + m) y hy
      cases ea
      conv => whnf
      first | refine ov_i64 (by omega) ?_ | refine ov_u64 (by omega) ?_ | refine ov_i64 (by decide) ?_ | refine ov_u64 (by decide) ?_ | refine ov_u8 (by omega) ?_ | refine ov_i32 (by omega) ?_ | refine ov_u32 (by omega) ?_
      conv => whnf
      first | refine need_intro (⟨by omega, by omega⟩) ?_ | refine must.mk (⟨by omega, by omega⟩) ?_
      conv => whnf
      have e4 : loadH Tryd.prog 47 h (a.add (((i : Int) + (m : Int)).toNat * 3)) = some y.v := by rw [show ((i : Int) + (m : Int)).toNat = i + m by omega]; exact e3
      refine ⟨_, e4, ?_⟩
      conv => whnf
      first | refine need_intro (⟨by omega, by omega⟩) ?_ | refine must.mk (⟨by omega, by omega⟩) ?_
      conv => whnf
      refine ⟨_, e1, ?_⟩
      conv => whnf
      refine must.mk (by kernel_rfl) ?_
      rw [eqLn]
      conv => whnf
      refine bsel_intro (fun q3 => ?_) (fun q3 => ?_) <;> try simp only [decide_eq_true_eq, decide_eq_false_iff_not, beq_iff_eq, beq_eq_false_iff_ne, ne_eq, Bool.not_eq_true', Bool.not_eq_false', bne_iff_ne, bne_eq_false_iff_eq, Bool.not_eq_true, Bool.not_eq_false, Bool.and_eq_true, Bool.or_eq_true, bs_size] at q3
      · subst q3
        have hmn : m ≠ n := fun e => by subst e; exact a5 q1 hy
        conv => whnf
        first | refine ov_i64 (by omega) ?_ | refine ov_u64 (by omega) ?_ | refine ov_i64 (by decide) ?_ | refine ov_u64 (by decide) ?_ | refine ov_u8 (by omega) ?_ | refine ov_i32 (by omega) ?_ | refine ov_u32 (by omega) ?_
        conv => whnf
        refine ⟨n - (m + 1), by omega, rfl, m + 1, by omega, by omega, by omega, rfl⟩
      · have hmn : m = n := by
          refine Classical.byContradiction fun hc => ?_
          rw [a4 m (by omega)] at hy
          cases hy
          exact q3 rfl
        subst hmn
        conv => whnf
        exact hk
    · have hmn : m = n := by omega
      subst hmn
      conv => whnf
      exact hk
  · have hmn : m = n := by have := a3 q1; omega
    subst hmn
    conv => whnf
    exact hk
theorem run_ex {L : List Ln} {i : Nat} {x : Ln} (hx : L[i]? = some x) (hw : x.w = 0) : ∀ (k m : Nat), i + m + k = L.length → 1 ≤ m → (∀ j, j < m → L[i + j]? = some x) → ∃ n, IsRun L i n
  | 0, m, hk, h1, hj => ⟨m, x, hx, h1, by omega, fun hh => absurd hw hh, hj, fun _ => by rw [List.getElem?_eq_none (by omega)]; simp⟩
  | k + 1, m, hk, h1, hj => by
    by_cases hm : L[i + m]? = some x
    · refine run_ex hx hw k (m + 1) (by omega) (by omega) fun j hjm => ?_
      by_cases e : j = m
      · subst e; exact hm
      · exact hj j (by omega)
    · exact ⟨m, x, hx, h1, by omega, fun hh => absurd hw hh, hj, fun _ => hm⟩
theorem run_is {L : List Ln} {i : Nat} (hi : i < L.length) : ∃ n, IsRun L i n := by
  have hx : L[i]? = some L[i] := List.getElem?_eq_getElem hi
  by_cases hw : L[i].w = 0
  · exact run_ex hx hw (L.length - (i + 1)) 1 (by omega) (by omega) fun j hj => by
      obtain rfl : j = 0 := by omega
      exact hx
  · exact ⟨1, L[i], hx, by omega, by omega, fun _ => rfl, fun j hj => by
      obtain rfl : j = 0 := by omega
      exact hx, fun hh => absurd hh hw⟩
theorem aggS : isAggT Tryd.prog 41 = some false := by kernel_rfl
/-- **The iterator over the lines**, whatever function it is given. I: what holds when the line i is next. -/
theorem runs1_x (y : Value) (b : Nat) (s : Value) (L : List Ln) (I : Nat → Hp → Prop) (hL : L.length ≤ 2 ^ 20)
    (hI : ∀ i h', I i h' → h' b = some (rowO 41 [s]) ∧ Rd Tryd.prog 47 3 h' s (lv L)) (h0 : I 0 h)
    (hs : ∀ i n x h', L[i]? = some x → IsRun L i n → I i h' → YV Tryd.prog y [x.v, .int .i64 n] h' fun v h'' => ∃ go : Bool, v = .bool go ∧ (go = true → I (i + n) h'') ∧ (go = false → K (.tuple #[]) h''))
    (hk : ∀ h', I L.length h' → K (.tuple #[]) h') : X Tryd.prog 53 #[y, .pointer (some ⟨b, 0, none⟩)] h K := by
  refine fnv (args := _) mixed [] [] [] Tryd.func53 rfl (by kernel_rfl) ?_
  conv => whnf
  refine loop_at [3] [] (fun r vs _ h' => ∃ i : Nat, i ≤ L.length ∧ r = L.length - i ∧ vs = [.v (.int .i64 i)] ∧ I i h') L.length ⟨0, by omega, by omega, rfl, h0⟩ ?_
  rintro r vs cs mm bx h1 ⟨i, hi, rfl, rfl, hi1⟩
  obtain ⟨hb, hr⟩ := hI i h1 hi1
  obtain ⟨base, cap, rfl, f⟩ := rdL hr
  have eb : h1.cell? ⟨b, 0, none⟩ = some (.slice base L.length cap) := cell_row hb rfl
  conv => whnf
  refine ⟨_, loadC0 aggS hb rfl, ?_⟩
  conv => whnf
  refine bsel_intro (fun q0 => ?_) (fun q0 => ?_) <;> try simp only [decide_eq_true_eq, decide_eq_false_iff_not, beq_iff_eq, beq_eq_false_iff_ne, ne_eq, Bool.not_eq_true', Bool.not_eq_false', bne_iff_ne, bne_eq_false_iff_eq, Bool.not_eq_true, Bool.not_eq_false, Bool.and_eq_true, Bool.or_eq_true, bs_size] at q0
  · have hil : i < L.length := by omega
    obtain ⟨n, hn⟩ := run_is hil
    have hn0 := hn
    obtain ⟨x, hx, a1, a2, a3, a4, a5⟩ := hn0
    have hy := hs i n x h1 hx hn hi1
    obtain ⟨a, rfl, e1⟩ := f i x hx
    have e2 : h1.cell? ((a.add (i * 3)).add 0) = some (.int .i64 x.w) := loadH_cellOf aggL sizL e1 rfl
    have fin : ∀ m : Nat, m = n → YV Tryd.prog y [x.v, .int .i64 m] h1 fun v h'' => ∃ go : Bool, v = .bool go ∧ (go = true → I (i + m) h'') ∧ (go = false → K (.tuple #[]) h'') := fun m hm => by subst hm; exact hy
    clear hy hn
    conv => whnf
    refine loop_at [4] [] (fun r vs _ h' => h1 = h' ∧ ∃ m : Nat, 1 ≤ m ∧ m ≤ n ∧ r = n - m ∧ vs = [.v (.int .i64 m)]) (n - 1) ⟨rfl, 1, by omega, a1, by omega, rfl⟩ ?_
    rintro r vs cs mm bx _ ⟨rfl, m, hm1, hm2, rfl, rfl⟩
    conv => whnf
    refine ⟨_, loadC0 aggS hb rfl, ?_⟩
    conv => whnf
    first | refine need_intro (⟨by omega, by omega⟩) ?_ | refine must.mk (⟨by omega, by omega⟩) ?_
    conv => whnf
    refine ⟨_, (loadH_cell aggK _ _).trans e2, ?_⟩
    conv => whnf
    refine bsel_intro (fun q1 => ?_) (fun q1 => ?_) <;> try simp only [decide_eq_true_eq, decide_eq_false_iff_not, beq_iff_eq, beq_eq_false_iff_ne, ne_eq, Bool.not_eq_true', Bool.not_eq_false', bne_iff_ne, bne_eq_false_iff_eq, Bool.not_eq_true, Bool.not_eq_false, Bool.and_eq_true, Bool.or_eq_true, bs_size] at q1
    · conv => whnf
      first | refine ov_i64 (by omega) ?_ | refine ov_u64 (by omega) ?_ | refine ov_i64 (by decide) ?_ | refine ov_u64 (by decide) ?_ | refine ov_u8 (by omega) ?_ | refine ov_i32 (by omega) ?_ | refine ov_u32 (by omega) ?_
      conv => whnf
      refine ⟨_, loadC0 aggS hb rfl, ?_⟩
      conv => whnf
      refine bsel_intro (fun q2 => ?_) (fun q2 => ?_) <;> try simp only [decide_eq_true_eq, decide_eq_false_iff_not, beq_iff_eq, beq_eq_false_iff_ne, ne_eq, Bool.not_eq_true', Bool.not_eq_false', bne_iff_ne, bne_eq_false_iff_eq, Bool.not_eq_true, Bool.not_eq_false, Bool.and_eq_true, Bool.or_eq_true, bs_size] at q2
      · have hj : i + m < L.length := by omega
        have hy : L[i + m]? = some L[i + m] := List.getElem?_eq_getElem hj
        generalize L[i + m] = z at hy
        obtain ⟨_, ea, e3⟩ := f (i + m) z hy
        cases ea
        have e4 : loadH Tryd.prog 47 h1 (a.add (((i : Int) + (m : Int)).toNat * 3)) = some z.v := by rw [show ((i : Int) + (m : Int)).toNat = i + m by omega]; exact e3
        conv => whnf
        refine ⟨_, loadC0 aggS hb rfl, ?_⟩
        conv => whnf
        first | refine ov_i64 (by omega) ?_ | refine ov_u64 (by omega) ?_ | refine ov_i64 (by decide) ?_ | refine ov_u64 (by decide) ?_ | refine ov_u8 (by omega) ?_ | refine ov_i32 (by omega) ?_ | refine ov_u32 (by omega) ?_
        conv => whnf
        first | refine need_intro (⟨by omega, by omega⟩) ?_ | refine must.mk (⟨by omega, by omega⟩) ?_
        conv => whnf
        refine ⟨_, e4, ?_⟩
        conv => whnf
        refine ⟨_, loadC0 aggS hb rfl, ?_⟩
        conv => whnf
        first | refine need_intro (⟨by omega, by omega⟩) ?_ | refine must.mk (⟨by omega, by omega⟩) ?_
        conv => whnf
        refine ⟨_, e1, ?_⟩
        conv => whnf
        refine must.mk (by kernel_rfl) ?_
        rw [eqLn]
        conv => whnf
        refine bsel_intro (fun q3 => ?_) (fun q3 => ?_) <;> try simp only [decide_eq_true_eq, decide_eq_false_iff_not, beq_iff_eq, beq_eq_false_iff_ne, ne_eq, Bool.not_eq_true', Bool.not_eq_false', bne_iff_ne, bne_eq_false_iff_eq, Bool.not_eq_true, Bool.not_eq_false, Bool.and_eq_true, Bool.or_eq_true, bs_size] at q3
        · subst q3
          have hmn : m ≠ n := fun e => by subst e; exact a5 q1 hy
          conv => whnf
          first | refine ov_i64 (by omega) ?_ | refine ov_u64 (by omega) ?_ | refine ov_i64 (by decide) ?_ | refine ov_u64 (by decide) ?_ | refine ov_u8 (by omega) ?_ | refine ov_i32 (by omega) ?_ | refine ov_u32 (by omega) ?_
          conv => whnf
          refine ⟨n - (m + 1), by omega, rfl, m + 1, by omega, by omega, by omega, rfl⟩
        · have hmn : m = n := by
            refine Classical.byContradiction fun hc => ?_
            rw [a4 m (by omega)] at hy
            cases hy
            exact q3 rfl
          conv => whnf
          refine ⟨_, loadC0 aggS hb rfl, ?_⟩
          conv => whnf
          first | refine need_intro (⟨by omega, by omega⟩) ?_ | refine must.mk (⟨by omega, by omega⟩) ?_
          conv => whnf
          refine ⟨_, e1, ?_⟩
          conv => whnf
          refine aRunK_yv rfl rfl rfl ((fin m hmn).mono ?_)
          rintro v h2 ⟨go, rfl, g1, g2⟩
          cases go with
          | false =>
            conv => whnf
            exact g2 rfl
          | true =>
            conv => whnf
            first | refine ov_i64 (by omega) ?_ | refine ov_u64 (by omega) ?_ | refine ov_i64 (by decide) ?_ | refine ov_u64 (by decide) ?_ | refine ov_u8 (by omega) ?_ | refine ov_i32 (by omega) ?_ | refine ov_u32 (by omega) ?_
            conv => whnf
            refine ⟨L.length - (i + m), by omega, i + m, by omega, rfl, ?_, g1 rfl⟩
            show [MV.v (.int .i64 ((i : Int) + (m : Int)))] = _
            rw [show ((i + m : Nat) : Int) = (i : Int) + (m : Int) by omega]
      · have hmn : m = n := by omega
        conv => whnf
        refine ⟨_, loadC0 aggS hb rfl, ?_⟩
        conv => whnf
        first | refine need_intro (⟨by omega, by omega⟩) ?_ | refine must.mk (⟨by omega, by omega⟩) ?_
        conv => whnf
        refine ⟨_, e1, ?_⟩
        conv => whnf
        refine aRunK_yv rfl rfl rfl ((fin m hmn).mono ?_)
        rintro v h2 ⟨go, rfl, g1, g2⟩
        cases go with
        | false =>
          conv => whnf
          exact g2 rfl
        | true =>
          conv => whnf
          first | refine ov_i64 (by omega) ?_ | refine ov_u64 (by omega) ?_ | refine ov_i64 (by decide) ?_ | refine ov_u64 (by decide) ?_ | refine ov_u8 (by omega) ?_ | refine ov_i32 (by omega) ?_ | refine ov_u32 (by omega) ?_
          conv => whnf
          refine ⟨L.length - (i + m), by omega, i + m, by omega, rfl, ?_, g1 rfl⟩
          show [MV.v (.int .i64 ((i : Int) + (m : Int)))] = _
          rw [show ((i + m : Nat) : Int) = (i : Int) + (m : Int) by omega]
    · have hmn : m = n := by have := a3 q1; omega
      conv => whnf
      refine ⟨_, loadC0 aggS hb rfl, ?_⟩
      conv => whnf
      first | refine need_intro (⟨by omega, by omega⟩) ?_ | refine must.mk (⟨by omega, by omega⟩) ?_
      conv => whnf
      refine ⟨_, e1, ?_⟩
      conv => whnf
      refine aRunK_yv rfl rfl rfl ((fin m hmn).mono ?_)
      rintro v h2 ⟨go, rfl, g1, g2⟩
      cases go with
      | false =>
        conv => whnf
        exact g2 rfl
      | true =>
        conv => whnf
        first | refine ov_i64 (by omega) ?_ | refine ov_u64 (by omega) ?_ | refine ov_i64 (by decide) ?_ | refine ov_u64 (by decide) ?_ | refine ov_u8 (by omega) ?_ | refine ov_i32 (by omega) ?_ | refine ov_u32 (by omega) ?_
        conv => whnf
        refine ⟨L.length - (i + m), by omega, i + m, by omega, rfl, ?_, g1 rfl⟩
        show [MV.v (.int .i64 ((i : Int) + (m : Int)))] = _
        rw [show ((i + m : Nat) : Int) = (i : Int) + (m : Int) by omega]
  · have : i = L.length := by omega
    subst this
    conv => whnf
    exact hk _ hi1
theorem aggb : isAggT Tryd.prog 4 = some false := by kernel_rfl
theorem sizb : sizeT Tryd.prog 4 = some 1 := by kernel_rfl
theorem aggi : isAggT Tryd.prog 3 = some false := by kernel_rfl
theorem sizi : sizeT Tryd.prog 3 = some 1 := by kernel_rfl
theorem clo_x (bf ba bl bn bm : Nat) (s : Value) (L : List Ln) (i n : Nat) (k most : Int) (x : Ln) (hx : L[i]? = some x) (hn : IsRun L i n) (hr : Rd Tryd.prog 47 3 h s (lv L)) (hL : L.length ≤ 2 ^ 20) (hk1 : 0 ≤ k ∧ k ≤ 2 ^ 20)
    (f1 : h bf = some (rowO 4 [.bool true])) (f2 : h ba = some (rowO 3 [.int .i64 i])) (f3 : h bl = some (rowO 41 [s])) (f4 : h bn = some (rowO 3 [.int .i64 k])) (f5 : h bm = some (rowO 3 [.int .i64 most])) (d1 : bn ≠ ba) (d2 : bm ≠ ba) (d3 : bm ≠ bn)
    (hk : ∀ h', h' bf = some (rowO 4 [.bool true]) → h' ba = some (rowO 3 [.int .i64 (i + n : Nat)]) → h' bn = some (rowO 3 [.int .i64 (k + 1)]) → (∀ c, c ≠ bf → c ≠ ba → c ≠ bn → h' c = h c) → K (.bool (decide (k + 1 ≠ most))) h') :
    X Tryd.prog 14 #[x.v, .int .i64 n, .pointer (some ⟨bf, 0, none⟩), .pointer (some ⟨ba, 0, none⟩), .pointer (some ⟨bl, 0, none⟩), .pointer (some ⟨bn, 0, none⟩), .pointer (some ⟨bm, 0, none⟩)] h K := by
  have hn2 := hn
  obtain ⟨x', hx', a1, a2, -⟩ := hn2
  obtain ⟨base, cap, es, f⟩ := rdL hr
  subst es
  obtain ⟨a, rfl, e1⟩ := f i x hx
  have hi : i < L.length := (List.getElem?_eq_some_iff.1 hx).1
  have ne : ∀ (t1 t2 : TypeId) (u v : Nat) (l1 l2 : List Value), t1 ≠ t2 → h u = some (rowO t1 l1) → h v = some (rowO t2 l2) → u ≠ v := fun t1 t2 u v l1 l2 ht h1 h2 e => by
    subst e; rw [h1] at h2; cases h2; exact ht rfl
  have d4 : ba ≠ bf := ne _ _ _ _ _ _ (by decide) f2 f1
  have d5 : bn ≠ bf := ne _ _ _ _ _ _ (by decide) f4 f1
  have d6 : bm ≠ bf := ne _ _ _ _ _ _ (by decide) f5 f1
  refine fnv (args := _) mixed [(7, 7)] [] [] Tryd.func14 rfl (by kernel_rfl) ?_
  conv => whnf
  refine ⟨_, loadC0 aggb f1 rfl, ?_⟩
  conv => whnf
  refine ⟨_, loadC0 aggi f2 rfl, ?_⟩
  conv => whnf
  refine ⟨_, loadC0 aggS f3 rfl, ?_⟩
  conv => whnf
  refine bsel_true ?_ ?_
  · simp; omega
  conv => whnf
  refine ⟨_, loadC0 aggS f3 rfl, ?_⟩
  conv => whnf
  refine ⟨_, loadC0 aggi f2 rfl, ?_⟩
  conv => whnf
  first | refine need_intro (⟨by omega, by omega⟩) ?_ | refine must.mk (⟨by omega, by omega⟩) ?_
  conv => whnf
  refine ⟨_, e1, ?_⟩
  conv => whnf
  refine must.mk (by kernel_rfl) ?_
  refine viaB_of (b := true) ((eqLn x x).trans (by simp)) ?_
  conv => whnf
  refine ⟨_, loadC0 aggS f3 rfl, ?_⟩
  conv => whnf
  refine ⟨_, loadC0 aggi f2 rfl, ?_⟩
  conv => whnf
  refine rrun_x _ L i n hr hL hn ?_
  refine ⟨trivial, ?_⟩
  conv => whnf
  refine wr_intro (by exact storeC0 sizb f1 (Nat.zero_lt_succ 0) rfl rfl) (fun H1 at_H1 ot_H1 => ?_)
  try (conv => whnf)
  have g1 : H1 bf = some (rowO 4 [.bool true]) := at_H1.trans (by
    show some (rowO 4 [.bool ((n : Int) == (n : Int))]) = _
    rw [beq_self_eq_true])
  have g2 := (ot_H1 ba d4).trans f2
  have g4 := (ot_H1 bn d5).trans f4
  have g5 := (ot_H1 bm d6).trans f5
  refine ⟨trivial, ?_⟩
  conv => whnf
  refine ⟨_, loadC0 aggb g1 rfl, ?_⟩
  conv => whnf
  refine ⟨_, loadC0 aggi g2 rfl, ?_⟩
  conv => whnf
  first | refine ov_i64 (by omega) ?_ | refine ov_u64 (by omega) ?_ | refine ov_i64 (by decide) ?_ | refine ov_u64 (by decide) ?_ | refine ov_u8 (by omega) ?_ | refine ov_i32 (by omega) ?_ | refine ov_u32 (by omega) ?_
  conv => whnf
  refine wr_intro (by exact storeC0 sizi g2 (Nat.zero_lt_succ 0) rfl rfl) (fun H2 at_H2 ot_H2 => ?_)
  try (conv => whnf)
  have k1 := (ot_H2 bf (Ne.symm d4)).trans g1
  have k2 : H2 ba = some (rowO 3 [.int .i64 (i + n : Nat)]) := at_H2.trans (by
    show some (rowO 3 [.int .i64 ((i : Int) + (n : Int))]) = _
    rw [show ((i + n : Nat) : Int) = (i : Int) + (n : Int) by omega])
  have k4 := (ot_H2 bn d1).trans g4
  have k5 := (ot_H2 bm d2).trans g5
  conv => whnf
  refine ⟨_, loadC0 aggi k4 rfl, ?_⟩
  conv => whnf
  first | refine ov_i64 (by omega) ?_ | refine ov_u64 (by omega) ?_ | refine ov_i64 (by decide) ?_ | refine ov_u64 (by decide) ?_ | refine ov_u8 (by omega) ?_ | refine ov_i32 (by omega) ?_ | refine ov_u32 (by omega) ?_
  conv => whnf
  refine wr_intro (by exact storeC0 sizi k4 (Nat.zero_lt_succ 0) rfl rfl) (fun H3 at_H3 ot_H3 => ?_)
  try (conv => whnf)
  have m1 := (ot_H3 bf (Ne.symm d5)).trans k1
  have m2 := (ot_H3 ba (Ne.symm d1)).trans k2
  have m4 : H3 bn = some (rowO 3 [.int .i64 (k + 1)]) := at_H3
  have m5 := (ot_H3 bm d3).trans k5
  have hK := hk H3 m1 m2 m4 fun c c1 c2 c3 => by rw [ot_H3 c c3, ot_H2 c c2, ot_H1 c c1]
  conv => whnf
  refine ⟨_, loadC0 aggb m1 rfl, ?_⟩
  conv => whnf
  refine ⟨_, loadC0 aggi m4 rfl, ?_⟩
  conv => whnf
  refine ⟨_, loadC0 aggi m5 rfl, ?_⟩
  conv => whnf
  exact kq hK (bI (by rw [Bool.eq_iff_iff]; simp))
/-- The iterator itself: a function that holds the lines. -/
theorem runs_x (base : Option Addr) (len cap : Nat) (hk : ∀ b h', h b = none → h.le h' → h' b = some (rowO 41 [.slice base len cap]) → (∀ c, c ≠ b → h' c = h c) → K (.func (.func 53) #[] #[.pointer (some ⟨b, 0, none⟩)]) h') :
    X Tryd.prog 13 #[.slice base len cap] h K := by
  refine fnv (args := _) mixed [] [] [] Tryd.func13 rfl (by kernel_rfl) ?_
  conv => whnf
  refine new_intro (o := rowO 41 [.slice base len cap]) (fun b h1 n_b le_b at_b ot_b => ?_)
  conv => whnf
  exact hk b h1 n_b le_b at_b ot_b
/-- ScriptRuns. -/
theorem scriptRuns_x (s : Value) (L : List Ln) (most : Int) (hr : Rd Tryd.prog 47 3 h s (lv L)) (hlive : ∀ (h : Hp) (K : Value → Hp → Prop), K (.bool true) h → X Tryd.prog 12 #[] h K) (hk : ∀ h', h.le h' → K (.bool true) h') :
    X Tryd.prog 4 #[s, .int .i64 most] h K := by
  have hr0 := hr
  obtain ⟨base, cap, rfl, f⟩ := rdL hr0
  refine fnv (args := _) mixed [] [] [] Tryd.func4 rfl (by kernel_rfl) ?_
  conv => whnf
  refine new_intro (o := rowO 41 [.slice base L.length cap]) (fun l h1 n_l le_l at_l ot_l => ?_)
  conv => whnf
  refine new_intro (o := rowO 3 [.int .i64 most]) (fun m h2 n_m le_m at_m ot_m => ?_)
  conv => whnf
  have l2 : h2 l = some (rowO 41 [.slice base L.length cap]) := le_m l _ at_l
  refine ⟨_, loadC0 aggS l2 rfl, ?_⟩
  conv => whnf
  refine bsel_intro (fun q0 => ?_) (fun q0 => ?_) <;> try simp only [decide_eq_true_eq, decide_eq_false_iff_not, beq_iff_eq, beq_eq_false_iff_ne, ne_eq, Bool.not_eq_true', Bool.not_eq_false', bne_iff_ne, bne_eq_false_iff_eq, Bool.not_eq_true, Bool.not_eq_false, Bool.and_eq_true, Bool.or_eq_true, bs_size] at q0
  · conv => whnf
    refine hlive _ _ ?_
    conv => whnf
    exact hk _ (Hp.le_trans le_l le_m)
  have hL : L.length ≤ 2 ^ 20 := by omega
  conv => whnf
  refine ⟨_, loadC0 aggS l2 rfl, ?_⟩
  conv => whnf
  refine runs_x base L.length cap fun b h3 n_b le_b at_b ot_b => ?_
  have l3 : h3 l = some (rowO 41 [.slice base L.length cap]) := le_b l _ l2
  have m3 : h3 m = some (rowO 3 [.int .i64 most]) := le_b m _ at_m
  have le3 : h.le h3 := Hp.le_trans le_l (Hp.le_trans le_m le_b)
  conv => whnf
  refine new_intro (o := rowO 3 [.int .i64 0]) (fun a h4 n_a le_a at_a ot_a => ?_)
  conv => whnf
  refine new_intro (o := rowO 3 [.int .i64 0]) (fun k h5 n_k le_k at_k ot_k => ?_)
  conv => whnf
  have dka : a ≠ k := Hp.ne n_k at_a
  refine wr_intro (by exact storeC0 sizi (le_k a _ at_a) (Nat.zero_lt_succ 0) rfl rfl) (fun h6 at_h6 ot_h6 => ?_)
  try (conv => whnf)
  refine wr_intro (by exact storeC0 sizi ((ot_h6 k (Ne.symm dka)).trans at_k) (Nat.zero_lt_succ 0) rfl rfl) (fun h7 at_h7 ot_h7 => ?_)
  try (conv => whnf)
  have a7 : h7 a = some (rowO 3 [.int .i64 0]) := (ot_h7 a dka).trans at_h6
  have k7 : h7 k = some (rowO 3 [.int .i64 0]) := at_h7
  have o7 : ∀ c, c ≠ a → c ≠ k → h7 c = h5 c := fun c c1 c2 => by rw [ot_h7 c c2, ot_h6 c c1]
  conv => whnf
  refine new_intro (o := rowO 4 [.bool false]) (fun g h8 n_g le_g at_g ot_g => ?_)
  conv => whnf
  refine wr_intro (by exact storeC0 sizb at_g (Nat.zero_lt_succ 0) rfl rfl) (fun h9 at_h9 ot_h9 => ?_)
  try (conv => whnf)
  have dga : a ≠ g := Hp.ne n_g a7
  have dgk : k ≠ g := Hp.ne n_g k7
  have a9 : h9 a = some (rowO 3 [.int .i64 0]) := (ot_h9 a dga).trans (le_g a _ a7)
  have k9 : h9 k = some (rowO 3 [.int .i64 0]) := (ot_h9 k dgk).trans (le_g k _ k7)
  have g9 : h9 g = some (rowO 4 [.bool true]) := at_h9
  have le9 : ∀ c o, h3 c = some o → h9 c = some o ∧ c ≠ a ∧ c ≠ k ∧ c ≠ g := fun c o e => by
    have c1 : c ≠ a := Hp.ne n_a e
    have e4 := le_a c o e
    have c2 : c ≠ k := Hp.ne n_k e4
    have e7 := (o7 c c1 c2).trans (le_k c o e4)
    have c3 : c ≠ g := Hp.ne n_g e7
    exact ⟨(ot_h9 c c3).trans (le_g c o e7), c1, c2, c3⟩
  obtain ⟨b9, db1, db2, db3⟩ := le9 b _ at_b
  obtain ⟨l9, dl1, dl2, dl3⟩ := le9 l _ l3
  obtain ⟨m9, dm1, dm2, dm3⟩ := le9 m _ m3
  have hle9 : h.le h9 := fun c o e => (le9 c o (le3 c o e)).1
  clear o7 at_h6 at_h7 at_h9
  conv => whnf
  refine X.mono (K := fun v h' => v = .tuple #[] ∧ ∃ (i : Nat) (q : Int), (i = L.length ∨ q = most) ∧ h' g = some (rowO 4 [.bool true]) ∧ h' a = some (rowO 3 [.int .i64 i]) ∧ h' k = some (rowO 3 [.int .i64 q]) ∧ ∀ c, c ≠ g → c ≠ a → c ≠ k → h' c = h9 c) ?_ ?_
  · refine runs1_x _ b (.slice base L.length cap) L (fun i h' => (∃ q : Int, 0 ≤ q ∧ q ≤ i ∧ i ≤ L.length ∧ h' g = some (rowO 4 [.bool true]) ∧ h' a = some (rowO 3 [.int .i64 i]) ∧ h' k = some (rowO 3 [.int .i64 q])) ∧ ∀ c, c ≠ g → c ≠ a → c ≠ k → h' c = h9 c) hL (fun i h' hi => ⟨(hi.2 b db3 db1 db2).trans b9, hr.le fun c o e => ?_⟩) ⟨⟨0, by omega, by omega, by omega, g9, a9, k9⟩, fun _ _ _ _ => rfl⟩ (fun i n x h' hx hn hi => ?_) (fun h' hi => ?_)
    · obtain ⟨e9, c1, c2, c3⟩ := le9 c o (le3 c o e)
      exact (hi.2 c c3 c1 c2).trans e9
    · obtain ⟨⟨q, hq1, hq2, hq3, i1, i2, i3⟩, i4⟩ := hi
      have hn2 := hn
      obtain ⟨_, _, b1, b2, _⟩ := hn2
      refine yv_x (by kernel_rfl) ?_
      refine clo_x g a l k m (.slice base L.length cap) L i n q most x hx hn (hr.le fun c o e => ?_) hL ⟨hq1, by omega⟩ i1 i2 ((i4 l dl3 dl1 dl2).trans l9) i3 ((i4 m dm3 dm1 dm2).trans m9) (Ne.symm dka) dm1 dm2 fun h'' j1 j2 j3 j4 => ?_
      · obtain ⟨e9, c1, c2, c3⟩ := le9 c o (le3 c o e)
        exact (i4 c c3 c1 c2).trans e9
      · refine ⟨_, rfl, fun _ => ⟨⟨q + 1, by omega, by omega, b2, j1, j2, j3⟩, fun c c1 c2 c3 => by rw [j4 c c1 c2 c3, i4 c c1 c2 c3]⟩, fun hgo => ⟨rfl, i + n, q + 1, .inr ?_, j1, j2, j3, fun c c1 c2 c3 => by rw [j4 c c1 c2 c3, i4 c c1 c2 c3]⟩⟩
        simpa using hgo
    · obtain ⟨⟨q, hq1, hq2, hq3, i1, i2, i3⟩, i4⟩ := hi
      exact ⟨rfl, L.length, q, .inl rfl, i1, i2, i3, i4⟩
  rintro v hh ⟨rfl, i, q, hiq, i1, i2, i3, i4⟩
  have il := (i4 l dl3 dl1 dl2).trans l9
  have im := (i4 m dm3 dm1 dm2).trans m9
  have hfin : K (.bool true) hh := hk hh fun c o e => by
    obtain ⟨e9, c1, c2, c3⟩ := le9 c o (le3 c o e)
    exact (i4 c c3 c1 c2).trans e9
  clear i4 le9 hle9
  conv => whnf
  refine ⟨_, loadC0 aggb i1 rfl, ?_⟩
  conv => whnf
  refine ⟨_, loadC0 aggi i2 rfl, ?_⟩
  conv => whnf
  refine ⟨_, loadC0 aggS il rfl, ?_⟩
  conv => whnf
  refine bsel_intro (fun q1 => ?_) (fun q1 => ?_) <;> try simp only [decide_eq_true_eq, decide_eq_false_iff_not, beq_iff_eq, beq_eq_false_iff_ne, ne_eq, Bool.not_eq_true', Bool.not_eq_false', bne_iff_ne, bne_eq_false_iff_eq, Bool.not_eq_true, Bool.not_eq_false, Bool.and_eq_true, Bool.or_eq_true, bs_size] at q1
  · conv => whnf
    refine hlive _ _ ?_
    conv => whnf
    exact hfin
  · have hq : q = most := hiq.resolve_left (fun e => q1 (by rw [e]))
    subst hq
    conv => whnf
    refine ⟨_, loadC0 aggi i3 rfl, ?_⟩
    conv => whnf
    refine ⟨_, loadC0 aggi im rfl, ?_⟩
    conv => whnf
    refine bsel_true ?_ ?_
    · simp
    conv => whnf
    refine hlive _ _ ?_
    conv => whnf
    exact hfin
end
end Go.Proofs.YtclbommhagmpdaaDoor
