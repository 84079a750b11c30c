/-
  Scripts: their text, the program's.
-/
import Derived.Test.YtjipfibbkmmfbaaGreatDoorLibV
import Derived.Test.YtjipfibbkmmfbaaGreatDoorStxA
import Derived.Test.YtjipfibbkmmfbaaGreatDoorLibQ
/-! Scripts: their text, the program's. -/
namespace Go.Proofs.YtjipfibbkmmfbaaGreatDoor
set_option linter.unusedSimpArgs false
set_option linter.unusedVariables false
open Go Go.Mid Go.RowKit
abbrev rfXStxB0 : Go.Mid.RF := [(6, 6), (22, 6), (25, 6), (28, 6), (31, 6), (38, 6), (11, 11), (61, 11), (64, 11)]
attribute [local irreducible] mid
section
set_option maxHeartbeats 8000000
set_option maxRecDepth 10000
variable {h : Hp} {K : Value → Hp → Prop}
def hexD : Str := [48, 49, 50, 51, 52, 53, 54, 55, 56, 57, 97, 98, 99, 100, 101, 102]
def hexN (n : Nat) : UInt8 := hexD.getD n 0
def hexS (b : Str) : Str := b.flatMap fun x => [hexN (x.toNat / 16), hexN (x.toNat % 16)]
theorem hexS_len (b : Str) : (hexS b).length = 2 * b.length := by
  unfold hexS
  induction b with
  | nil => rfl
  | cons x b ih => rw [List.flatMap_cons, List.length_append, ih, List.length_cons]; simp; omega
theorem hexS_take {b : Str} {i : Nat} {x : UInt8} (hx : b[i]? = some x) : hexS (b.take (i + 1)) = hexS (b.take i) ++ [hexN (x.toNat / 16)] ++ [hexN (x.toNat % 16)] := by
  rw [List.take_add_one, hx]
  unfold hexS
  rw [List.flatMap_append, List.append_assoc]
  rfl
theorem hexD_at : ∀ n : Nat, n < 16 → hexD[n]? = some (hexN n) := by decide +kernel
theorem u8_and : ∀ n : Nat, n < 256 → IntKind.u8.wrap (BitVec.ofInt IntKind.u8.bits (n : Int) &&& BitVec.ofInt IntKind.u8.bits 15).toNat = ((n % 16 : Nat) : Int) := by decide +kernel
theorem u8_shr : ∀ n : Nat, n < 256 → ((n : Int).fdiv (2 ^ 4)) = ((n / 16 : Nat) : Int) := by decide +kernel
theorem hex_x (base : Option Addr) (cap : Nat) (b : Str) (hb : b.length ≤ 2 ^ 20) (hr : ∀ i x, b[i]? = some x → ∃ a, base = some a ∧ h.cell? (a.add i) = some (byV x)) (hk : K (.string (bs (hexS b))) h) : X Tryz.prog 13 #[.slice base b.length cap] h K := by
  refine X.forget ?_
  have hk' : ∀ h' : Hp, h.le h' → (∃ g : Hp, g.le h' ∧ K (.string (bs (hexS b))) g) := fun h' hle => ⟨h, hle, hk⟩
  clear hk
  refine fnv (args := _) mixed [] [] [] Tryz.func13 rfl (by kernel_rfl) ?_; conv => whnf
  refine new_intro (o := rowO 48 [.pointer none, .slice none 0 0]) (fun o h1 n_o le_o at_o ot_o => ?_); conv => whnf
  have hB1 := Bds.of (k := h) le_o n_o at_o
  refine loop_at [8] [] (fun r vs _ h' => ∃ i : Nat, i ≤ b.length ∧ r = b.length - i ∧ vs = [.v (.int .i64 i)] ∧ Bds 48 h h' o (hexS (b.take i))) b.length ⟨0, by omega, by omega, rfl, hB1⟩ ?_
  rintro r vs cs mm bx h2 ⟨i, hi, rfl, rfl, hB2⟩
  have hlen := hexS_len (b.take i)
  have hlen2 : (b.take i).length ≤ b.length := List.length_take_le' _ _
  conv => whnf
  refine bsel_intro (fun q1 => ?_) (fun q1 => ?_) <;> try simp only [bsL] at q1
  · have hil : i < b.length := by omega
    obtain ⟨x, hx⟩ : ∃ x, b[i]? = some x := ⟨_, List.getElem?_eq_getElem hil⟩
    obtain ⟨a, rfl, e1⟩ := hr i x hx
    have hst := hexS_take hx
    have hx256 : x.toNat < 256 := x.toNat_lt
    conv => whnf
    (first | refine need_intro (⟨by omega, by omega⟩) ?_ | refine must.mk (⟨by omega, by omega⟩) ?_); conv => whnf
    have e2 : loadH Tryz.prog 5 h2 (a.add (((i : Int)).toNat * 1)) = some (byV x) := by
      rw [show ((i : Int)).toNat = i by omega, Nat.mul_one, loadH_cell aggU8]
      exact cell_le hB2.le e1
    refine ⟨_, e2, ?_⟩; conv => whnf
    refine val_by (show ((x.toNat : Int)).fdiv (2 ^ min (Int.toNat 4) IntKind.u8.bits) = ((x.toNat / 16 : Nat) : Int) from u8_shr _ hx256) ?_; conv => whnf
    refine ch_intro (l := hexD) (hexN (x.toNat / 16)) (by omega) (by rw [Int.toNat_natCast]; exact hexD_at _ (by omega)) ?_
    conv => whnf
    refine hB2.wb liesB (hexN (x.toNat / 16)) (by omega) fun h3 hB3 => ?_
    conv => whnf
    refine val_by (show IntKind.u8.wrap (BitVec.ofInt IntKind.u8.bits (x.toNat : Int) &&& BitVec.ofInt IntKind.u8.bits 15).toNat = ((x.toNat % 16 : Nat) : Int) from u8_and _ hx256) ?_; conv => whnf
    refine ch_intro (l := hexD) (hexN (x.toNat % 16)) (by omega) (by rw [Int.toNat_natCast]; exact hexD_at _ (by omega)) ?_
    conv => whnf
    refine hB3.wb liesB (hexN (x.toNat % 16)) (by rw [List.length_append]; show _ + 1 ≤ _; omega) fun h4 hB4 => ?_
    rw [← hst] at hB4
    conv => whnf
    (first | refine ov_c (by simp only [loK, hiK]; omega) ?_ | refine ov_c (by decide) ?_); conv => whnf
    exact ⟨b.length - (i + 1), by omega, i + 1, by omega, rfl, rfl, hB4⟩
  · have : i = b.length := by omega
    subst this
    rw [List.take_length] at hB2 hlen
    conv => whnf
    refine hB2.str (by omega) fun h7 hle => ?_
    conv => whnf
    exact hk' _ hle
theorem numS_x (hp : Pow h) (n : Int) (h0 : -9223372036854775808 ≤ n) (h1 : n ≤ 9223372036854775807) (hk : K (.string (bs (Lib.itoa n))) h) : X Tryz.prog 11 #[.int .i64 n] h K := by
  refine fnv (args := _) mixed [] [] [] Tryz.func11 rfl (by kernel_rfl) ?_; conv => whnf
  refine itoaA_x hp n h0 h1 ?_
  conv => whnf
  exact hk
theorem liesW : liesAt Tryz.prog Tryz.prog.depth 50 (2 / Tryz.prog.cellsOf 50) 0 48 1 = true := by kernel_rfl
abbrev Bw (k h : Hp) (b : Nat) (l : Str) : Prop := Bds 50 k h b l
theorem J_ne {x : Str} {xs : List Str} (hx : x ≠ []) : J (x :: xs) ≠ [] := fun hh => by
  have : J (x :: xs) = x ++ tl xs := join_tl _ _
  rw [this] at hh
  exact hx (List.append_eq_nil_iff.1 hh).1
/-- A line of words. -/
theorem wput_x {k : Hp} {b c cap : Nat} {l : Str} {x : Str} {xs : List Str} {rest : List Value} (hB : Bw k h b l) (hc : h c = some (rowO 9 ((x :: xs).map sv ++ rest))) (hx : x ≠ []) (hcap : (x :: xs).length ≤ cap) (hn : (x :: xs).length ≤ 2 ^ 20) (hlen : l.length + (J (x :: xs)).length + 1 ≤ 2 ^ 29)
    (hk : ∀ h', Bw k h' b (l ++ (J (x :: xs) ++ [10])) → K (.tuple #[]) h') : X Tryz.prog 10 #[.pointer (some ⟨b, 0, none⟩), .slice (some ⟨c, 0, none⟩) (x :: xs).length cap] h K := by
  refine fnv (args := _) mixed [] [] [] Tryz.func10 rfl (by kernel_rfl) ?_; conv => whnf
  refine join_x c 0 cap (x :: xs) [32] (fun j y hj => ?_) ⟨_, hc⟩ (Nat.le_trans hn (by decide)) hcap (Nat.le_trans (by show (J (x :: xs)).length ≤ 2 ^ 29; omega) (by decide : 2 ^ 29 ≤ 2 ^ 40)) ?_
  · rw [Nat.zero_add]
    exact cell_row hc (by rw [List.getElem?_append_left (by rw [List.length_map]; exact (List.getElem?_eq_some_iff.1 hj).1), List.getElem?_map, hj]; rfl)
  refine ⟨trivial, ?_⟩; conv => whnf
  refine hB.ws liesW (J (x :: xs)) (J_ne hx) (by omega) fun h1 hB1 => ?_
  refine ⟨trivial, ?_⟩; conv => whnf
  refine hB1.wb liesW 10 (by rw [List.length_append]; omega) fun h2 hB2 => ?_
  conv => whnf
  exact hk h2 (by rw [← List.append_assoc]; exact hB2)
/-- Words that are built, and laid. -/
theorem wputB {k : Hp} {b c : Nat} {l : Str} {x : Str} {xs : List Str} {h1 : Hp} (hB : Bw k h b l) (n_c : h c = none) (le_c : h.le h1) (at_c : h1 c = some (rowO 9 ((x :: xs).map sv))) (hx : x ≠ []) (hn : (x :: xs).length ≤ 2 ^ 20) (hlen : l.length + (J (x :: xs)).length + 1 ≤ 2 ^ 29)
    (hk : ∀ h', Bw k h' b (l ++ (J (x :: xs) ++ [10])) → K (.tuple #[]) h') : X Tryz.prog 10 #[.pointer (some ⟨b, 0, none⟩), .slice (some ⟨c, 0, none⟩) (x :: xs).length (x :: xs).length] h1 K :=
  wput_x (rest := []) (hB.up le_c) (by rw [List.append_nil]; exact at_c) hx (Nat.le_refl _) hn hlen hk
abbrev sMachine : Str := [109, 97, 99, 104, 105, 110, 101]
abbrev sBudget : Str := [98, 117, 100, 103, 101, 116]
abbrev sAt : Str := [97, 116]
abbrev sPick : Str := [112, 105, 99, 107]
abbrev sTick : Str := [116, 105, 99, 107]
abbrev sInput : Str := [105, 110, 112, 117, 116]
abbrev sWire : Str := [119, 105, 114, 101]
abbrev sOn : Str := [111, 110]
abbrev sOff : Str := [111, 102, 102]
def lineWs (l : Ln) (n : Nat) : List Str := if l.w = 0 then [sPick, Lib.itoa l.n, Lib.itoa n] else if l.w = 1 then [sTick, Lib.itoa l.n] else if l.w = 2 then [sInput, Lib.itoa l.n] else [sWire, Lib.itoa l.n, if l.on then sOn else sOff]
def lineT (l : Ln) (n : Nat) : Str := J (lineWs l n) ++ [10]
/-- From i on so many lines are one. -/
def runN (L : List Ln) (i : Nat) : Nat := match L.drop i with
  | [] => 1
  | x :: l => if x.w = 0 then (l.takeWhile fun y => decide (y = x)).length + 1 else 1
theorem takeW_at {α : Type} {p : α → Bool} : ∀ (l : List α) (j : Nat), j < (l.takeWhile p).length → ∃ y, l[j]? = some y ∧ p y = true
  | [], j, h => by simp at h
  | y :: l, j, h => by
    rw [List.takeWhile_cons] at h
    split at h
    · rename_i hp
      cases j with
      | zero => exact ⟨y, rfl, hp⟩
      | succ j => exact takeW_at l j (by simpa using h)
    · simp at h
theorem takeW_end {α : Type} {p : α → Bool} : ∀ (l : List α) (y : α), l[(l.takeWhile p).length]? = some y → p y = false
  | [], y, h => by simp at h
  | z :: l, y, h => by
    rw [List.takeWhile_cons] at h
    split at h
    · rename_i hp
      exact takeW_end l y (by simpa using h)
    · rename_i hp
      simp at h; subst h
      simpa using hp
theorem runN_is {L : List Ln} {i : Nat} {x : Ln} (hx : L[i]? = some x) : IsRun L i (runN L i) := by
  obtain ⟨hi, e⟩ := List.getElem?_eq_some_iff.1 hx
  have hd : L.drop i = x :: L.drop (i + 1) := by rw [List.drop_eq_getElem_cons hi, e]
  unfold runN
  rw [hd]
  simp only
  have hlt : ∀ p : Ln → Bool, ((L.drop (i + 1)).takeWhile p).length ≤ L.length - (i + 1) := fun p => by
    have := (List.takeWhile_prefix (l := L.drop (i + 1)) p).length_le
    rwa [List.length_drop] at this
  split
  · rename_i hw
    refine ⟨x, hx, by omega, by have := hlt (fun y => decide (y = x)); omega, fun hh => absurd hw hh, fun j hj => ?_, fun _ hh => ?_⟩
    · cases j with
      | zero => exact hx
      | succ j =>
        obtain ⟨y, hy, hp⟩ := takeW_at (p := fun y => decide (y = x)) (L.drop (i + 1)) j (by omega)
        rw [List.getElem?_drop] at hy
        rw [show i + (j + 1) = i + 1 + j by omega, hy, of_decide_eq_true hp]
    · have := takeW_end (p := fun y => decide (y = x)) (L.drop (i + 1)) x (by rw [List.getElem?_drop, ← hh]; congr 1; omega)
      simp at this
  · rename_i hw
    exact ⟨x, hx, by omega, by omega, fun _ => rfl, fun j hj => by
      obtain rfl : j = 0 := by omega
      exact hx, fun hh => absurd hh hw⟩
/-- The text of the lines from i on. -/
def runsT (L : List Ln) (i : Nat) : Str := match hx : L[i]? with
  | none => []
  | some x => lineT x (runN L i) ++ runsT L (i + runN L i)
termination_by L.length - i
decreasing_by
  obtain ⟨_, _, h1, h2, _⟩ := runN_is hx
  omega
theorem runsT_end {L : List Ln} {i : Nat} (h : L.length ≤ i) : runsT L i = [] := by
  rw [runsT]
  split
  · rfl
  · rename_i x hx
    have := (List.getElem?_eq_some_iff.1 hx).1
    omega
theorem runsT_at {L : List Ln} {i n : Nat} {x : Ln} (hx : L[i]? = some x) (hn : IsRun L i n) : runsT L i = lineT x n ++ runsT L (i + n) := by
  have : runN L i = n := (runN_is hx).one hn
  rw [runsT]
  split
  · rename_i h; rw [hx] at h; cases h
  · rename_i y hy
    rw [hx] at hy; cases hy
    rw [this]
end
end Go.Proofs.YtjipfibbkmmfbaaGreatDoor
/-! Scripts: their text, the program's: the walk. -/
namespace Go.Proofs.YtjipfibbkmmfbaaGreatDoor
set_option linter.unusedSimpArgs false
set_option linter.unusedVariables false
open Go Go.Mid Go.RowKit
attribute [local irreducible] mid
section
set_option maxHeartbeats 8000000
set_option maxRecDepth 10000
variable {h : Hp} {K : Value → Hp → Prop}
def partT (p : Pt) : Str := J [sAt, Lib.decDigits p.at_, hexS p.b] ++ [10]
def budW (c : Cf) (u : Bu) : List Str := (u.l.take c.a.toNat).map Lib.itoa
def partsT (P : List Pt) : Str := P.flatMap partT
def head1 (c : Cf) : Str := J [sMachine, Lib.itoa c.a, Lib.itoa c.b, Lib.itoa c.c, Lib.itoa c.d] ++ [10]
def head2 (c : Cf) (u : Bu) : Str := J (sBudget :: budW c u) ++ [10]
def headT (s : Sc) : Str := head1 s.c ++ head2 s.c s.u
def textT (s : Sc) : Str := headT s ++ partsT s.P ++ runsT s.L 0
theorem sm_lineWs {l : Ln} {n : Nat} (h0 : -9223372036854775808 ≤ l.n ∧ l.n ≤ 9223372036854775807) (hn : n ≤ 2 ^ 20) : Sm (lineWs l n) ∧ (lineWs l n).length ≤ 3 := by
  have h1 := sm_itoa h0.1 h0.2
  unfold lineWs
  split
  · exact ⟨Sm.cons (by decide) (Sm.cons h1 (Sm.cons (sm_itoa (by omega) (by omega)) Sm.nil)), by simp⟩
  split
  · exact ⟨Sm.cons (by decide) (Sm.cons h1 Sm.nil), by simp⟩
  split
  · exact ⟨Sm.cons (by decide) (Sm.cons h1 Sm.nil), by simp⟩
  · refine ⟨Sm.cons (by decide) (Sm.cons h1 (Sm.cons ?_ Sm.nil)), by simp⟩
    split <;> decide
theorem lineJ_len {l : Ln} {n : Nat} (h0 : -9223372036854775808 ≤ l.n ∧ l.n ≤ 9223372036854775807) (hn : n ≤ 2 ^ 20) : (J (lineWs l n)).length ≤ 13064 := J_len (sm_lineWs h0 hn).1 (Nat.le_trans (sm_lineWs h0 hn).2 (by decide))
theorem J_sm3 {ws : List Str} (h : Sm ws) (hn : ws.length ≤ 3) : (J ws).length ≤ 195 := by
  cases ws with
  | nil => decide
  | cons x xs =>
    have e : J (x :: xs) = x ++ tl xs := join_tl _ _
    rw [e, List.length_append]
    have h1 := h x (by simp)
    have h2 := tl_sm (xs := xs) (m := 2) (fun y hy => h y (by simp [hy])) (by simp at hn; omega)
    omega
theorem lineJ_sm {l : Ln} {n : Nat} (h0 : -9223372036854775808 ≤ l.n ∧ l.n ≤ 9223372036854775807) (hn : n ≤ 2 ^ 20) : (J (lineWs l n)).length ≤ 195 := J_sm3 (sm_lineWs h0 hn).1 (sm_lineWs h0 hn).2
theorem runsT_len {L : List Ln} (hL : ∀ l ∈ L, -9223372036854775808 ≤ l.n ∧ l.n ≤ 9223372036854775807) (hl : L.length ≤ 2 ^ 20) : ∀ (k i : Nat), L.length - i ≤ k → (runsT L i).length ≤ 196 * k
  | 0, i, h => by rw [runsT_end (by omega)]; simp
  | k + 1, i, h => by
    by_cases hi : i < L.length
    · have hx : L[i]? = some L[i] := List.getElem?_eq_getElem hi
      have hr := runN_is hx
      have hr2 := hr
      obtain ⟨x, hx2, a1, a2, _⟩ := hr2
      rw [runsT_at hx hr, List.length_append, lineT, List.length_append, Nat.mul_succ]
      have h1 := lineJ_sm (n := runN L i) (hL _ (List.getElem_mem hi)) (by omega)
      have h2 := runsT_len hL hl k (i + runN L i) (by omega)
      simp only [List.length_cons, List.length_nil]
      omega
    · rw [runsT_end (by omega)]; simp
theorem partJ_len {p : Pt} (ha : p.at_ < 18446744073709551616) (hb : p.b.length ≤ 400) : (J [sAt, Lib.decDigits p.at_, hexS p.b]).length ≤ 900 := by
  have h1 := dec_len ha
  have h2 := hexS_len p.b
  rw [J, join_tl]
  simp [tl]
  omega
theorem partsT_len : ∀ (P : List Pt), (∀ p ∈ P, p.at_ < 18446744073709551616 ∧ p.b.length ≤ 400) → (partsT P).length ≤ 901 * P.length
  | [], _ => by simp [partsT]
  | p :: P, h => by
    have h1 := partJ_len (h p (by simp)).1 (h p (by simp)).2
    have h2 := partsT_len P fun x hx => h x (by simp [hx])
    unfold partsT at h2 ⊢
    rw [List.flatMap_cons, partT]
    simp only [List.length_append, List.length_cons, List.length_nil, Nat.mul_succ]
    omega
theorem partsT_take {P : List Pt} {i : Nat} {p : Pt} (hp : P[i]? = some p) : partsT (P.take (i + 1)) = partsT (P.take i) ++ (J [sAt, Lib.decDigits p.at_, hexS p.b] ++ [10]) := by
  rw [List.take_add_one, hp]
  unfold partsT
  rw [List.flatMap_append]
  show _ ++ List.flatMap partT [p] = _
  rw [List.flatMap_cons, List.flatMap_nil, List.append_nil]
  rfl
/-- The budgets' bounds. -/
theorem bu_range {a : Int} {b : Bu} (h : budE a b = 0) {i : Nat} (hi : i < 8) : 0 ≤ b.at i ∧ b.at i ≤ 1000 := by
  unfold budE at h
  split at h
  · rename_i hh
    have := hh i hi
    by_cases hia : (i : Int) < a
    · exact this.1 hia
    · have := this.2 (by omega)
      omega
  · cases h
theorem bu_get (b : Bu) {i : Nat} (hi : i < 8) : b.l[i]? = some (b.at i) := by
  unfold Bu.at
  rw [List.getD_eq_getElem?_getD, List.getElem?_eq_getElem (by simpa using hi)]
  rfl
theorem budW_take {c : Cf} {u : Bu} {i : Nat} (hi : i < 8) : (u.l.take (i + 1)).map Lib.itoa = (u.l.take i).map Lib.itoa ++ [Lib.itoa (u.at i)] := by
  rw [List.take_add_one, bu_get u hi, List.map_append]
  rfl
theorem sm_budW {c : Cf} {u : Bu} (h : budE c.a u = 0) : Sm (sBudget :: budW c u) ∧ (sBudget :: budW c u).length ≤ 9 := by
  refine ⟨Sm.cons (by decide) fun x hx => ?_, ?_⟩
  · unfold budW at hx
    obtain ⟨v, hv, rfl⟩ := List.mem_map.1 hx
    obtain ⟨i, hi, e⟩ := List.getElem_of_mem (List.mem_of_mem_take hv)
    have hi8 : i < 8 := hi
    have h1 := bu_range h hi8
    have h2 := bu_get u hi8
    rw [List.getElem?_eq_getElem hi, e] at h2
    cases h2
    exact sm_itoa (by omega) (by omega)
  · unfold budW
    rw [List.length_cons, List.length_map, List.length_take]
    show min _ 8 + 1 ≤ 9
    omega
theorem check_ok {s : Sc} (h : checkE s = 0) : rightB s.c = true ∧ budE s.c.a s.u = 0 ∧ ∀ l ∈ s.L, lineE s.c.a l = 0 := by
  unfold checkE at h
  split at h
  · cases h
  rename_i h1
  split at h
  · rename_i h2; exact absurd h h2
  rename_i h2
  split at h
  · cases h
  split at h
  · rename_i h3; exact absurd h h3
  refine ⟨by simpa using h1, by simpa using h2, fun l hl => ?_⟩
  obtain ⟨i, hi, e⟩ := List.getElem_of_mem hl
  refine Classical.byContradiction fun hn => ?_
  have key : ∀ (l : List Int), firstNZ l = 0 → ∀ x ∈ l, x = 0 := by
    intro l
    induction l with
    | nil => intro _ x hx; cases hx
    | cons y l ih =>
      intro hh x hx
      rw [firstNZ] at hh
      split at hh
      · rename_i hy; exact absurd hh hy
      · rename_i hy
        rcases List.mem_cons.1 hx with rfl | hx
        · simpa using hy
        · exact ih hh x hx
  exact hn (key _ h _ (List.mem_map.2 ⟨l, hl, rfl⟩))
theorem aggT : isAggT Tryz.prog 28 = some true := by kernel_rfl
theorem sizT : sizeT Tryz.prog 28 = some 14 := by kernel_rfl
theorem aggC : isAggT Tryz.prog 23 = some true := by kernel_rfl
theorem sizC : sizeT Tryz.prog 23 = some 4 := by kernel_rfl
theorem aggPs : isAggT Tryz.prog 25 = some false := by kernel_rfl
theorem text_x36 (hp : Pow h) (s : Sc) (ho : s.ok 41 h) (hP : s.P.length ≤ 300) (hb : ∀ p ∈ s.P, p.b.length ≤ 400) (hL : s.L.length ≤ 60000) (hk : K (.tuple #[.string (bs (if checkE s = 0 then textT s else [])), .int .i64 (checkE s)]) h) : X Tryz.prog 6 #[s.v] h K := by
  refine X.forget ?_
  have hk' : ∀ h' : Hp, h.le h' → (∃ g : Hp, g.le h' ∧ K (.tuple #[.string (bs (if checkE s = 0 then textT s else [])), .int .i64 (checkE s)]) g) := fun h' hle => ⟨h, hle, hk⟩
  clear hk
  refine fnv (args := _) mixed rfXStxB0 [] [] Tryz.func6 rfl (by kernel_rfl) ?_; conv => whnf
  refine new_intro (o := rowO 28 s.cs) (fun sb h1 n_sb le_sb at_sb ot_sb => ?_); conv => whnf
  refine ⟨_, loadA0 aggT sizT at_sb rfl, ?_⟩; conv => whnf
  refine check_x s (ho.le le_sb) ?_
  conv => whnf
  refine bsel_intro (fun q1 => ?_) (fun q1 => ?_)
  · have q1 : checkE s ≠ 0 := by simpa using q1
    rw [if_neg q1] at hk'
    conv => whnf
    exact hk' _ le_sb
  have q1 : checkE s = 0 := by simpa using q1
  rw [if_pos q1, q1] at hk'
  obtain ⟨c1, c2, c3⟩ := check_ok q1
  have hcr := (rightB_iff s.c).1 c1
  have ca0 := hcr.a0
  have ca1 := hcr.a1
  conv => whnf
  refine new_intro (o := rowO 50 [.pointer none, .slice none 0 0]) (fun w h2 n_w le_w at_w ot_w => ?_); conv => whnf
  have sb2 := le_w sb _ at_sb
  have hB2 : Bw h1 h2 w [] := Bds.of le_w n_w at_w
  have hp1 := hp.le le_sb
  refine ⟨_, loadP (k := 0) (x := s.c.cs) aggC sizC sb2 rfl rfl, ?_⟩; conv => whnf
  refine numS_x (hp1.le hB2.le) s.c.a ho.a0 ho.a1 ?_
  refine ⟨trivial, ?_⟩; conv => whnf
  refine numS_x (hp1.le hB2.le) s.c.b ho.b0 ho.b1 ?_
  refine ⟨trivial, ?_⟩; conv => whnf
  refine numS_x (hp1.le hB2.le) s.c.c ho.c0 ho.c1 ?_
  refine ⟨trivial, ?_⟩; conv => whnf
  refine numS_x (hp1.le hB2.le) s.c.d ho.d0 ho.d1 ?_
  refine ⟨trivial, ?_⟩; conv => whnf
  refine new_intro (o := rowO 9 [sv sMachine, sv (Lib.itoa s.c.a), sv (Lib.itoa s.c.b), sv (Lib.itoa s.c.c), sv (Lib.itoa s.c.d)]) (fun x1 h3 n_x1 le_x1 at_x1 ot_x1 => ?_); conv => whnf
  have lm : (J [sMachine, Lib.itoa s.c.a, Lib.itoa s.c.b, Lib.itoa s.c.c, Lib.itoa s.c.d]).length ≤ 13064 := J_len (Sm.cons (by decide) (Sm.cons (sm_itoa ho.a0 ho.a1) (Sm.cons (sm_itoa ho.b0 ho.b1) (Sm.cons (sm_itoa ho.c0 ho.c1) (Sm.cons (sm_itoa ho.d0 ho.d1) Sm.nil))))) (by simp)
  refine wputB (x := sMachine) (xs := [Lib.itoa s.c.a, Lib.itoa s.c.b, Lib.itoa s.c.c, Lib.itoa s.c.d]) hB2 n_x1 le_x1 at_x1 (by decide) (by simp) (by rw [List.length_nil]; omega) fun h4 hB4 => ?_
  have hB4 : Bw h1 h4 w (head1 s.c) := hB4
  have l1 : (head1 s.c).length ≤ 13065 := by rw [head1, List.length_append]; simp; omega
  refine ⟨trivial, ?_⟩; conv => whnf
  refine new_intro (o := rowO 9 [sv sBudget]) (fun x2 h5 n_x2 le_x2 at_x2 ot_x2 => ?_); conv => whnf
  have hW5 : Owns h4 h5 9 1 (.slice (some ⟨x2, 0, none⟩) 1 1) 1 [sv sBudget] := ⟨some x2, ⟨rfl, .inr ⟨x2, 1, [], rfl, rfl, Nat.le_refl _, rfl, at_x2⟩⟩, le_x2, fun c e => by cases e; exact n_x2⟩
  have sb5 : h5 sb = some (rowO 28 s.cs) := le_x2 _ _ (hB4.le _ _ at_sb)
  (first | refine need_intro (⟨by omega, by show _ ≤ ((8 : Nat) : Int); omega⟩) ?_ | refine must.mk (⟨by omega, by show _ ≤ ((8 : Nat) : Int); omega⟩) ?_); conv => whnf
  refine loop_at [42, 7] [] (fun r vs _ h' => ∃ (i : Nat) (sl : Value), i ≤ s.c.a.toNat ∧ r = s.c.a.toNat - i ∧ vs = [.v (.int .i64 i), .v sl] ∧ Owns h4 h' 9 1 sl (i + 1) ((sBudget :: (s.u.l.take i).map Lib.itoa).map sv)) s.c.a.toNat ⟨0, _, by omega, by omega, rfl, hW5⟩ ?_
  rintro r vs cs mm bx h6 ⟨i, sl, hi, rfl, rfl, hW6⟩
  have hB6 : Bw h1 h6 w (head1 s.c) := hB4.up hW6.le
  have sb6 := hB6.le _ _ at_sb
  conv => whnf
  refine bsel_intro (fun q2 => ?_) (fun q2 => ?_) <;> try simp only [bsL] at q2
  · have hi8 : i < 8 := by omega
    have hbr := bu_range c2 hi8
    have hst := budW_take (c := s.c) (u := s.u) hi8
    have hcell : s.cs[4 + i]? = some (.int .i64 (s.u.at i)) := by
      have := bu_at s.u hi8
      rw [← this]
      match i, hi8 with
      | 0, _ => rfl
      | 1, _ => rfl
      | 2, _ => rfl
      | 3, _ => rfl
      | 4, _ => rfl
      | 5, _ => rfl
      | 6, _ => rfl
      | 7, _ => rfl
    conv => whnf
    (first | refine need_intro (⟨by omega, by omega⟩) ?_ | refine must.mk (⟨by omega, by omega⟩) ?_); conv => whnf
    refine ⟨_, loadCA (b := sb) (k := 4 + i) (by show (((⟨sb, 4, none⟩ : Addr).add 0).add (((i : Int)).toNat * 1)) = _; rw [addr_add, addr_add, show ((i : Int)).toNat = i by omega, Nat.mul_one]) aggIn sb6 hcell, ?_⟩; conv => whnf
    refine numS_x (hp1.le hB6.le) (s.u.at i) (by omega) (by omega) ?_
    conv => whnf
    refine new_intro (o := rowO 9 [sv (Lib.itoa (s.u.at i))]) (fun x3 h7 n_x3 le_x3 at_x3 ot_x3 => ?_); conv => whnf
    refine Owns.app1 (z := .string ⟨#[]⟩) (by kernel_rfl) infS (by kernel_rfl) (by kernel_rfl) (by kernel_rfl) rfl (bytes := 16) (by decide) rfl rfl rfl (hW6.up le_x3) at_x3 rfl rfl (by omega) fun s7 h8 hW8 => ?_
    conv => whnf
    (first | refine ov_c (by simp only [loK, hiK]; omega) ?_ | refine ov_c (by decide) ?_); conv => whnf
    refine ⟨s.c.a.toNat - (i + 1), by omega, i + 1, s7, by omega, rfl, rfl, ?_⟩
    rw [hst]
    have e : ((sBudget :: ((s.u.l.take i).map Lib.itoa ++ [Lib.itoa (s.u.at i)])).map sv) = (sBudget :: (s.u.l.take i).map Lib.itoa).map sv ++ [sv (Lib.itoa (s.u.at i))] := by simp
    rw [e]
    exact hW8
  have hia : i = s.c.a.toNat := by omega
  subst hia
  have hW6 : Owns h4 h6 9 1 sl (s.c.a.toNat + 1) ((sBudget :: budW s.c s.u).map sv) := hW6
  obtain ⟨hsm, hsl⟩ := sm_budW c2
  have lb : (J (sBudget :: budW s.c s.u)).length ≤ 13064 := J_len hsm (Nat.le_trans hsl (by decide))
  obtain ⟨x4, cap4, rest4, rfl, hcap4, at_x4, _⟩ := hW6.row (by omega)
  have hlw : (sBudget :: budW s.c s.u).length = s.c.a.toNat + 1 := by
    have := hW6.len
    simpa using this
  rw [← hlw]
  conv => whnf
  refine wput_x (x := sBudget) (xs := budW s.c s.u) hB6 at_x4 (by decide) (by rw [hlw]; exact hcap4) (Nat.le_trans hsl (by decide)) (by omega) fun h7 hB7 => ?_
  have hB7 : Bw h1 h7 w (headT s) := hB7
  have l2 : (headT s).length ≤ 26130 := by rw [headT, head2]; simp; omega
  clear hB6 hB4 hW6 at_x4 hW5 hB2
  have sb7 := hB7.le _ _ at_sb
  obtain ⟨bP, cP, eP, fP⟩ := ho.shapeP
  conv => whnf
  have lps : loadH Tryz.prog 25 h7 ((⟨sb, 0, none⟩ : Addr).add 12) = some (.slice bP s.P.length cP) := by rw [← eP]; exact loadC (i := 12) aggPs sb7 rfl
  refine ⟨_, lps, ?_⟩; conv => whnf
  refine loop_at [57] [] (fun r vs _ h' => ∃ i : Nat, i ≤ s.P.length ∧ r = s.P.length - i ∧ vs = [.v (.int .i64 i)] ∧ Bw h1 h' w (headT s ++ partsT (s.P.take i))) s.P.length ⟨0, by omega, by omega, rfl, by rw [List.take_zero]; exact (by rw [partsT, List.flatMap_nil, List.append_nil]; exact hB7)⟩ ?_
  rintro r vs cs mm bx h8 ⟨i, hi, rfl, rfl, hB8⟩
  conv => whnf
  refine bsel_intro (fun q3 => ?_) (fun q3 => ?_) <;> try simp only [bsL] at q3
  · have hiP : i < s.P.length := by omega
    obtain ⟨p, hpp⟩ : ∃ p, s.P[i]? = some p := ⟨_, List.getElem?_eq_getElem hiP⟩
    have hmem := List.mem_of_getElem? hpp
    have hpo := (ho.P p hmem).le (Hp.le_trans le_sb hB8.le)
    have hst := partsT_take hpp
    have hpb := hb p hmem
    have hpl := partJ_len hpo.at_ hpb
    have hlt : (partsT (s.P.take i)).length ≤ 901 * 300 := Nat.le_trans (partsT_len _ fun q hq => ⟨(ho.P q (List.mem_of_mem_take hq)).at_, hb q (List.mem_of_mem_take hq)⟩) (Nat.mul_le_mul_left _ (Nat.le_trans (List.length_take_le' _ _) hP))
    obtain ⟨a, rfl, e1⟩ := fP i p hpp
    have e2 : loadH Tryz.prog 41 h8 (a.add (((i : Int)).toNat * 2)) = some p.v := by rw [show ((i : Int)).toNat = i by omega]; exact loadH_le (Hp.le_trans le_sb hB8.le) e1
    obtain ⟨bB, cB, eB, fB⟩ := hpo.shape
    have hpa := hpo.at_
    obtain ⟨at_, slv, b⟩ := p
    simp only at eB fB hpa hpb hpl hst e2
    subst eB
    conv => whnf
    (first | refine need_intro (⟨by omega, by omega⟩) ?_ | refine must.mk (⟨by omega, by omega⟩) ?_); conv => whnf
    refine ⟨_, e2, ?_⟩; conv => whnf
    refine fmtU_x (hp1.le hB8.le) at_ hpa ?_
    refine ⟨trivial, ?_⟩; conv => whnf
    refine hex_x bB cB b (by omega) fB ?_
    refine ⟨trivial, ?_⟩; conv => whnf
    refine new_intro (o := rowO 9 [sv sAt, sv (Lib.decDigits at_), sv (hexS b)]) (fun x5 h9 n_x5 le_x5 at_x5 ot_x5 => ?_); conv => whnf
    refine wputB (x := sAt) (xs := [Lib.decDigits at_, hexS b]) hB8 n_x5 le_x5 at_x5 (by decide) (by simp) (by rw [List.length_append]; omega) fun h10 hB10 => ?_
    refine ⟨trivial, ?_⟩; conv => whnf
    (first | refine ov_c (by simp only [loK, hiK]; omega) ?_ | refine ov_c (by decide) ?_); conv => whnf
    refine ⟨s.P.length - (i + 1), by omega, i + 1, by omega, rfl, rfl, ?_⟩
    rw [hst, ← List.append_assoc]
    exact hB10
  have : i = s.P.length := by omega
  subst this
  rw [List.take_length] at hB8
  have hlp : (partsT s.P).length ≤ 901 * 300 := Nat.le_trans (partsT_len _ fun q hq => ⟨(ho.P q hq).at_, hb q hq⟩) (Nat.mul_le_mul_left _ hP)
  have hlr := runsT_len ho.L (Nat.le_trans hL (by decide)) s.L.length 0 (by omega)
  have hlr2 : (runsT s.L 0).length ≤ 196 * 60000 := Nat.le_trans hlr (Nat.mul_le_mul_left _ hL)
  have hltot : (textT s).length ≤ 27000000 := by rw [textT]; simp only [List.length_append]; omega
  have hcur : headT s ++ partsT s.P ++ runsT s.L 0 = textT s := rfl
  generalize hcu : headT s ++ partsT s.P = cur0 at hB8 hcur
  have sb8 := hB8.le _ _ at_sb
  obtain ⟨bL, cL, eL, fL⟩ := rdL ho.ls
  conv => whnf
  have lls : loadH Tryz.prog 26 h8 ((⟨sb, 0, none⟩ : Addr).add 13) = some (.slice bL s.L.length cL) := by rw [← eL]; exact loadC (i := 13) aggS sb8 rfl
  refine ⟨_, lls, ?_⟩; conv => whnf
  refine runs_x bL s.L.length cL fun b9 h9 n_b le_b at_b ot_b => ?_
  obtain ⟨k9, hB9, k9b, lek9⟩ := hB8.newE n_b le_b at_b
  have lehk : h.le k9 := Hp.le_trans le_sb lek9
  have hls : Rd Tryz.prog 44 3 h (.slice bL s.L.length cL) (lv s.L) := by rw [← eL]; exact ho.ls
  conv => whnf
  refine ⟨fun lp lc hl hy => ?_⟩
  have nlk : k9 lp = none := Hp.none_le hB9.le hl
  refine runs1_x (yieldV lp) b9 (.slice bL s.L.length cL) s.L (fun i h' => h' lp = some (lob lc .ready none) ∧ ∃ cur, Bw k9 h' w cur ∧ cur ++ runsT s.L i = textT s) (Nat.le_trans hL (by decide)) (fun i h' hi => ?_) ⟨Hp.set_same _ _ _, cur0, hB9.up (Hp.le_set hl), hcur⟩ (fun i n x h' hx hn hi => ?_) (fun h' hi => ?_)
  · obtain ⟨_, cur, hB, _⟩ := hi
    exact ⟨hB.le _ _ k9b, hls.le (Hp.le_trans lehk hB.le)⟩
  · obtain ⟨i1, cur, hB, hc⟩ := hi
    have hra := runsT_at hx hn
    have hxm := List.mem_of_getElem? hx
    have hxe := c3 x hxm
    have hxn := ho.L x hxm
    have hnl : n ≤ 2 ^ 20 := by
      obtain ⟨_, _, _, h2, _⟩ := hn
      omega
    have hjl := lineJ_len hxn hnl
    have hcl : cur.length ≤ 27000000 := by
      have := congrArg List.length hc
      rw [List.length_append] at this
      omega
    obtain ⟨xw, xn, xon⟩ := x
    have hw : 0 ≤ xw ∧ xw ≤ 3 := by
      unfold lineE at hxe
      split at hxe
      · cases hxe
      · rename_i h1
        simp only at h1
        omega
    clear hxe
    refine hy _ _ _ ⟨rfl, i1, ?_⟩
    conv => whnf
    refine new_intro (o := _) (fun z h10 n_z le_z at_z ot_z => ?_); conv => whnf
    refine wr_intro (by exact storeA0 (z := Ln.v ⟨xw, xn, xon⟩) sizL at_z rfl rfl rfl) (fun h11 at_h11 ot_h11 => ?_)
    try (conv => whnf)
    have le11 : h'.le h11 := Hp.le_st n_z le_z ot_h11
    have lp11 := le11 lp _ i1
    have dzl : z ≠ lp := fun e => by subst e; rw [i1] at n_z; cases n_z
    have zb : (h11.set lp (lob lc .busy none)) z = some (rowO 44 [.int .i64 xw, .int .i64 xn, .bool xon]) := (Hp.set_other _ _ dzl).trans at_h11
    have hBb : Bw (k9.set lp (lob lc .busy none)) (h11.set lp (lob lc .busy none)) w cur := ((hB.up le11).setL lp11 nlk).know (Hp.set_same _ _ _)
    have hpb := (hp.le lehk).le (Hp.le_trans (Hp.le_set' (o := lob lc .busy none) nlk) hBb.le)
    generalize h11.set lp (lob lc .busy none) = hb' at zb hBb hpb ⊢
    refine ⟨lp11, ?_⟩
    conv => whnf
    refine ⟨_, loadC (i := 0) aggK zb rfl, ?_⟩; conv => whnf
    refine bsel_intro (fun q5 => ?_) (fun q5 => ?_) <;> try simp only [bsL] at q5
    · have hT : lineT ⟨xw, xn, xon⟩ n = J [sPick, Lib.itoa xn, Lib.itoa n] ++ [10] := by rw [lineT, lineWs, if_pos q5]
      have hjl : (J [sPick, Lib.itoa xn, Lib.itoa n]).length ≤ 13064 := by rw [lineWs, if_pos q5] at hjl; exact hjl
      conv => whnf
      refine ⟨_, loadC (i := 1) aggIn zb rfl, ?_⟩; conv => whnf
      refine numS_x hpb xn hxn.1 hxn.2 ?_
      conv => whnf
      refine numS_x hpb n (by omega) (by omega) ?_
      conv => whnf
      refine new_intro (o := rowO 9 [sv sPick, sv (Lib.itoa xn), sv (Lib.itoa n)]) (fun v h12 n_v le_v at_v ot_v => ?_); conv => whnf
      refine wputB (x := sPick) (xs := [Lib.itoa xn, Lib.itoa n]) hBb n_v le_v at_v (by decide) (by simp) (by omega) fun h13 hB13 => ?_
      have lp13 : h13 lp = some (lob lc .busy none) := hB13.le _ _ (Hp.set_same _ _ _)
      conv => whnf
      refine ⟨lp13, ?_⟩
      have hB14 := (hB13.weak (Hp.le_set' nlk)).setL (o := lob lc .ready none) lp13 nlk
      rw [← hT] at hB14
      exact ⟨true, rfl, ⟨fun _ => ⟨Hp.set_same _ _ _, _, hB14, by rw [List.append_assoc, ← hra]; exact hc⟩, fun e => by cases e⟩⟩
    conv => whnf
    refine bsel_intro (fun q6 => ?_) (fun q6 => ?_) <;> try simp only [bsL] at q6
    · have hT : lineT ⟨xw, xn, xon⟩ n = J [sTick, Lib.itoa xn] ++ [10] := by rw [lineT, lineWs, if_neg q5, if_pos q6]
      have hjl : (J [sTick, Lib.itoa xn]).length ≤ 13064 := by rw [lineWs, if_neg q5, if_pos q6] at hjl; exact hjl
      conv => whnf
      refine ⟨_, loadC (i := 1) aggIn zb rfl, ?_⟩; conv => whnf
      refine numS_x hpb xn hxn.1 hxn.2 ?_
      conv => whnf
      refine new_intro (o := rowO 9 [sv sTick, sv (Lib.itoa xn)]) (fun v h12 n_v le_v at_v ot_v => ?_); conv => whnf
      refine wputB (x := sTick) (xs := [Lib.itoa xn]) hBb n_v le_v at_v (by decide) (by simp) (by omega) fun h13 hB13 => ?_
      have lp13 : h13 lp = some (lob lc .busy none) := hB13.le _ _ (Hp.set_same _ _ _)
      conv => whnf
      refine ⟨lp13, ?_⟩
      have hB14 := (hB13.weak (Hp.le_set' nlk)).setL (o := lob lc .ready none) lp13 nlk
      rw [← hT] at hB14
      exact ⟨true, rfl, ⟨fun _ => ⟨Hp.set_same _ _ _, _, hB14, by rw [List.append_assoc, ← hra]; exact hc⟩, fun e => by cases e⟩⟩
    conv => whnf
    refine bsel_intro (fun q7 => ?_) (fun q7 => ?_) <;> try simp only [bsL] at q7
    · have hT : lineT ⟨xw, xn, xon⟩ n = J [sInput, Lib.itoa xn] ++ [10] := by rw [lineT, lineWs, if_neg q5, if_neg q6, if_pos q7]
      have hjl : (J [sInput, Lib.itoa xn]).length ≤ 13064 := by rw [lineWs, if_neg q5, if_neg q6, if_pos q7] at hjl; exact hjl
      conv => whnf
      refine ⟨_, loadC (i := 1) aggIn zb rfl, ?_⟩; conv => whnf
      refine numS_x hpb xn hxn.1 hxn.2 ?_
      conv => whnf
      refine new_intro (o := rowO 9 [sv sInput, sv (Lib.itoa xn)]) (fun v h12 n_v le_v at_v ot_v => ?_); conv => whnf
      refine wputB (x := sInput) (xs := [Lib.itoa xn]) hBb n_v le_v at_v (by decide) (by simp) (by omega) fun h13 hB13 => ?_
      have lp13 : h13 lp = some (lob lc .busy none) := hB13.le _ _ (Hp.set_same _ _ _)
      conv => whnf
      refine ⟨lp13, ?_⟩
      have hB14 := (hB13.weak (Hp.le_set' nlk)).setL (o := lob lc .ready none) lp13 nlk
      rw [← hT] at hB14
      exact ⟨true, rfl, ⟨fun _ => ⟨Hp.set_same _ _ _, _, hB14, by rw [List.append_assoc, ← hra]; exact hc⟩, fun e => by cases e⟩⟩
    have hT : lineT ⟨xw, xn, xon⟩ n = J [sWire, Lib.itoa xn, if xon then sOn else sOff] ++ [10] := by rw [lineT, lineWs, if_neg q5, if_neg q6, if_neg q7]
    have hjl : (J [sWire, Lib.itoa xn, if xon then sOn else sOff]).length ≤ 13064 := by rw [lineWs, if_neg q5, if_neg q6, if_neg q7] at hjl; exact hjl
    conv => whnf
    refine ⟨_, loadC (i := 2) aggBo zb rfl, ?_⟩; conv => whnf
    cases xon
    all_goals
      conv => whnf
      refine ⟨_, loadC (i := 1) aggIn zb rfl, ?_⟩; conv => whnf
      refine numS_x hpb xn hxn.1 hxn.2 ?_
      conv => whnf
    · refine new_intro (o := rowO 9 [sv sWire, sv (Lib.itoa xn), sv sOff]) (fun v h12 n_v le_v at_v ot_v => ?_); conv => whnf
      refine wputB (x := sWire) (xs := [Lib.itoa xn, sOff]) hBb n_v le_v at_v (by decide) (by simp) (by have : (J [sWire, Lib.itoa xn, sOff]).length ≤ 13064 := hjl; omega) fun h13 hB13 => ?_
      have hT : lineT ⟨xw, xn, false⟩ n = J [sWire, Lib.itoa xn, sOff] ++ [10] := hT
      have lp13 : h13 lp = some (lob lc .busy none) := hB13.le _ _ (Hp.set_same _ _ _)
      conv => whnf
      refine ⟨lp13, ?_⟩
      have hB14 := (hB13.weak (Hp.le_set' nlk)).setL (o := lob lc .ready none) lp13 nlk
      rw [← hT] at hB14
      exact ⟨true, rfl, ⟨fun _ => ⟨Hp.set_same _ _ _, _, hB14, by rw [List.append_assoc, ← hra]; exact hc⟩, fun e => by cases e⟩⟩
    · refine new_intro (o := rowO 9 [sv sWire, sv (Lib.itoa xn), sv sOn]) (fun v h12 n_v le_v at_v ot_v => ?_); conv => whnf
      refine wputB (x := sWire) (xs := [Lib.itoa xn, sOn]) hBb n_v le_v at_v (by decide) (by simp) (by have : (J [sWire, Lib.itoa xn, sOn]).length ≤ 13064 := hjl; omega) fun h13 hB13 => ?_
      have hT : lineT ⟨xw, xn, true⟩ n = J [sWire, Lib.itoa xn, sOn] ++ [10] := hT
      have lp13 : h13 lp = some (lob lc .busy none) := hB13.le _ _ (Hp.set_same _ _ _)
      conv => whnf
      refine ⟨lp13, ?_⟩
      have hB14 := (hB13.weak (Hp.le_set' nlk)).setL (o := lob lc .ready none) lp13 nlk
      rw [← hT] at hB14
      exact ⟨true, rfl, ⟨fun _ => ⟨Hp.set_same _ _ _, _, hB14, by rw [List.append_assoc, ← hra]; exact hc⟩, fun e => by cases e⟩⟩
  · obtain ⟨i1, cur, hB, hc⟩ := hi
    rw [runsT_end (Nat.le_refl _), List.append_nil] at hc
    subst hc
    refine ⟨.ready, none, i1, by simp, ?_⟩
    have hBe := hB.setL (o := lob lc .exhausted none) i1 nlk
    conv => whnf
    refine hBe.str (by omega) fun hh hle => ?_
    conv => whnf
    exact hk' hh (Hp.le_trans lehk hle)
end
end Go.Proofs.YtjipfibbkmmfbaaGreatDoor
