/-
  Scripts: their text, the program's.
-/
import Derived.Test.YtclbommhagmpdaaDoorStx2
import Derived.Test.YtclbommhagmpdaaDoorLin
namespace Go.Proofs.YtclbommhagmpdaaDoor
set_option linter.unusedSimpArgs false
set_option linter.unusedVariables false
open Go Go.Mid Go.RowKit
attribute [local irreducible] mid
section
set_option maxHeartbeats 8000000
set_option maxRecDepth 10000
variable {h : Hp} {K : Value → Hp → Prop}
def hexD : Str := [48, 49, 50, 51, 52, 53, 54, 55, 56, 57, 97, 98, 99, 100, 101, 102]
def hexN (n : Nat) : UInt8 := hexD.getD n 0
def hexS (b : Str) : Str := b.flatMap fun x => [hexN (x.toNat / 16), hexN (x.toNat % 16)]
theorem hexS_len (b : Str) : (hexS b).length = 2 * b.length := by
  unfold hexS
  induction b with
  | nil => rfl
  | cons x b ih => rw [List.flatMap_cons, List.length_append, ih, List.length_cons]; simp; omega
theorem hexS_take {b : Str} {i : Nat} {x : UInt8} (hx : b[i]? = some x) : hexS (b.take (i + 1)) = hexS (b.take i) ++ [hexN (x.toNat / 16)] ++ [hexN (x.toNat % 16)] := by
  rw [List.take_add_one, hx]
  unfold hexS
  rw [List.flatMap_append, List.append_assoc]
  rfl
theorem hexD_at : ∀ n : Nat, n < 16 → hexD[n]? = some (hexN n) := by decide +kernel
theorem u8_and : ∀ n : Nat, n < 256 → IntKind.u8.wrap (BitVec.ofInt IntKind.u8.bits (n : Int) &&& BitVec.ofInt IntKind.u8.bits 15).toNat = ((n % 16 : Nat) : Int) := by decide +kernel
theorem u8_shr : ∀ n : Nat, n < 256 → ((n : Int).fdiv (2 ^ 4)) = ((n / 16 : Nat) : Int) := by decide +kernel
theorem hex_x (base : Option Addr) (cap : Nat) (b : Str) (hb : b.length ≤ 2 ^ 20) (hr : ∀ i x, b[i]? = some x → ∃ a, base = some a ∧ h.cell? (a.add i) = some (byV x)) (hk : K (.string (bs (hexS b))) h) : X Tryd.prog 57 #[.slice base b.length cap] h K := by
  refine X.forget ?_
  have hk' : ∀ h' : Hp, h.le h' → (∃ g : Hp, g.le h' ∧ K (.string (bs (hexS b))) g) := fun h' hle => ⟨h, hle, hk⟩
  clear hk
  refine fnv (args := _) mixed [] [] [] Tryd.func57 rfl (by kernel_rfl) ?_
  conv => whnf
  refine new_intro (o := rowO 119 [.pointer none, .slice none 0 0]) (fun o h1 n_o le_o at_o ot_o => ?_)
  conv => whnf
  have hB1 := Bds.of (k := h) le_o n_o at_o
  refine loop_at [8] [] (fun r vs _ h' => ∃ i : Nat, i ≤ b.length ∧ r = b.length - i ∧ vs = [.v (.int .i64 i)] ∧ Bds 119 h h' o (hexS (b.take i))) b.length ⟨0, by omega, by omega, rfl, hB1⟩ ?_
  rintro r vs cs mm bx h2 ⟨i, hi, rfl, rfl, hB2⟩
  have hlen := hexS_len (b.take i)
  have hlen2 : (b.take i).length ≤ b.length := List.length_take_le' _ _
  conv => whnf
  refine bsel_intro (fun q1 => ?_) (fun q1 => ?_) <;> try simp only [decide_eq_true_eq, decide_eq_false_iff_not, beq_iff_eq, beq_eq_false_iff_ne, ne_eq, Bool.not_eq_true', Bool.not_eq_false', bne_iff_ne, bne_eq_false_iff_eq, Bool.not_eq_true, Bool.not_eq_false, Bool.and_eq_true, Bool.or_eq_true, bs_size] at q1
  · have hil : i < b.length := by omega
    obtain ⟨x, hx⟩ : ∃ x, b[i]? = some x := ⟨_, List.getElem?_eq_getElem hil⟩
    obtain ⟨a, rfl, e1⟩ := hr i x hx
    have hst := hexS_take hx
    have hx256 : x.toNat < 256 := x.toNat_lt
    conv => whnf
    first | refine need_intro (⟨by omega, by omega⟩) ?_ | refine must.mk (⟨by omega, by omega⟩) ?_
    conv => whnf
    have e2 : loadH Tryd.prog 5 h2 (a.add (((i : Int)).toNat * 1)) = some (byV x) := by
      rw [show ((i : Int)).toNat = i by omega, Nat.mul_one, loadH_cell aggU8]
      exact cell_le hB2.le e1
    refine ⟨_, e2, ?_⟩
    conv => whnf
    rw [show ((x.toNat : Int)).fdiv (2 ^ min (Int.toNat 4) IntKind.u8.bits) = ((x.toNat / 16 : Nat) : Int) from u8_shr _ hx256]
    refine ch_intro (l := hexD) (hexN (x.toNat / 16)) (by omega) (by rw [Int.toNat_natCast]; exact hexD_at _ (by omega)) ?_
    conv => whnf
    refine hB2.wb liesB (hexN (x.toNat / 16)) (by omega) fun h3 hB3 => ?_
    conv => whnf
    rw [show IntKind.u8.wrap (BitVec.ofInt IntKind.u8.bits (x.toNat : Int) &&& BitVec.ofInt IntKind.u8.bits 15).toNat = ((x.toNat % 16 : Nat) : Int) from u8_and _ hx256]
    refine ch_intro (l := hexD) (hexN (x.toNat % 16)) (by omega) (by rw [Int.toNat_natCast]; exact hexD_at _ (by omega)) ?_
    conv => whnf
    refine hB3.wb liesB (hexN (x.toNat % 16)) (by rw [List.length_append]; show _ + 1 ≤ _; omega) fun h4 hB4 => ?_
    rw [← hst] at hB4
    conv => whnf
    first | refine ov_i64 (by omega) ?_ | refine ov_u64 (by omega) ?_ | refine ov_i64 (by decide) ?_ | refine ov_u64 (by decide) ?_ | refine ov_u8 (by omega) ?_ | refine ov_i32 (by omega) ?_ | refine ov_u32 (by omega) ?_
    conv => whnf
    exact ⟨b.length - (i + 1), by omega, i + 1, by omega, rfl, rfl, hB4⟩
  · have : i = b.length := by omega
    subst this
    rw [List.take_length] at hB2 hlen
    conv => whnf
    refine hB2.str (by omega) fun h7 hle => ?_
    conv => whnf
    exact hk' _ hle
theorem numS_x (hp : Pow h) (n : Int) (h0 : -9223372036854775808 ≤ n) (h1 : n ≤ 9223372036854775807) (hk : K (.string (bs (Lib.itoa n))) h) : X Tryd.prog 55 #[.int .i64 n] h K := by
  refine fnv (args := _) mixed [] [] [] Tryd.func55 rfl (by kernel_rfl) ?_
  conv => whnf
  refine itoaA_x hp n h0 h1 ?_
  conv => whnf
  exact hk
theorem liesW : liesAt Tryd.prog Tryd.prog.depth 129 (2 / Tryd.prog.cellsOf 129) 0 119 1 = true := by kernel_rfl
abbrev Bw (k h : Hp) (b : Nat) (l : Str) : Prop := Bds 129 k h b l
theorem J_ne {x : Str} {xs : List Str} (hx : x ≠ []) : J (x :: xs) ≠ [] := fun hh => by
  have : J (x :: xs) = x ++ tl xs := join_tl _ _
  rw [this] at hh
  exact hx (List.append_eq_nil_iff.1 hh).1
/-- A line of words. -/
theorem wput_x {k : Hp} {b c cap : Nat} {l : Str} {x : Str} {xs : List Str} {rest : List Value} (hB : Bw k h b l) (hc : h c = some (rowO 9 ((x :: xs).map sv ++ rest))) (hx : x ≠ []) (hcap : (x :: xs).length ≤ cap) (hn : (x :: xs).length ≤ 2 ^ 20) (hlen : l.length + (J (x :: xs)).length + 1 ≤ 2 ^ 29)
    (hk : ∀ h', Bw k h' b (l ++ (J (x :: xs) ++ [10])) → K (.tuple #[]) h') : X Tryd.prog 54 #[.pointer (some ⟨b, 0, none⟩), .slice (some ⟨c, 0, none⟩) (x :: xs).length cap] h K := by
  refine fnv (args := _) mixed [] [] [] Tryd.func54 rfl (by kernel_rfl) ?_
  conv => whnf
  refine join_x c 0 cap (x :: xs) [32] (fun j y hj => ?_) ⟨_, hc⟩ (Nat.le_trans hn (by decide)) hcap (Nat.le_trans (by show (J (x :: xs)).length ≤ 2 ^ 29; omega) (by decide : 2 ^ 29 ≤ 2 ^ 40)) ?_
  · rw [Nat.zero_add]
    exact cell_row hc (by rw [List.getElem?_append_left (by rw [List.length_map]; exact (List.getElem?_eq_some_iff.1 hj).1), List.getElem?_map, hj]; rfl)
  refine ⟨trivial, ?_⟩
  conv => whnf
  refine hB.ws liesW (J (x :: xs)) (J_ne hx) (by omega) fun h1 hB1 => ?_
  refine ⟨trivial, ?_⟩
  conv => whnf
  refine hB1.wb liesW 10 (by rw [List.length_append]; omega) fun h2 hB2 => ?_
  conv => whnf
  exact hk h2 (by rw [← List.append_assoc]; exact hB2)
/-- Words that are built, and laid. -/
theorem wputB {k : Hp} {b c : Nat} {l : Str} {x : Str} {xs : List Str} {h1 : Hp} (hB : Bw k h b l) (n_c : h c = none) (le_c : h.le h1) (at_c : h1 c = some (rowO 9 ((x :: xs).map sv))) (hx : x ≠ []) (hn : (x :: xs).length ≤ 2 ^ 20) (hlen : l.length + (J (x :: xs)).length + 1 ≤ 2 ^ 29)
    (hk : ∀ h', Bw k h' b (l ++ (J (x :: xs) ++ [10])) → K (.tuple #[]) h') : X Tryd.prog 54 #[.pointer (some ⟨b, 0, none⟩), .slice (some ⟨c, 0, none⟩) (x :: xs).length (x :: xs).length] h1 K :=
  wput_x (rest := []) (hB.up le_c) (by rw [List.append_nil]; exact at_c) hx (Nat.le_refl _) hn hlen hk
abbrev sMachine : Str := [109, 97, 99, 104, 105, 110, 101]
abbrev sBudget : Str := [98, 117, 100, 103, 101, 116]
abbrev sAt : Str := [97, 116]
abbrev sPick : Str := [112, 105, 99, 107]
abbrev sTick : Str := [116, 105, 99, 107]
abbrev sInput : Str := [105, 110, 112, 117, 116]
abbrev sWire : Str := [119, 105, 114, 101]
abbrev sOn : Str := [111, 110]
abbrev sOff : Str := [111, 102, 102]
def lineWs (l : Ln) (n : Nat) : List Str := if l.w = 0 then [sPick, Lib.itoa l.n, Lib.itoa n] else if l.w = 1 then [sTick, Lib.itoa l.n] else if l.w = 2 then [sInput, Lib.itoa l.n] else [sWire, Lib.itoa l.n, if l.on then sOn else sOff]
def lineT (l : Ln) (n : Nat) : Str := J (lineWs l n) ++ [10]
/-- From i on so many lines are one. -/
def runN (L : List Ln) (i : Nat) : Nat := match L.drop i with
  | [] => 1
  | x :: l => if x.w = 0 then (l.takeWhile fun y => decide (y = x)).length + 1 else 1
theorem takeW_at {α : Type} {p : α → Bool} : ∀ (l : List α) (j : Nat), j < (l.takeWhile p).length → ∃ y, l[j]? = some y ∧ p y = true
  | [], j, h => by simp at h
  | y :: l, j, h => by
    rw [List.takeWhile_cons] at h
    split at h
    · rename_i hp
      cases j with
      | zero => exact ⟨y, rfl, hp⟩
      | succ j => exact takeW_at l j (by simpa using h)
    · simp at h
theorem takeW_end {α : Type} {p : α → Bool} : ∀ (l : List α) (y : α), l[(l.takeWhile p).length]? = some y → p y = false
  | [], y, h => by simp at h
  | z :: l, y, h => by
    rw [List.takeWhile_cons] at h
    split at h
    · rename_i hp
      exact takeW_end l y (by simpa using h)
    · rename_i hp
      simp at h; subst h
      simpa using hp
theorem runN_is {L : List Ln} {i : Nat} {x : Ln} (hx : L[i]? = some x) : IsRun L i (runN L i) := by
  obtain ⟨hi, e⟩ := List.getElem?_eq_some_iff.1 hx
  have hd : L.drop i = x :: L.drop (i + 1) := by rw [List.drop_eq_getElem_cons hi, e]
  unfold runN
  rw [hd]
  simp only
  have hlt : ∀ p : Ln → Bool, ((L.drop (i + 1)).takeWhile p).length ≤ L.length - (i + 1) := fun p => by
    have := (List.takeWhile_prefix (l := L.drop (i + 1)) p).length_le
    rwa [List.length_drop] at this
  split
  · rename_i hw
    refine ⟨x, hx, by omega, by have := hlt (fun y => decide (y = x)); omega, fun hh => absurd hw hh, fun j hj => ?_, fun _ hh => ?_⟩
    · cases j with
      | zero => exact hx
      | succ j =>
        obtain ⟨y, hy, hp⟩ := takeW_at (p := fun y => decide (y = x)) (L.drop (i + 1)) j (by omega)
        rw [List.getElem?_drop] at hy
        rw [show i + (j + 1) = i + 1 + j by omega, hy, of_decide_eq_true hp]
    · have := takeW_end (p := fun y => decide (y = x)) (L.drop (i + 1)) x (by rw [List.getElem?_drop, ← hh]; congr 1; omega)
      simp at this
  · rename_i hw
    exact ⟨x, hx, by omega, by omega, fun _ => rfl, fun j hj => by
      obtain rfl : j = 0 := by omega
      exact hx, fun hh => absurd hh hw⟩
/-- The text of the lines from i on. -/
def runsT (L : List Ln) (i : Nat) : Str := match hx : L[i]? with
  | none => []
  | some x => lineT x (runN L i) ++ runsT L (i + runN L i)
termination_by L.length - i
decreasing_by
  obtain ⟨_, _, h1, h2, _⟩ := runN_is hx
  omega
theorem runsT_end {L : List Ln} {i : Nat} (h : L.length ≤ i) : runsT L i = [] := by
  rw [runsT]
  split
  · rfl
  · rename_i x hx
    have := (List.getElem?_eq_some_iff.1 hx).1
    omega
theorem runsT_at {L : List Ln} {i n : Nat} {x : Ln} (hx : L[i]? = some x) (hn : IsRun L i n) : runsT L i = lineT x n ++ runsT L (i + n) := by
  have : runN L i = n := (runN_is hx).one hn
  rw [runsT]
  split
  · rename_i h; rw [hx] at h; cases h
  · rename_i y hy
    rw [hx] at hy; cases hy
    rw [this]
end
end Go.Proofs.YtclbommhagmpdaaDoor
