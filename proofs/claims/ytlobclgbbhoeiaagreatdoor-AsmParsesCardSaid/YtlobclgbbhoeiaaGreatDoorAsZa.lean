/-
  Instructions as text: why a line can't be.
-/
import Derived.Test.YtlobclgbbhoeiaaGreatDoorMidUc
import Derived.Test.YtlobclgbbhoeiaaGreatDoorMidMO
import Derived.Test.YtlobclgbbhoeiaaGreatDoorLib0
import Derived.Test.YtlobclgbbhoeiaaGreatDoorLibQ
import Derived.Test.YtlobclgbbhoeiaaGreatDoorLibV
import Derived.Test.YtlobclgbbhoeiaaGreatDoorRgX
import Derived.Lib.ParseIntBTie
import Derived.Test.YtlobclgbbhoeiaaGreatDoorTrK
/-! Instructions as text: why a line can't be. -/
namespace Go.Proofs.YtlobclgbbhoeiaaGreatDoor
set_option linter.unusedSimpArgs false
set_option linter.unusedVariables false
open Go Go.Mid Go.RowKit
attribute [local irreducible] mid
/-- A stop, as it is thrown. -/
def stopV (n : Int) : Value := .iface 77 (.agg #[.int .i64 n])
section
set_option maxHeartbeats 8000000
set_option maxRecDepth 10000
variable {h : Hp} {K : FrameMode → Hp → Prop}
theorem parse1_ret {a b : Addr} (hk : K .returning h) : XD Tryz.prog 37 #[.pointer (some a), .pointer (some b)] .returning h K := by
  refine xd_of mixed [(3, 3), (17, 3)] [] [5] [] Tryz.func37 rfl (by kernel_rfl) (by kernel_rfl) ?_
  conv => whnf
  exact hk
def insn0 : List Value := [.int .i64 0, .int .i64 0, .int .i64 0, .int .i64 0, .int .i64 0, .int .i64 0, .bool false, .bool false]
theorem sizAi : sizeT Tryz.prog 24 = some 8 := by kernel_rfl
theorem sizAe : sizeT Tryz.prog 26 = some 1 := by kernel_rfl
theorem parse1_pan {a b : Nat} {xl : List Value} {ev : Value} {n : Int} {r : List PanicEntry} (hab : a ≠ b) (hx : h a = some (rowO 24 xl)) (he : h b = some (rowO 26 [ev])) (hxs : xl.length = 8)
    (hk : ∀ h', h' a = some (rowO 24 insn0) → h' b = some (rowO 26 [.int .i64 n]) → (∀ c, c ≠ a → c ≠ b → h' c = h c) → K (.panicking ({ v := stopV n, recovered := true } :: r)) h') : XD Tryz.prog 37 #[.pointer (some ⟨a, 0, none⟩), .pointer (some ⟨b, 0, none⟩)] (.panicking ({ v := stopV n, recovered := false } :: r)) h K := by
  refine xd_of mixed [(3, 3), (17, 3)] [] [5] [] Tryz.func37 rfl (by kernel_rfl) (by kernel_rfl) ?_
  conv => whnf
  refine sem_ta (v := .agg #[.int .i64 n]) Tryz.underlying77 (fun _ hh => by cases hh) rfl rfl ?_
  conv => whnf
  refine wr_intro (by exact storeA0 sizAi hx hxs (by kernel_rfl) (by kernel_rfl)) (fun h1 at_h1 ot_h1 => ?_)
  try (conv => whnf)
  refine ⟨trivial, ?_⟩; conv => whnf
  have he1 : h1 b = some (rowO 26 [ev]) := (ot_h1 _ (Ne.symm hab)).trans he
  conv => whnf
  refine wr_intro (by exact storeC0 sizAe he1 (show (0 : Nat) < 1 by decide) rfl rfl) (fun h2 at_h2 ot_h2 => ?_)
  try (conv => whnf)
  refine ⟨trivial, ?_⟩; conv => whnf
  exact hk h2 ((ot_h2 _ hab).trans at_h1) at_h2 fun c hc hd => (ot_h2 c hd).trans (ot_h1 c hc)
end
end Go.Proofs.YtlobclgbbhoeiaaGreatDoor
/-! Instructions as text: a line that is too long. -/
namespace Go.Proofs.YtlobclgbbhoeiaaGreatDoor
set_option linter.unusedSimpArgs false
set_option linter.unusedVariables false
open Go Go.Mid Go.RowKit
attribute [local irreducible] mid
section
set_option maxHeartbeats 8000000
set_option maxRecDepth 10000
variable {h : Hp} {K : Value → Hp → Prop} {E : List PanicEntry → Hp → Prop}
abbrev oIn (l : List Value) : Obj := rowO 24 l
abbrev oEr (n : Int) : Obj := rowO 26 [.int .i64 n]
theorem aggAi : isAggT Tryz.prog 24 = some true := by kernel_rfl
theorem aggAe : isAggT Tryz.prog 26 = some false := by kernel_rfl
theorem parse_long (s : Str) (hs : 200 < s.length) (hl : s.length ≤ 2 ^ 40) (hk : ∀ h', h.le h' → K (.tuple #[.agg insn0.toArray, .int .i64 4]) h') : XE Tryz.prog 12 #[.string (bs s)] h K E := by
  refine fnd (args := _) mixed [] [] [] [(999998, [13, 16, 23, 25, 27, 29, 31, 33, 35, 39])] Tryz.func12 rfl (by kernel_rfl) ?_; conv => whnf
  refine new_intro (o := oIn insn0) (fun bx h1 n_bx le_bx at_bx ot_bx => ?_); conv => whnf
  refine new_intro (o := oEr 0) (fun be h2 n_be le_be at_be ot_be => ?_); conv => whnf
  refine ⟨rfl, ?_⟩
  have hsz : (bs s).size = s.length := bs_size s
  have a2 : h2 bx = some (oIn insn0) := le_be _ _ at_bx
  have hne : bx ≠ be := fun e => by rw [e, n_be] at at_bx; cases at_bx
  conv => whnf
  rw [hsz]
  refine bsel_true (by simp; omega) ?_; conv => whnf
  refine ⟨_, loadA0 aggAi sizAi a2 rfl, ?_⟩; conv => whnf
  refine wr_intro (by exact storeA0 sizAi a2 rfl (by kernel_rfl) (by kernel_rfl)) (fun h3 at_h3 ot_h3 => ?_)
  try (conv => whnf)
  have b3 : h3 be = some (oEr 0) := (ot_h3 _ (Ne.symm hne)).trans at_be
  refine wr_intro (by exact storeC0 sizAe b3 (show (0 : Nat) < 1 by decide) rfl rfl) (fun h4 at_h4 ot_h4 => ?_)
  try (conv => whnf)
  have b4 : h4 be = some (oEr 4) := at_h4
  have a4 : h4 bx = some (oIn insn0) := (ot_h4 _ hne).trans at_h3
  refine ⟨by kernel_rfl, XD.arg (args' := #[.pointer (some ⟨bx, 0, none⟩), .pointer (some ⟨be, 0, none⟩)]) rfl (parse1_ret ⟨settle_ret, ?_⟩)⟩
  conv => whnf
  refine ⟨_, loadA0 aggAi sizAi a4 rfl, ?_⟩; conv => whnf
  refine ⟨_, loadC0 aggAe b4 rfl, ?_⟩; conv => whnf
  refine hk h4 fun c o hc => ?_
  have c1 : c ≠ bx := fun e => by rw [e, n_bx] at hc; cases hc
  have c2 : c ≠ be := fun e => by have := le_bx _ _ hc; rw [e, n_be] at this; cases this
  rw [ot_h4 c c2, ot_h3 c c1]
  exact le_be _ _ (le_bx _ _ hc)
end
end Go.Proofs.YtlobclgbbhoeiaaGreatDoor
/-! Instructions as text: numbers, orders, marks. -/
namespace Go.Proofs.YtlobclgbbhoeiaaGreatDoor
set_option linter.unusedSimpArgs false
set_option linter.unusedVariables false
open Go Go.Mid Go.RowKit
attribute [local irreducible] mid
/-- The number that is written. -/
def numA (s : Str) : Option Int := match Lib.parseIntB 64 s with
  | .ok v => if Lib.itoa v = s then some v else none
  | _ => none
def okV (o : Option Int) : Value := .tuple #[.int .i64 (o.getD 0), .bool o.isSome]
def smallN (n : Int) : Int := if n < 0 ∨ 1048576 < n then -1 else n
def upN (n : Int) : Int := if n < -1099511627776 ∨ 1099511627776 < n then 1 else n * 4096
def orderS (f : Nat) : Str := match f with
  | 1 => [100, 49, 50]
  | 2 | 7 | 8 => [100, 49, 105]
  | 3 => [50, 49, 105]
  | 4 => [49, 50, 105]
  | 5 => [100, 117]
  | 6 => [100, 105]
  | 9 => [100, 99, 49]
  | 10 => [100, 99, 110]
  | 11 => [100, 50, 49]
  | 12 => [100, 49]
  | 14 => [49, 50]
  | _ => []
section
set_option maxHeartbeats 8000000
set_option maxRecDepth 10000
variable {h : Hp} {K : Value → Hp → Prop} {E : List PanicEntry → Hp → Prop}
theorem formatA_x (hp : Pow h) (n : Int) (h0 : -9223372036854775808 ≤ n) (h1 : n ≤ 9223372036854775807) (hk : K (.string (bs (Lib.itoa n))) h) : X Tryz.prog 27 #[.int .i64 n, .int .i64 10] h K :=
  X.ofGrow (fun w0 w s => Tryz.strconv_FormatInt_10 n h0 h1 w (hp.tab s)) hk
theorem small_x (n : Int) (hk : K (.int .i64 (smallN n)) h) : X Tryz.prog 44 #[.int .i64 n] h K := by
  unfold smallN at hk
  refine fnv (args := _) mixed [] [] [] Tryz.func44 rfl (by kernel_rfl) ?_; conv => whnf
  refine bsel_intro (fun q1 => ?_) (fun q1 => ?_) <;> try simp only [bsL] at q1
  · rw [if_pos (.inl (by omega))] at hk
    conv => whnf
    exact hk
  · conv => whnf
    refine bsel_intro (fun q2 => ?_) (fun q2 => ?_) <;> try simp only [bsL] at q2
    · rw [if_pos (.inr (by omega))] at hk
      exact hk
    · rw [if_neg (by omega)] at hk
      exact hk
theorem up_x (n : Int) (hk : K (.int .i64 (upN n)) h) : X Tryz.prog 43 #[.int .i64 n] h K := by
  unfold upN at hk
  refine fnv (args := _) mixed [] [] [] Tryz.func43 rfl (by kernel_rfl) ?_; conv => whnf
  refine bsel_intro (fun q1 => ?_) (fun q1 => ?_) <;> try simp only [bsL] at q1
  · rw [if_pos (.inl (by omega))] at hk
    conv => whnf
    exact hk
  · conv => whnf
    refine bsel_intro (fun q2 => ?_) (fun q2 => ?_) <;> try simp only [bsL] at q2
    · rw [if_pos (.inr (by omega))] at hk
      exact hk
    · rw [if_neg (by omega)] at hk
      (first | refine ov_c (by simp only [loK, hiK]; omega) ?_ | refine ov_c (by decide) ?_); conv => whnf
      exact hk
theorem order_x (f : Nat) (hf : f < 15) (hk : K (.string (bs (orderS f))) h) : X Tryz.prog 23 #[.int .i64 f] h K := by
  have : f = 0 ∨ f = 1 ∨ f = 2 ∨ f = 3 ∨ f = 4 ∨ f = 5 ∨ f = 6 ∨ f = 7 ∨ f = 8 ∨ f = 9 ∨ f = 10 ∨ f = 11 ∨ f = 12 ∨ f = 13 ∨ f = 14 := by omega
  rcases this with rfl | rfl | rfl | rfl | rfl | rfl | rfl | rfl | rfl | rfl | rfl | rfl | rfl | rfl | rfl <;>
  · refine fnv (args := _) mixed [] [] [] Tryz.func23 rfl (by kernel_rfl) ?_
    conv => whnf
    exact hk
theorem anumber_x (he : Er h) (hp : Pow h) (s : Str) (hs : s.length ≤ 2 ^ 40) (hk : K (okV (numA s)) h) : X Tryz.prog 10 #[.string (bs s)] h K := by
  refine fnv (args := _) mixed [] [] [] Tryz.func10 rfl (by kernel_rfl) ?_; conv => whnf
  refine parseInt_x he s hs (fun v hv => ?_) (fun v T p hno => ?_)
  · have hn : numA s = if Lib.itoa v = s then some v else none := by unfold numA; rw [hv]
    have hb := Lib.parseIntB_bounds hv
    have hb : -9223372036854775808 ≤ v ∧ v < 9223372036854775808 := hb
    rw [hn] at hk
    conv => whnf
    refine formatA_x hp v hb.1 (by omega) ?_
    conv => whnf
    by_cases hi : Lib.itoa v = s
    · rw [if_pos hi] at hk
      refine seq_true (by rw [hi]) ?_; conv => whnf
      exact hk
    · rw [if_neg hi] at hk
      refine seq_false (hi) ?_; conv => whnf
      exact hk
  · have hn : numA s = none := by
      unfold numA
      cases hx : Lib.parseIntB 64 s with
      | ok v' => exact absurd hx (hno v')
      | _ => rfl
    rw [hn] at hk
    conv => whnf
    exact hk
theorem reg_x (l : Str) (hl : l.length ≤ 2 ^ 60) (hk : ∀ i, Rg.findI l = some i → K (.int .i64 i) h) (he : Rg.findI l = none → E [{ v := stopV 9, recovered := false }] h) : XE Tryz.prog 40 #[.string (bs l)] h K E := by
  refine fnu (args := _) mixed [] [] [] [(999998, [3])] Tryz.func40 rfl (by kernel_rfl) ?_; conv => whnf
  refine Rg.find_x l hl ?_
  cases hf : Rg.findI l with
  | none =>
    conv => whnf
    exact he hf
  | some i =>
    conv => whnf
    exact hk i hf
theorem num_x (her : Er h) (hp : Pow h) (l : Str) (hl : l.length ≤ 2 ^ 40) (hk : ∀ i, numA l = some i → K (.int .i64 i) h) (he : numA l = none → E [{ v := stopV 2, recovered := false }] h) : XE Tryz.prog 42 #[.string (bs l)] h K E := by
  refine fnu (args := _) mixed [] [] [] [(999998, [3])] Tryz.func42 rfl (by kernel_rfl) ?_; conv => whnf
  refine anumber_x her hp l hl ?_
  cases hf : numA l with
  | none =>
    conv => whnf
    exact he hf
  | some i =>
    conv => whnf
    exact hk i hf
end
end Go.Proofs.YtlobclgbbhoeiaaGreatDoor
/-! Instructions as text: the op with a name; the ops' classes. -/
namespace Go.Proofs.YtlobclgbbhoeiaaGreatDoor
set_option linter.unusedSimpArgs false
set_option linter.unusedVariables false
open Go Go.Mid Go.RowKit
attribute [local irreducible] mid
section
set_option maxHeartbeats 8000000
set_option maxRecDepth 10000
variable {h : Hp} {K : Value → Hp → Prop} {E : List PanicEntry → Hp → Prop}
theorem aggBl : isAggT Tryz.prog 4 = some false := by kernel_rfl
theorem sizBl : sizeT Tryz.prog 4 = some 1 := by kernel_rfl
theorem sizY0 : sizeT Tryz.prog 22 = some 1 := by kernel_rfl
theorem kfind_x (l : Str) (hk1 : ∀ i : Nat, opNames[i]? = some l → (∀ j, j < i → opNames[j]? ≠ some l) → K (.tuple #[.int .i64 (i + 1 : Nat), .bool true]) h) (hk0 : (∀ j : Nat, opNames[j]? ≠ some l) → K (.tuple #[.int .i64 0, .bool false]) h) :
    X Tryz.prog 72 #[.string (bs l)] h K := by
  refine X.forget ?_
  have hk1' : ∀ (i : Nat) (h' : Hp), opNames[i]? = some l → (∀ j, j < i → opNames[j]? ≠ some l) → h.le h' → (∃ g : Hp, g.le h' ∧ K (.tuple #[.int .i64 (i + 1 : Nat), .bool true]) g) := fun i h' e1 e2 hle => ⟨h, hle, hk1 i e1 e2⟩
  have hk0' : ∀ (h' : Hp), (∀ j : Nat, opNames[j]? ≠ some l) → h.le h' → (∃ g : Hp, g.le h' ∧ K (.tuple #[.int .i64 0, .bool false]) g) := fun h' e1 hle => ⟨h, hle, hk0 e1⟩
  clear hk1 hk0
  refine fnv (args := _) mixed [] [] [] Tryz.func72 rfl (by kernel_rfl) ?_; conv => whnf
  refine new_intro (o := rowO 9 [.string (bs l)]) (fun b h1 n_b le_b at_b ot_b => ?_); conv => whnf
  refine new_intro (o := rowO 22 [.int .i64 0]) (fun r h2 n_r le_r at_r ot_r => ?_); conv => whnf
  refine new_intro (o := rowO 4 [.bool false]) (fun q h3 n_q le_q at_q ot_q => ?_); conv => whnf
  have b2 := le_q b _ (le_r b _ at_b)
  have r2 := le_q r _ at_r
  have hbr : b ≠ r := Hp.ne n_r at_b
  have hrq : r ≠ q := Hp.ne n_q at_r
  have hbq : b ≠ q := Hp.ne n_q (le_r b _ at_b)
  have l2 : h.le h3 := Hp.le_trans le_b (Hp.le_trans le_r le_q)
  have nr : h r = none := Hp.none_le le_b n_r
  have nq : h q = none := Hp.none_le (Hp.le_trans le_b le_r) n_q
  refine all_x ?_
  conv => whnf
  refine ⟨fun lp lc hl hy => ?_⟩
  have dlb : b ≠ lp := Hp.ne hl b2
  have dlr : r ≠ lp := Hp.ne hl r2
  have dlq : q ≠ lp := Hp.ne hl at_q
  have nl : h lp = none := Hp.none_le l2 hl
  refine all1_x (yieldV lp) fun it hit => ?_
  have dit : it ≠ lp := fun e => by subst e; rw [Hp.set_same] at hit; cases hit
  have hit2 : h3 it = none := by rw [Hp.set_other _ _ dit] at hit; exact hit
  have ditb : b ≠ it := Hp.ne hit2 b2
  have ditr : r ≠ it := Hp.ne hit2 r2
  have ditq : q ≠ it := Hp.ne hit2 at_q
  have niit : h it = none := Hp.none_le l2 hit2
  refine ⟨fun i h' => h' lp = some (lob lc .ready none) ∧ h' b = some (rowO 9 [.string (bs l)]) ∧ h' r = some (rowO 22 [.int .i64 0]) ∧ h' q = some (rowO 4 [.bool false]) ∧ h.le h' ∧ ∀ j, j < i → opNames[j]? ≠ some l, fun o => ?_, fun i h' o hI => ?_, fun i x h' hx hI => ?_, fun h' hI => ?_⟩
  · exact ⟨by rw [Hp.set_other _ _ (Ne.symm dit), Hp.set_same], by rw [Hp.set_other _ _ ditb, Hp.set_other _ _ dlb]; exact b2, by rw [Hp.set_other _ _ ditr, Hp.set_other _ _ dlr]; exact r2, by rw [Hp.set_other _ _ ditq, Hp.set_other _ _ dlq]; exact at_q, Hp.le_keep (Hp.le_keep l2 nl) niit, fun j hj => absurd hj (Nat.not_lt_zero _)⟩
  · obtain ⟨a1, a2, a3, a6, a4, a5⟩ := hI
    exact ⟨by rw [Hp.set_other _ _ (Ne.symm dit)]; exact a1, by rw [Hp.set_other _ _ ditb]; exact a2, by rw [Hp.set_other _ _ ditr]; exact a3, by rw [Hp.set_other _ _ ditq]; exact a6, Hp.le_keep a4 niit, a5⟩
  · obtain ⟨a1, a2, a3, a6, a4, a5⟩ := hI
    have b2' : (h'.set lp (lob lc .busy none)) b = some (rowO 9 [.string (bs l)]) := by rw [Hp.set_other _ _ dlb]; exact a2
    have r2' : (h'.set lp (lob lc .busy none)) r = some (rowO 22 [.int .i64 0]) := by rw [Hp.set_other _ _ dlr]; exact a3
    have q2' : (h'.set lp (lob lc .busy none)) q = some (rowO 4 [.bool false]) := by rw [Hp.set_other _ _ dlq]; exact a6
    have lp2 : (h'.set lp (lob lc .busy none)) lp = some (lob lc .busy none) := Hp.set_same _ _ _
    have le2 : h.le (h'.set lp (lob lc .busy none)) := Hp.le_keep a4 nl
    have it2 : (h'.set lp (lob lc .busy none)) it = h' it := Hp.set_other _ _ dit
    refine hy _ _ _ ⟨rfl, a1, ?_⟩
    conv => whnf
    refine ⟨a1, ?_⟩
    generalize h'.set lp (lob lc .busy none) = hb at b2' r2' q2' lp2 le2 it2 ⊢
    conv => whnf
    refine ⟨_, loadC0 aggSt b2' rfl, ?_⟩; conv => whnf
    by_cases hxl : x = l
    · subst hxl
      refine seq_true (rfl) ?_; conv => whnf
      refine wr_intro (by exact storeC0 sizY0 r2' (Nat.zero_lt_succ 0) rfl rfl) (fun h5 at_h5 ot_h5 => ?_)
      try (conv => whnf)
      have q5 : h5 q = some (rowO 4 [.bool false]) := (ot_h5 q (Ne.symm hrq)).trans q2'
      have lp5 : h5 lp = some (lob lc .busy none) := (ot_h5 lp (Ne.symm dlr)).trans lp2
      have le5 : h.le h5 := fun c o e => by rw [ot_h5 c (Hp.ne nr e)]; exact le2 _ _ e
      conv => whnf
      refine wr_intro (by exact storeC0 sizBl q5 (Nat.zero_lt_succ 0) rfl rfl) (fun h6 at_h6 ot_h6 => ?_)
      try (conv => whnf)
      have lp6 : h6 lp = some (lob lc .busy none) := (ot_h6 lp (Ne.symm dlq)).trans lp5
      have le6 : h.le h6 := fun c o e => by rw [ot_h6 c (Hp.ne nq e)]; exact le5 _ _ e
      have r6 : h6 r = some (rowO 22 [.int .i64 (i + 1 : Nat)]) := (ot_h6 r hrq).trans at_h5
      refine ⟨lp6, ?_⟩
      refine ⟨false, rfl, ⟨(fun e => by cases e), fun _ => ?_⟩⟩
      refine ⟨.done, some .ret, Hp.set_same _ _ _, by simp, ?_⟩
      rw [Hp.set_set]
      have r7 : (h6.set lp (lob lc .exhausted (some .ret))) r = some (rowO 22 [.int .i64 (i + 1 : Nat)]) := by rw [Hp.set_other _ _ dlr]; exact r6
      have q7 : (h6.set lp (lob lc .exhausted (some .ret))) q = some (rowO 4 [.bool true]) := by rw [Hp.set_other _ _ dlq]; exact at_h6
      have fin := hk1' i (h6.set lp (lob lc .exhausted (some .ret))) hx a5 (Hp.le_keep le6 nl)
      conv => whnf
      refine ⟨_, loadC0 aggY0 r7 rfl, ?_⟩; conv => whnf
      refine ⟨_, loadC0 aggBl q7 rfl, ?_⟩; conv => whnf
      exact fin
    · refine seq_false (hxl) ?_; conv => whnf
      refine ⟨lp2, true, rfl, fun _ => ⟨⟨Hp.set_same _ _ _, by rw [Hp.set_other _ _ dlb]; exact b2', by rw [Hp.set_other _ _ dlr]; exact r2', by rw [Hp.set_other _ _ dlq]; exact q2', Hp.le_keep le2 nl, fun j hj => ?_⟩, by rw [Hp.set_other _ _ dit]; exact it2⟩, fun e => by cases e⟩
      rcases Nat.lt_succ_iff_lt_or_eq.1 hj with hj | rfl
      · exact a5 j hj
      · rw [hx]; exact fun e => hxl (Option.some.inj e)
  · obtain ⟨a1, a2, a3, a6, a4, a5⟩ := hI
    refine ⟨.ready, none, a1, by simp, ?_⟩
    have r6 : (h'.set lp (lob lc .exhausted none)) r = some (rowO 22 [.int .i64 0]) := by rw [Hp.set_other _ _ dlr]; exact a3
    have q6 : (h'.set lp (lob lc .exhausted none)) q = some (rowO 4 [.bool false]) := by rw [Hp.set_other _ _ dlq]; exact a6
    have le6 : h.le (h'.set lp (lob lc .exhausted none)) := Hp.le_keep a4 nl
    have fin : ∀ H : Hp, h.le H → ∃ g : Hp, g.le H ∧ K (.tuple #[.int .i64 0, .bool false]) g := fun H hH => hk0' H (fun j => by
      rcases Nat.lt_or_ge j 98 with hj | hj
      · exact a5 j hj
      · rw [List.getElem?_eq_none (by rw [opNames_len]; exact hj)]; exact fun e => by cases e) hH
    generalize h'.set lp (lob lc .exhausted none) = hc at r6 q6 le6 ⊢
    conv => whnf
    refine wr_intro (by exact storeC0 sizY0 r6 (Nat.zero_lt_succ 0) rfl rfl) (fun h5 at_h5 ot_h5 => ?_)
    try (conv => whnf)
    have q7 : h5 q = some (rowO 4 [.bool false]) := (ot_h5 q (Ne.symm hrq)).trans q6
    conv => whnf
    refine wr_intro (by exact storeC0 sizBl q7 (Nat.zero_lt_succ 0) rfl rfl) (fun h7 at_h7 ot_h7 => ?_)
    try (conv => whnf)
    have r8 : h7 r = some (rowO 22 [.int .i64 0]) := (ot_h7 r hrq).trans at_h5
    have q8 : h7 q = some (rowO 4 [.bool false]) := at_h7
    have le8 : h.le h7 := fun c o e => by rw [ot_h7 c (Hp.ne nq e), ot_h5 c (Hp.ne nr e)]; exact le6 _ _ e
    conv => whnf
    refine ⟨_, loadC0 aggY0 r8 rfl, ?_⟩; conv => whnf
    refine ⟨_, loadC0 aggBl q8 rfl, ?_⟩; conv => whnf
    exact fin _ le8
theorem within_x (a f t : Int) (hk : K (.bool (decide (f ≤ a ∧ a ≤ t))) h) : X Tryz.prog 110 #[.int .i64 a, .int .i64 f, .int .i64 t] h K := by
  refine fnv (args := _) mixed [] [] [] Tryz.func110 rfl (by kernel_rfl) ?_; conv => whnf
  refine bsel_intro (fun q1 => ?_) (fun q1 => ?_) <;> try simp only [bsL] at q1
  · conv => whnf
    exact kq hk (bI (by rw [Bool.eq_iff_iff]; simp; omega))
  · conv => whnf
    exact kq hk (bI (by rw [Bool.eq_iff_iff]; simp; omega))
end
end Go.Proofs.YtlobclgbbhoeiaaGreatDoor
/-! (Its walk of Class is printed by a program.) Instructions as text: the ops' classes; marks. -/
namespace Go.Proofs.YtlobclgbbhoeiaaGreatDoor
set_option linter.unusedSimpArgs false
set_option linter.unusedVariables false
open Go Go.Mid Go.RowKit
attribute [local irreducible] mid
def classN (n : Int) : Int := if 1 ≤ n ∧ n ≤ 2 then 2 else if 3 ≤ n ∧ n ≤ 4 then 3 else if 5 ≤ n ∧ n ≤ 10 then 4 else if 11 ≤ n ∧ n ≤ 17 then 5 else if 18 ≤ n ∧ n ≤ 21 then 6 else if (22 ≤ n ∧ n ≤ 49) ∨ (54 ≤ n ∧ n ≤ 66) then 1 else if 50 ≤ n ∧ n ≤ 51 then 9 else if 67 ≤ n ∧ n ≤ 88 then 7 else if 89 ≤ n ∧ n ≤ 94 then 8 else if (52 ≤ n ∧ n ≤ 53) ∨ (95 ≤ n ∧ n ≤ 98) then 10 else 0
section
set_option maxHeartbeats 8000000
set_option maxRecDepth 10000
variable {h : Hp} {K : Value → Hp → Prop} {E : List PanicEntry → Hp → Prop}
theorem class_x (n : Int) (hk : K (.int .i64 (classN n)) h) : X Tryz.prog 74 #[.int .i64 n] h K := by
  unfold classN at hk
  refine fnv (args := _) mixed [] [] [] Tryz.func74 rfl (by kernel_rfl) ?_; conv => whnf
  refine within_x n 1 2 ?_
  conv => whnf
  refine bsel_intro (fun q0 => ?_) (fun q0 => ?_) <;> try simp only [bsL] at q0
  · rw [if_pos (by omega)] at hk
    conv => whnf
    exact hk
  rw [if_neg (by omega)] at hk
  conv => whnf
  refine within_x n 3 4 ?_
  conv => whnf
  refine bsel_intro (fun q1 => ?_) (fun q1 => ?_) <;> try simp only [bsL] at q1
  · rw [if_pos (by omega)] at hk
    conv => whnf
    exact hk
  rw [if_neg (by omega)] at hk
  conv => whnf
  refine within_x n 5 10 ?_
  conv => whnf
  refine bsel_intro (fun q2 => ?_) (fun q2 => ?_) <;> try simp only [bsL] at q2
  · rw [if_pos (by omega)] at hk
    conv => whnf
    exact hk
  rw [if_neg (by omega)] at hk
  conv => whnf
  refine within_x n 11 17 ?_
  conv => whnf
  refine bsel_intro (fun q3 => ?_) (fun q3 => ?_) <;> try simp only [bsL] at q3
  · rw [if_pos (by omega)] at hk
    conv => whnf
    exact hk
  rw [if_neg (by omega)] at hk
  conv => whnf
  refine within_x n 18 21 ?_
  conv => whnf
  refine bsel_intro (fun q4 => ?_) (fun q4 => ?_) <;> try simp only [bsL] at q4
  · rw [if_pos (by omega)] at hk
    conv => whnf
    exact hk
  rw [if_neg (by omega)] at hk
  conv => whnf
  refine within_x n 22 49 ?_
  conv => whnf
  refine bsel_intro (fun q5 => ?_) (fun q5 => ?_) <;> try simp only [bsL] at q5
  · rw [if_pos (by omega)] at hk
    conv => whnf
    refine bsel_true (by simp; omega) ?_; conv => whnf
    exact hk
  conv => whnf
  refine within_x n 54 66 ?_
  conv => whnf
  refine bsel_intro (fun r5 => ?_) (fun r5 => ?_) <;> try simp only [bsL] at r5
  · rw [if_pos (by omega)] at hk
    conv => whnf
    exact hk
  rw [if_neg (by omega)] at hk
  conv => whnf
  refine within_x n 50 51 ?_
  conv => whnf
  refine bsel_intro (fun q6 => ?_) (fun q6 => ?_) <;> try simp only [bsL] at q6
  · rw [if_pos (by omega)] at hk
    conv => whnf
    exact hk
  rw [if_neg (by omega)] at hk
  conv => whnf
  refine within_x n 67 88 ?_
  conv => whnf
  refine bsel_intro (fun q7 => ?_) (fun q7 => ?_) <;> try simp only [bsL] at q7
  · rw [if_pos (by omega)] at hk
    conv => whnf
    exact hk
  rw [if_neg (by omega)] at hk
  conv => whnf
  refine within_x n 89 94 ?_
  conv => whnf
  refine bsel_intro (fun q8 => ?_) (fun q8 => ?_) <;> try simp only [bsL] at q8
  · rw [if_pos (by omega)] at hk
    conv => whnf
    exact hk
  rw [if_neg (by omega)] at hk
  conv => whnf
  refine within_x n 52 53 ?_
  conv => whnf
  refine bsel_intro (fun q9 => ?_) (fun q9 => ?_) <;> try simp only [bsL] at q9
  · rw [if_pos (by omega)] at hk
    conv => whnf
    refine bsel_true (by simp; omega) ?_; conv => whnf
    exact hk
  conv => whnf
  refine within_x n 95 98 ?_
  conv => whnf
  refine bsel_intro (fun r9 => ?_) (fun r9 => ?_) <;> try simp only [bsL] at r9
  · rw [if_pos (by omega)] at hk
    conv => whnf
    exact hk
  rw [if_neg (by omega)] at hk
  conv => whnf
  exact hk
def bitsS (aq rl : Bool) : Str := if aq && rl then [46, 97, 113, 114, 108] else if aq then [46, 97, 113] else if rl then [46, 114, 108] else []
theorem bits_x (x0 x1 x2 x3 x4 x5 : Int) (aq rl : Bool) (hk : K (.string (bs (bitsS aq rl))) h) : X Tryz.prog 22 #[.agg #[.int .i64 x0, .int .i64 x1, .int .i64 x2, .int .i64 x3, .int .i64 x4, .int .i64 x5, .bool aq, .bool rl]] h K := by
  cases aq <;> cases rl <;>
  · refine fnv (args := _) mixed [(1, 1), (4, 1), (7, 1), (11, 1), (14, 1)] [] [] Tryz.func22 rfl (by kernel_rfl) ?_
    conv => whnf
    exact hk
end
end Go.Proofs.YtlobclgbbhoeiaaGreatDoor
/-! Instructions as text: the op of a line's first word. -/
namespace Go.Proofs.YtlobclgbbhoeiaaGreatDoor
set_option linter.unusedSimpArgs false
set_option linter.unusedVariables false
open Go Go.Mid Go.RowKit
attribute [local irreducible] mid
/-- The place of a name. -/
def opIx (l : Str) : Option Nat := opNames.findIdx? (· == l)
theorem opIx_some {l : Str} {i : Nat} (h1 : opNames[i]? = some l) (h2 : ∀ j, j < i → opNames[j]? ≠ some l) : opIx l = some i := by
  unfold opIx
  obtain ⟨hi, e⟩ := List.getElem?_eq_some_iff.1 h1
  rw [List.findIdx?_eq_some_iff_getElem]
  refine ⟨hi, by simpa using e, fun j hj => ?_⟩
  have := h2 j hj
  rw [List.getElem?_eq_getElem (by omega)] at this
  simpa using fun e => this (by rw [e])
theorem opIx_none {l : Str} (h : ∀ j : Nat, opNames[j]? ≠ some l) : opIx l = none := by
  unfold opIx
  rw [List.findIdx?_eq_none_iff]
  intro x hx
  obtain ⟨i, hi⟩ := List.mem_iff_getElem?.1 hx
  simpa using fun e => h i (by rw [hi, e])
theorem opIx_lt {l : Str} {i : Nat} (h : opIx l = some i) : i < 98 := by
  unfold opIx at h
  rw [List.findIdx?_eq_some_iff_getElem] at h
  obtain ⟨hi, _⟩ := h
  rwa [opNames_len] at hi
/-- The op, and marks, of a word. -/
def opA (l : Str) : Option (Nat × Bool × Bool) := match opIx l with
  | some i => some (i, false, false)
  | none => if Lib.lastIndexByte (bs l) 46 < 0 then none else match opIx (l.take (Lib.lastIndexByte (bs l) 46).toNat) with
    | none => none
    | some i => if classN (i + 1 : Nat) ≠ 7 then none else
      if l.drop (Lib.lastIndexByte (bs l) 46).toNat = [46, 97, 113] then some (i, true, false) else
      if l.drop (Lib.lastIndexByte (bs l) 46).toNat = [46, 114, 108] then some (i, false, true) else
      if l.drop (Lib.lastIndexByte (bs l) 46).toNat = [46, 97, 113, 114, 108] then some (i, true, true) else none
def insnO (i : Nat) (aq rl : Bool) : Value := .agg #[.int .i64 (i + 1 : Nat), .int .i64 0, .int .i64 0, .int .i64 0, .int .i64 0, .int .i64 0, .bool aq, .bool rl]
section
set_option maxHeartbeats 8000000
set_option maxRecDepth 10000
variable {h : Hp} {K : Value → Hp → Prop} {E : List PanicEntry → Hp → Prop}
theorem lastIndex_x (s : Str) (hs : s.length ≤ 2 ^ 40) (hk : K (.int .i64 (Lib.lastIndexByte (bs s) 46)) h) : X Tryz.prog 73 #[.string (bs s), .int .u8 46] h K := by
  refine X.ofBelow (v := .int .i64 (Lib.lastIndexByte (bs s) 46)) (fun w0 w t => ?_) hk
  refine (Tryz.strings_LastIndexByte (bs s) 46 (by rw [bs_size]; omega) w).mono fun e w' hh => ⟨hh.1, by rw [hh.2]; exact Below.refl _ _⟩
theorem last_range (l : Str) : -1 ≤ Lib.lastIndexByte (bs l) 46 ∧ Lib.lastIndexByte (bs l) 46 < l.length := by
  have := Lib.lastIndexByte_spec (bs l) 46
  rw [bs_size] at this
  rcases this with ⟨e, _⟩ | ⟨i, hi, e, _⟩ <;> omega
theorem kfind2_x (l : Str) (hk : ∀ v, v = (match opIx l with
    | some i => .tuple #[.int .i64 (i + 1 : Nat), .bool true]
    | none => .tuple #[.int .i64 0, .bool false]) → K v h) : X Tryz.prog 72 #[.string (bs l)] h K := by
  refine kfind_x l (fun i e1 e2 => ?_) (fun e => ?_)
  · exact hk _ (by rw [opIx_some e1 e2])
  · exact hk _ (by rw [opIx_none e])
theorem op_x (l : Str) (hl : l.length ≤ 2 ^ 40) (hk : ∀ i aq rl, opA l = some (i, aq, rl) → K (insnO i aq rl) h) (he : opA l = none → E [{ v := stopV 9, recovered := false }] h) : XE Tryz.prog 39 #[.string (bs l)] h K E := by
  unfold opA at hk he
  obtain ⟨r1, r2⟩ := last_range l
  refine fnu (args := _) mixed [(2, 2)] [] [] [(999998, [6, 9, 17])] Tryz.func39 rfl (by kernel_rfl) ?_; conv => whnf
  refine kfind2_x l fun v hv => ?_
  cases h1 : opIx l with
  | some i =>
    rw [h1] at hv hk
    simp only at hv hk
    subst hv
    conv => whnf
    exact hk i false false rfl
  | none =>
    rw [h1] at hv hk he
    simp only at hv hk he
    subst hv
    conv => whnf
    refine lastIndex_x l hl ?_
    generalize Lib.lastIndexByte (bs l) 46 = at_ at r1 r2 hk he ⊢
    conv => whnf
    refine bsel_intro (fun q1 => ?_) (fun q1 => ?_) <;> try simp only [bsL] at q1
    · rw [if_pos (by omega)] at he
      conv => whnf
      exact he rfl
    · rw [if_neg (by omega)] at he hk
      conv => whnf
      (first | refine need_intro (⟨by omega, by rw [bs_size]; omega⟩) ?_ | refine must.mk (⟨by omega, by rw [bs_size]; omega⟩) ?_); conv => whnf
      refine sub_by (m := l.take at_.toNat) rfl ?_
      conv => whnf
      refine kfind2_x (l.take at_.toNat) fun v2 hv2 => ?_
      cases h2 : opIx (l.take at_.toNat) with
      | none =>
        rw [h2] at hv2 he
        simp only at hv2 he
        subst hv2
        conv => whnf
        exact he trivial
      | some i =>
        rw [h2] at hv2 he hk
        simp only at hv2 he hk
        subst hv2
        conv => whnf
        refine class_x _ ?_
        conv => whnf
        by_cases hc : classN (i + 1 : Nat) = 7
        · rw [if_neg (by simpa using hc)] at he hk
          refine bsel_false (by simpa using hc) ?_; conv => whnf
          (first | refine need_intro (⟨by omega, by rw [bs_size]; omega⟩) ?_ | refine must.mk (⟨by omega, by rw [bs_size]; omega⟩) ?_); conv => whnf
          refine sub_from (m := l.drop at_.toNat) rfl ?_
          conv => whnf
          generalize l.drop at_.toNat = d at he hk ⊢
          by_cases d1 : d = [46, 97, 113]
          · rw [if_pos d1] at hk
            refine seq_true (d1) ?_; conv => whnf
            exact hk i true false rfl
          rw [if_neg d1] at hk he
          refine seq_false (d1) ?_; conv => whnf
          by_cases d2 : d = [46, 114, 108]
          · rw [if_pos d2] at hk
            refine seq_true (d2) ?_; conv => whnf
            exact hk i false true rfl
          rw [if_neg d2] at hk he
          refine seq_false (d2) ?_; conv => whnf
          by_cases d3 : d = [46, 97, 113, 114, 108]
          · rw [if_pos d3] at hk
            refine seq_true (d3) ?_; conv => whnf
            exact hk i true true rfl
          rw [if_neg d3] at he
          refine seq_false (d3) ?_; conv => whnf
          exact he rfl
        · rw [if_pos (by simpa using hc)] at he
          refine bsel_true (by simpa using hc) ?_; conv => whnf
          exact he rfl
end
end Go.Proofs.YtlobclgbbhoeiaaGreatDoor
