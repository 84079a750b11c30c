/-
  Scripts that are read: the reader, as an object.
-/
import Derived.Test.YtjipfibbkmmfbaaGreatDoorSpX
import Derived.Test.YtjipfibbkmmfbaaGreatDoorStxC
import Derived.Test.YtjipfibbkmmfbaaGreatDoorRgX
import Derived.Test.YtjipfibbkmmfbaaGreatDoorMidMO
import Derived.Test.YtjipfibbkmmfbaaGreatDoorLibQ
import Derived.Test.YtjipfibbkmmfbaaGreatDoorLibV
/-! Scripts that are read: the reader, as an object. -/
namespace Go.Proofs.YtjipfibbkmmfbaaGreatDoor
set_option linter.unusedSimpArgs false
set_option linter.unusedVariables false
open Go Go.Mid Go.RowKit
attribute [local irreducible] mid
section
set_option maxHeartbeats 8000000
set_option maxRecDepth 10000
variable {h : Hp} {K : Value → Hp → Prop} {E : List PanicEntry → Hp → Prop}
/-- A stop, as it is thrown. -/
def stopK (n : Int) : Value := .iface 65 (.agg #[.int .i64 n])
abbrev zv (n : Int) : Value := .int .i64 n
/-- What a reader has. -/
structure Rx where
  t : Str
  c : Cf
  u : Bu
  P : List Pt
  L : List Ln
  last : Bool
def Rx.cs (x : Rx) (n : Int) (sP sL : Value) : List Value := [sv x.t, zv n, zv x.c.a, zv x.c.b, zv x.c.c, zv x.c.d, zv x.u.b0, zv x.u.b1, zv x.u.b2, zv x.u.b3, zv x.u.b4, zv x.u.b5, zv x.u.b6, zv x.u.b7, sP, sL, .bool x.last]
theorem Rx.len (x : Rx) (n : Int) (sP sL : Value) : (x.cs n sP sL).length = 17 := rfl
def Rx.st (x : Rx) : St := ⟨x.P.map keyP, x.L, x.last⟩
def ptC (p : Pt) : List Value := [.int .u64 p.at_, p.sl]
def lnC (l : Ln) : List Value := [.int .i64 l.w, .int .i64 l.n, .bool l.on]
/-- A part's bytes lie in a row of their own. -/
def PtB (h : Hp) (p : Pt) : Prop := ∃ c cap rest, p.sl = .slice (some ⟨c, 0, none⟩) p.b.length cap ∧ h c = some (rowO 5 (p.b.map byV ++ rest))
abbrev rdrT : TypeId := 63
abbrev ptT : TypeId := 41
abbrev lnT : TypeId := 44
structure RdrW (k h : Hp) (b : Nat) (x : Rx) (n : Int) (sP sL : Value) (oP oL : Option Nat) : Prop where
  le : k.le h
  row : h b = some (rowO rdrT (x.cs n sP sL))
  kb : k b = none
  gP : Gr h ptT 2 sP x.P.length (x.P.flatMap ptC) oP
  gL : Gr h lnT 3 sL x.L.length (x.L.flatMap lnC) oL
  nP : ∀ c, oP = some c → k c = none
  nL : ∀ c, oL = some c → k c = none
  ok : ∀ p ∈ x.P, PtB h p ∧ p.at_ < 18446744073709551616 ∧ p.b.length ≤ 9223372036854775807
/-- h knows k; beside it the reader x lies at b. -/
def Rdr (k h : Hp) (b : Nat) (x : Rx) : Prop := ∃ n sP sL oP oL, RdrW k h b x n sP sL oP oL
theorem rowNe {h : Hp} {c d : Nat} {el el' : TypeId} {l l' : List Value} (hc : h c = some (rowO el l)) (hd : h d = some (rowO el' l')) (hne : el ≠ el') : c ≠ d := fun e => by
  subst e
  rw [hc] at hd
  injection hd with hd
  unfold rowO at hd
  injection hd with _ h2 _
  exact hne h2
theorem PtB.agree {h h' : Hp} {p : Pt} {m : Nat} {el : TypeId} {l : List Value} (i : PtB h p) (hm : h m = some (rowO el l)) (hel : el ≠ 5) (o : ∀ c, c ≠ m → h' c = h c) : PtB h' p := by
  obtain ⟨c, cap, rest, e, hc⟩ := i
  refine ⟨c, cap, rest, e, ?_⟩
  rw [o c (rowNe hc hm (Ne.symm hel))]
  exact hc
theorem PtB.le {h h' : Hp} {p : Pt} (i : PtB h p) (hle : h.le h') : PtB h' p := by
  obtain ⟨c, cap, rest, e, hc⟩ := i
  exact ⟨c, cap, rest, e, hle _ _ hc⟩
theorem Rdr.le {k h : Hp} {b : Nat} {x : Rx} (i : Rdr k h b x) : k.le h := by
  obtain ⟨n, sP, sL, oP, oL, w⟩ := i
  exact w.le
theorem RdrW.up {k h h' : Hp} {b : Nat} {x : Rx} {n : Int} {sP sL : Value} {oP oL : Option Nat} (w : RdrW k h b x n sP sL oP oL) (hle : h.le h') : RdrW k h' b x n sP sL oP oL :=
  ⟨Hp.le_trans w.le hle, hle _ _ w.row, w.kb, w.gP.le hle, w.gL.le hle, w.nP, w.nL, fun p hp => ⟨(w.ok p hp).1.le hle, (w.ok p hp).2⟩⟩
theorem Rdr.up {k h h' : Hp} {b : Nat} {x : Rx} (i : Rdr k h b x) (hle : h.le h') : Rdr k h' b x := by
  obtain ⟨n, sP, sL, oP, oL, w⟩ := i
  exact ⟨n, sP, sL, oP, oL, w.up hle⟩
theorem RdrW.weak {k k2 h : Hp} {b : Nat} {x : Rx} {n : Int} {sP sL : Value} {oP oL : Option Nat} (w : RdrW k h b x n sP sL oP oL) (hle : k2.le k) : RdrW k2 h b x n sP sL oP oL :=
  ⟨Hp.le_trans hle w.le, w.row, Hp.none_le hle w.kb, w.gP, w.gL, fun c hc => Hp.none_le hle (w.nP c hc), fun c hc => Hp.none_le hle (w.nL c hc), w.ok⟩
theorem Rdr.weak {k k2 h : Hp} {b : Nat} {x : Rx} (i : Rdr k h b x) (hle : k2.le k) : Rdr k2 h b x := by
  obtain ⟨n, sP, sL, oP, oL, w⟩ := i
  exact ⟨n, sP, sL, oP, oL, w.weak hle⟩
/-- A row of another kind is known, too. -/
theorem RdrW.know {k h : Hp} {b m : Nat} {x : Rx} {n : Int} {sP sL : Value} {oP oL : Option Nat} {el : TypeId} {l : List Value} (w : RdrW k h b x n sP sL oP oL) (hm : h m = some (rowO el l)) (h1 : el ≠ rdrT) (h2 : el ≠ ptT) (h3 : el ≠ lnT) : RdrW (k.set m (rowO el l)) h b x n sP sL oP oL := by
  refine ⟨Hp.set_le w.le hm, w.row, ?_, w.gP, w.gL, fun c hc => ?_, fun c hc => ?_, w.ok⟩
  · rw [Hp.set_other _ _ (rowNe w.row hm (Ne.symm h1))]; exact w.kb
  · rw [Hp.set_other _ _ (w.gP.offR hm (Ne.symm h2) c hc)]; exact w.nP c hc
  · rw [Hp.set_other _ _ (w.gL.offR hm (Ne.symm h3) c hc)]; exact w.nL c hc
theorem Rdr.know {k h : Hp} {b m : Nat} {x : Rx} {el : TypeId} {l : List Value} (i : Rdr k h b x) (hm : h m = some (rowO el l)) (h1 : el ≠ rdrT) (h2 : el ≠ ptT) (h3 : el ≠ lnT) : Rdr (k.set m (rowO el l)) h b x := by
  obtain ⟨n, sP, sL, oP, oL, w⟩ := i
  exact ⟨n, sP, sL, oP, oL, w.know hm h1 h2 h3⟩
/-- The reader's own row is written. -/
theorem RdrW.st {k h h' : Hp} {b : Nat} {x x' : Rx} {n n' : Int} {sP sL : Value} {oP oL : Option Nat} (w : RdrW k h b x n sP sL oP oL) (hP : x'.P = x.P) (hL : x'.L = x.L) (a : h' b = some (rowO rdrT (x'.cs n' sP sL))) (o : ∀ c, c ≠ b → h' c = h c) : RdrW k h' b x' n' sP sL oP oL := by
  refine ⟨fun c y hc => ?_, a, w.kb, ?_, ?_, w.nP, w.nL, ?_⟩
  · rw [o c fun e => by subst e; rw [w.kb] at hc; cases hc]; exact w.le _ _ hc
  · rw [hP]; exact w.gP.agree fun c hc => o c (w.gP.offR w.row (by decide) c hc)
  · rw [hL]; exact w.gL.agree fun c hc => o c (w.gL.offR w.row (by decide) c hc)
  · rw [hP]; exact fun p hp => ⟨(w.ok p hp).1.agree w.row (by decide) o, (w.ok p hp).2⟩
/-- A part more. -/
theorem RdrW.appP {k h h1 h' : Hp} {b : Nat} {x : Rx} {n : Int} {sP sL s' : Value} {oP oL oP' : Option Nat} {p : Pt} (w : RdrW k h b x n sP sL oP oL) (hp : PtB h p ∧ p.at_ < 18446744073709551616 ∧ p.b.length ≤ 9223372036854775807)
    (g : Gr h1 ptT 2 s' (x.P.length + 1) (x.P.flatMap ptC ++ ptC p) oP') (t : Turn h h1 oP oP') (a : h' b = some (rowO rdrT (x.cs n s' sL))) (o : ∀ c, c ≠ b → h' c = h1 c) : RdrW k h' b {x with P := x.P ++ [p]} n s' sL oP' oL := by
  have hb := t.keep w.row (w.gP.offR w.row (by decide))
  have hle := t.le w.le w.nP
  have kp : ∀ q, PtB h q → PtB h' q := fun q i => by
    obtain ⟨c, cap, rest, e, hc⟩ := i
    have h2 := t.keep hc (w.gP.offR hc (by decide))
    refine ⟨c, cap, rest, e, ?_⟩
    rw [o c (rowNe h2.1 hb.1 (by decide))]
    exact h2.1
  have e1 : (x.P ++ [p]).flatMap ptC = x.P.flatMap ptC ++ ptC p := by rw [List.flatMap_append]; simp
  refine ⟨fun c y hc => ?_, a, w.kb, ?_, ?_, hle.2, w.nL, ?_⟩
  · rw [o c fun e => by subst e; rw [w.kb] at hc; cases hc]; exact hle.1 _ _ hc
  · show Gr h' ptT 2 s' (x.P ++ [p]).length ((x.P ++ [p]).flatMap ptC) oP'
    rw [e1, List.length_append]
    exact g.agree fun c hc => o c (g.offR hb.1 (by decide) c hc)
  · show Gr h' lnT 3 sL x.L.length (x.L.flatMap lnC) oL
    refine w.gL.agree fun c hc => ?_
    obtain ⟨_, ⟨e, _⟩ | ⟨y, cap, rest, e, _, _, _, hy⟩⟩ := id w.gL
    · rw [e] at hc; cases hc
    · rw [e] at hc; cases hc
      have h2 := t.keep hy (w.gP.offR hy (by decide))
      rw [o c (rowNe h2.1 hb.1 (by decide))]
      exact h2.1.trans hy.symm
  · intro q hq
    rcases List.mem_append.1 hq with hq | hq
    · exact ⟨kp q (w.ok q hq).1, (w.ok q hq).2⟩
    · rw [List.mem_singleton.1 hq]; exact ⟨kp p hp.1, hp.2⟩
/-- A line more. -/
theorem RdrW.appL {k h h1 h' : Hp} {b : Nat} {x : Rx} {n : Int} {sP sL s' : Value} {oP oL oL' : Option Nat} {l : Ln} (w : RdrW k h b x n sP sL oP oL)
    (g : Gr h1 lnT 3 s' (x.L.length + 1) (x.L.flatMap lnC ++ lnC l) oL') (t : Turn h h1 oL oL') (a : h' b = some (rowO rdrT (x.cs n sP s'))) (o : ∀ c, c ≠ b → h' c = h1 c) : RdrW k h' b {x with L := x.L ++ [l]} n sP s' oP oL' := by
  have hb := t.keep w.row (w.gL.offR w.row (by decide))
  have hle := t.le w.le w.nL
  have e1 : (x.L ++ [l]).flatMap lnC = x.L.flatMap lnC ++ lnC l := by rw [List.flatMap_append]; simp
  refine ⟨fun c y hc => ?_, a, w.kb, ?_, ?_, w.nP, hle.2, ?_⟩
  · rw [o c fun e => by subst e; rw [w.kb] at hc; cases hc]; exact hle.1 _ _ hc
  · show Gr h' ptT 2 sP x.P.length (x.P.flatMap ptC) oP
    refine w.gP.agree fun c hc => ?_
    obtain ⟨_, ⟨e, _⟩ | ⟨y, cap, rest, e, _, _, _, hy⟩⟩ := id w.gP
    · rw [e] at hc; cases hc
    · rw [e] at hc; cases hc
      have h2 := t.keep hy (w.gL.offR hy (by decide))
      rw [o c (rowNe h2.1 hb.1 (by decide))]
      exact h2.1.trans hy.symm
  · show Gr h' lnT 3 s' (x.L ++ [l]).length ((x.L ++ [l]).flatMap lnC) oL'
    rw [e1, List.length_append]
    exact g.agree fun c hc => o c (g.offR hb.1 (by decide) c hc)
  · intro q hq
    obtain ⟨⟨c, cap, rest, e, hc⟩, hq2⟩ := w.ok q hq
    have h2 := t.keep hc (w.gL.offR hc (by decide))
    refine ⟨⟨c, cap, rest, e, ?_⟩, hq2⟩
    rw [o c (rowNe h2.1 hb.1 (by decide))]
    exact h2.1
/-- What is read, as a script. -/
theorem RdrW.sc {k h : Hp} {b : Nat} {x : Rx} {n : Int} {sP sL : Value} {oP oL : Option Nat} (w : RdrW k h b x n sP sL oP oL) (hc : x.c.right) (hP : x.P.length ≤ 2 ^ 20) (hL : x.L.length ≤ 2 ^ 20) (hl : ∀ l ∈ x.L, -9223372036854775808 ≤ l.n ∧ l.n ≤ 9223372036854775807) : Sc.ok ptT h ⟨x.c, x.u, sP, x.P, sL, x.L⟩ := by
  obtain ⟨a0, a1, b0, b1, c0, c1, d0, d1⟩ := hc
  have gP := w.gP.rdN (P := Tryz.prog) (f := ptC) aggPt sizPt (fun _ => rfl)
  have gL := w.gL.rdN (P := Tryz.prog) (f := lnC) aggL sizL (fun _ => rfl)
  refine ⟨(by omega : -9223372036854775808 ≤ x.c.a), (by omega : x.c.a ≤ 9223372036854775807), (by omega : -9223372036854775808 ≤ x.c.b), (by omega : x.c.b ≤ 9223372036854775807), (by omega : -9223372036854775808 ≤ x.c.c), (by omega : x.c.c ≤ 9223372036854775807), (by omega : -9223372036854775808 ≤ x.c.d), (by omega : x.c.d ≤ 9223372036854775807), gP, fun p hp => ?_, Nat.le_trans hP (by decide), gL, Nat.le_trans hL (by decide), hl⟩
  obtain ⟨⟨c, cap, rest, e, hcc⟩, h1, h2⟩ := w.ok p hp
  refine ⟨h1, h2, ?_⟩
  rw [e]
  have := Rd.row (P := Tryz.prog) (l := p.b.map byV) (cap := cap) aggU8 hcc
  rw [List.length_map] at this
  exact this
end
end Go.Proofs.YtjipfibbkmmfbaaGreatDoor
/-! Scripts that are read: the leaves. -/
namespace Go.Proofs.YtjipfibbkmmfbaaGreatDoor
set_option linter.unusedSimpArgs false
set_option linter.unusedVariables false
open Go Go.Mid Go.RowKit
attribute [local irreducible] mid
section
set_option maxHeartbeats 8000000
set_option maxRecDepth 10000
variable {h : Hp} {K : Value → Hp → Prop} {E : List PanicEntry → Hp → Prop}
theorem failK_x (n : Int) (he : E [{ v := stopK n, recovered := false }] h) : XE Tryz.prog 38 #[zv n] h K E := by
  refine fnu (args := _) mixed [] [] [] [(999998, [0])] Tryz.func38 rfl (by kernel_rfl) ?_; conv => whnf
  exact he
theorem mustK_x (n : Int) (hk : n = 0 → K (.tuple #[]) h) (he : n ≠ 0 → E [{ v := stopK n, recovered := false }] h) : XE Tryz.prog 39 #[zv n] h K E := by
  refine fnu (args := _) mixed [] [] [] [(999998, [1])] Tryz.func39 rfl (by kernel_rfl) ?_; conv => whnf
  refine bsel_intro (fun q1 => ?_) (fun q1 => ?_) <;> try simp only [bsL] at q1
  · conv => whnf
    refine failK_x n ?_
    exact he q1
  · conv => whnf
    exact hk (by omega)
theorem countK_x (base : Option Addr) (m cap : Nat) (n : Int) (hk : (m : Int) = n → K (.tuple #[]) h) (he : (m : Int) ≠ n → E [{ v := stopK 2, recovered := false }] h) : XE Tryz.prog 36 #[.slice base m cap, zv n] h K E := by
  refine fnu (args := _) mixed [] [] [] [(999998, [1])] Tryz.func36 rfl (by kernel_rfl) ?_; conv => whnf
  refine bsel_intro (fun q1 => ?_) (fun q1 => ?_) <;> try simp only [bsL] at q1
  · conv => whnf
    refine failK_x 2 ?_
    exact he q1
  · conv => whnf
    exact hk (by omega)
theorem namedK_x {bw : Nat} {w : Str} {r : List Str} {m cap : Nat} (hm : 0 < m) (hw : h bw = some (rowO 9 ((w :: r).map sv))) (s : Str) (hk : w = s → K (.tuple #[]) h) (he : w ≠ s → E [{ v := stopK 9, recovered := false }] h) : XE Tryz.prog 35 #[.slice (some ⟨bw, 0, none⟩) m cap, sv s] h K E := by
  refine fnu (args := _) mixed [] [] [] [(999998, [1])] Tryz.func35 rfl (by kernel_rfl) ?_; conv => whnf
  (first | refine need_intro (⟨by omega, by omega⟩) ?_ | refine must.mk (⟨by omega, by omega⟩) ?_); conv => whnf
  refine ⟨_, loadI (j := 0) aggStr hw rfl rfl, ?_⟩; conv => whnf
  by_cases hq : w = s
  · refine seq_true (hq) ?_; conv => whnf
    exact hk hq
  · refine seq_false (hq) ?_; conv => whnf
    refine failK_x 9 ?_
    exact he hq
theorem formatK_x (hp : Pow h) (n : Int) (h0 : -9223372036854775808 ≤ n) (h1 : n ≤ 9223372036854775807) (hk : K (.string (bs (Lib.itoa n))) h) : X Tryz.prog 56 #[.int .i64 n, .int .i64 10] h K :=
  X.ofGrow (fun w0 w s => Tryz.strconv_FormatInt_10 n h0 h1 w (hp.tab s)) hk
theorem numberK_x (her : Er h) (hp : Pow h) (s : Str) (hs : s.length ≤ 2 ^ 40) (hk : ∀ v, numK s = some v → K (zv v) h) (he : numK s = none → E [{ v := stopK 2, recovered := false }] h) : XE Tryz.prog 37 #[sv s] h K E := by
  refine fnu (args := _) mixed [] [] [] [(999998, [3])] Tryz.func37 rfl (by kernel_rfl) ?_; conv => whnf
  refine parseInt_x her s hs (fun v hv => ?_) (fun v T p hno => ?_)
  · have hn : numK s = if 0 ≤ v ∧ Lib.itoa v = s then some v else none := by unfold numK; rw [hv]
    have hb := Lib.parseIntB_bounds hv
    have hb : -9223372036854775808 ≤ v ∧ v < 9223372036854775808 := hb
    conv => whnf
    refine bsel_intro (fun q1 => ?_) (fun q1 => ?_) <;> try simp only [bsL] at q1
    · rw [if_neg (by omega)] at hn
      conv => whnf
      refine failK_x 2 ?_
      exact he hn
    conv => whnf
    refine formatK_x hp v hb.1 (by omega) ?_
    conv => whnf
    by_cases hi : Lib.itoa v = s
    · rw [if_pos ⟨by omega, hi⟩] at hn
      refine seq_true (hi) ?_; conv => whnf
      exact hk v hn
    · rw [if_neg (fun hh => hi hh.2)] at hn
      refine seq_false (hi) ?_; conv => whnf
      refine failK_x 2 ?_
      exact he hn
  · have hn : numK s = none := by
      unfold numK
      cases hx : Lib.parseIntB 64 s with
      | ok v' => exact absurd hx (hno v')
      | _ => rfl
    conv => whnf
    refine failK_x 2 ?_
    exact he hn
end
end Go.Proofs.YtjipfibbkmmfbaaGreatDoor
/-! Scripts that are read: the bytes of digits. -/
namespace Go.Proofs.YtjipfibbkmmfbaaGreatDoor
set_option linter.unusedSimpArgs false
set_option linter.unusedVariables false
open Go Go.Mid Go.RowKit
attribute [local irreducible] mid
theorem trim_all (p : UInt8 → Bool) (l : Str) : (Rg.trimB p l).dropWhile p = [] ↔ ∀ x ∈ l, p x = true := by
  have h1 : ∀ m : Str, m.dropWhile p = [] ↔ ∀ x ∈ m, p x = true := fun m => by
    induction m with
    | nil => simp
    | cons a m ih =>
      rw [List.dropWhile_cons]
      by_cases ha : p a = true
      · rw [if_pos ha, ih]; simp [ha]
      · rw [if_neg ha]
        exact ⟨fun e => (by cases e), fun e => absurd (e a (by simp)) ha⟩
  rw [h1]
  have h2 : ∀ m : Str, (∀ x ∈ m.dropWhile p, p x = true) ↔ ∀ x ∈ m, p x = true := fun m => by
    induction m with
    | nil => simp
    | cons a m ih =>
      rw [List.dropWhile_cons]
      by_cases ha : p a = true
      · rw [if_pos ha, ih]; simp [ha]
      · rw [if_neg ha]
  unfold Rg.trimB
  have h3 := h2 l.reverse
  simp only [List.mem_reverse] at h3 ⊢
  exact h3
theorem isOf_hex : ∀ c : UInt8, Rg.isOf hexD c = true ↔ c ∈ hexD := fun c => by
  unfold Rg.isOf Rg.has
  rw [List.any_eq_true]
  constructor
  · rintro ⟨x, hx, e⟩
    have : x = c := UInt8.toNat_inj.1 (by simpa using e)
    rw [← this]; exact hx
  · exact fun hc => ⟨c, hc, by simp⟩
theorem unhex_len : ∀ (m : Nat) (w : Str), w.length ≤ m → (unhex w).length = w.length / 2
  | _, [], _ => rfl
  | _, [a], _ => by show 0 = 1 / 2; decide
  | 0, a :: b :: r, h => by simp at h
  | m + 1, a :: b :: r, h => by
    have := unhex_len m r (by simp at h; omega)
    show (unhex r).length + 1 = (r.length + 2) / 2
    omega
theorem unhex_get : ∀ (j : Nat) (w : Str) (a b : UInt8), w[2 * j]? = some a → w[2 * j + 1]? = some b → (unhex w)[j]? = some (UInt8.ofNat (16 * hexD.idxOf a + hexD.idxOf b))
  | 0, x :: y :: r, a, b, h1, h2 => by
    simp at h1 h2
    subst h1; subst h2
    rfl
  | j + 1, x :: y :: r, a, b, h1, h2 => by
    have e1 : 2 * (j + 1) = 2 * j + 1 + 1 := by omega
    rw [e1] at h1 h2
    exact unhex_get j r a b (by simpa using h1) (by simpa using h2)
  | j, [], a, b, h1, _ => by simp at h1
  | 0, [x], a, b, _, h2 => by simp at h2
  | j + 1, [x], a, b, h1, _ => by simp at h1
theorem ixB : ∀ c ∈ hexD, Lib.indexByte hexD c = (hexD.idxOf c : Nat) := by decide
theorem hexPair : ∀ n : Nat, n < 16 → ∀ m : Nat, m < 16 → IntKind.i64.wrap (BitVec.ofInt IntKind.i64.bits ((n * 16 : Nat) : Int) ||| BitVec.ofInt IntKind.i64.bits (m : Int)).toNat = ((16 * n + m : Nat) : Int) := by decide +kernel
theorem mvI {a b : Int} (e : a = b) (x : MV) : [MV.v (zv a), x] = [MV.v (zv b), x] := by rw [e]
section
set_option maxHeartbeats 8000000
set_option maxRecDepth 10000
variable {h : Hp} {K : Value → Hp → Prop} {E : List PanicEntry → Hp → Prop}
theorem rawE_x (w : Str) (hw : w.length ≤ 2 ^ 28) (hk : ∀ b c cap rest h', rawK w = some b → h c = none → h.le h' → h' c = some (rowO 5 (b.map byV ++ rest)) → K (.slice (some ⟨c, 0, none⟩) b.length cap) h') (he : rawK w = none → E [{ v := stopK 2, recovered := false }] h) : XE Tryz.prog 57 #[sv w] h K E := by
  have hbz : (bs w).size = w.length := bs_size w
  have htm : ((w.length : Nat) : Int).tmod 2 = ((w.length % 2 : Nat) : Int) := rfl
  have bad : ¬ (w ≠ [] ∧ w.length % 2 = 0 ∧ ∀ c ∈ w, c ∈ hexD) → rawK w = none := fun hn => by
    unfold rawK
    by_cases h1 : w = []
    · rw [if_pos (.inl h1)]
    by_cases h2 : w.length % 2 = 0
    · by_cases h3 : ∀ c ∈ w, c ∈ hexD
      · exact absurd ⟨h1, h2, h3⟩ hn
      · rw [if_pos (.inr (.inr h3))]
    · rw [if_pos (.inr (.inl h2))]
  refine fnu (args := _) mixed [] [] [] [(999998, [2])] Tryz.func57 rfl (by kernel_rfl) ?_; conv => whnf
  by_cases q1 : w = []
  · refine seq_true (q1) ?_; conv => whnf
    have NO : ∀ hh : (w ≠ [] ∧ w.length % 2 = 0 ∧ ∀ c ∈ w, c ∈ hexD), False := fun hh => hh.1 q1
    refine failK_x 2 ?_
    exact he (bad NO)
  refine seq_false (q1) ?_; conv => whnf
  rw [hbz]
  refine bsel_intro (fun q2 => ?_) (fun q2 => ?_) <;> try simp only [bsL] at q2
  · conv => whnf
    refine failK_x 2 ?_
    exact he (bad fun hh => by omega)
  conv => whnf
  refine Rg.trim_x w hexD (by omega) (by decide) (by decide) (by decide) ?_
  conv => whnf
  by_cases q3 : ∀ c ∈ w, c ∈ hexD
  rotate_left
  · refine seq_false (fun e => q3 fun c hc => (isOf_hex c).1 ((trim_all _ _).1 e c hc)) ?_; conv => whnf
    refine failK_x 2 ?_
    exact he (bad fun hh => q3 hh.2.2)
  have q2' : w.length % 2 = 0 := by omega
  have hr : rawK w = some (unhex w) := by
    unfold rawK
    rw [if_neg]
    rintro (e | e | e)
    · exact q1 e
    · exact e q2'
    · exact e q3
  have hul := unhex_len w.length w (Nat.le_refl _)
  refine seq_true ((trim_all _ _).2 fun c hc => (isOf_hex c).2 (q3 c hc)) ?_; conv => whnf
  rw [hbz]
  refine ov_eq (show ((w.length : Nat) : Int).tdiv 2 = ((w.length / 2 : Nat) : Int) from rfl) (by omega) ?_
  conv => whnf
  refine aRunK_if rfl ⟨by omega, by omega, by omega, by show (1 : Int) * _ ≤ _; omega, by decide⟩ ?_
  refine new_intro (o := _) (fun c h1 n_c le_c at_c ot_c => ?_)
  have at_c : h1 c = some (rowO 5 (List.replicate (w.length / 2) (.int .u8 0))) := by
    refine at_c.trans ?_
    show some (Obj.cells (zeroRow #[.int .u8 0] ((((w.length / 2 : Nat) : Int)).toNat * 1)) _ _) = _
    rw [zeroRow_one, Int.toNat_natCast, Nat.mul_one]
  have hO : Owns h h1 5 1 (.slice (some ⟨c, 0, none⟩) 0 (w.length / 2)) 0 (((unhex w).take 0).map byV) :=
    ⟨some c, ⟨rfl, .inr ⟨c, w.length / 2, List.replicate (w.length / 2) (.int .u8 0), rfl, rfl, by omega, by simp, at_c⟩⟩, le_c, fun d e => by cases e; exact n_c⟩
  conv => whnf
  refine loop_at [4, 3] [] (fun r vs _ h' => ∃ (j : Nat) (sl : Value), j ≤ w.length / 2 ∧ r = w.length / 2 - j ∧ vs = [.v (zv (2 * j : Nat)), .v sl] ∧ Owns h h' 5 1 sl j (((unhex w).take j).map byV)) (w.length / 2) ⟨0, _, by omega, by omega, rfl, hO⟩ ?_
  rintro r vs cs mm bx h2 ⟨j, sl, hj, rfl, rfl, hO2⟩
  obtain ⟨sa, sc, rfl⟩ := hO2.shape
  conv => whnf
  rw [hbz]
  refine bsel_intro (fun q4 => ?_) (fun q4 => ?_) <;> try simp only [bsL] at q4
  · have hj2 : j < w.length / 2 := by omega
    obtain ⟨a, ha⟩ : ∃ a, w[2 * j]? = some a := ⟨_, List.getElem?_eq_getElem (by omega)⟩
    obtain ⟨b, hb⟩ : ∃ b, w[2 * j + 1]? = some b := ⟨_, List.getElem?_eq_getElem (by omega)⟩
    have ma := q3 a (List.mem_of_getElem? ha)
    have mb := q3 b (List.mem_of_getElem? hb)
    have ia := hexD_ix a ma
    have ib := hexD_ix b mb
    have hg := unhex_get j w a b ha hb
    conv => whnf
    refine ch_intro (a) (by omega) (by rw [Int.toNat_natCast]; exact ha) ?_; conv => whnf
    refine indexByte_x hexD a ?_
    rw [ixB a ma]
    generalize hexD.idxOf a = x at *
    refine ⟨trivial, ?_⟩; conv => whnf
    refine ov_by (show IntKind.i64.wrap ((x : Int) * 2 ^ min (Int.toNat 4) IntKind.i64.bits) = ((x * 16 : Nat) : Int) by
      show IntKind.i64.wrap ((x : Int) * 16) = _
      rw [IntWalk.i64_in _ (by omega)]
      omega) ?_
    conv => whnf
    (first | refine ov_c (by simp only [loK, hiK]; omega) ?_ | refine ov_c (by decide) ?_); conv => whnf
    refine ch_intro (b) (by omega) (by rw [show ((2 * j : Nat) : Int) + 1 = ((2 * j + 1 : Nat) : Int) by omega, Int.toNat_natCast]; exact hb) ?_; conv => whnf
    refine indexByte_x hexD b ?_
    rw [ixB b mb]
    generalize hexD.idxOf b = y at *
    refine ⟨trivial, ?_⟩; conv => whnf
    refine val_by (hexPair x ia.1 y ib.1) ?_; conv => whnf
    have hz8 : (UInt8.ofNat (16 * x + y)).toNat = 16 * x + y := by rw [UInt8.toNat_ofNat']; exact Nat.mod_eq_of_lt (by omega)
    refine ov_u8 (by omega) ?_; conv => whnf
    refine new_intro (o := rowO 5 [.int .u8 ((16 * x + y : Nat) : Int)]) (fun z h3 n_z le_z at_z ot_z => ?_); conv => whnf
    have at_z : h3 z = some (rowO 5 [byV (UInt8.ofNat (16 * x + y))]) := by
      show h3 z = some (rowO 5 [.int .u8 ((UInt8.ofNat (16 * x + y)).toNat : Int)])
      rw [hz8]; exact at_z
    refine Owns.app1 (z := .int .u8 0) (by kernel_rfl) (show Tryz.prog.info? 5 = some Tryz.prog.types[5] by kernel_rfl) (by kernel_rfl) (by kernel_rfl) (by kernel_rfl) rfl (bytes := 1) (by decide) rfl rfl rfl (hO2.up le_z) at_z rfl rfl (by omega) fun s7 h4 hO4 => ?_
    have hst : (unhex w).take (j + 1) = (unhex w).take j ++ [UInt8.ofNat (16 * x + y)] := by rw [List.take_add_one, hg]; rfl
    have hO4 : Owns h h4 5 1 s7 (j + 1) (((unhex w).take (j + 1)).map byV) := by rw [hst, List.map_append]; exact hO4
    obtain ⟨sa4, sc4, rfl⟩ := hO4.shape
    refine ⟨trivial, ?_⟩; conv => whnf
    (first | refine ov_c (by simp only [loK, hiK]; omega) ?_ | refine ov_c (by decide) ?_); conv => whnf
    exact ⟨w.length / 2 - (j + 1), by omega, j + 1, _, by omega, rfl, mvI (by omega) _, hO4⟩
  · have hj2 : j = w.length / 2 := by omega
    have hx : (unhex w).take j = unhex w := List.take_of_length_le (by omega)
    rw [hx] at hO2
    obtain ⟨d, cap, rest, e, hcap, hd, hkd⟩ := hO2.row (by have := List.length_pos_iff.2 q1; omega)
    injection e with e1 _ e3
    subst e1
    subst e3
    rw [show j = (unhex w).length by omega]
    conv => whnf
    exact hk (unhex w) d sc rest h2 hr hkd hO2.le hd
end
end Go.Proofs.YtjipfibbkmmfbaaGreatDoor
/-! Scripts that are read: a line's words. -/
namespace Go.Proofs.YtjipfibbkmmfbaaGreatDoor
set_option linter.unusedSimpArgs false
set_option linter.unusedVariables false
open Go Go.Mid Go.RowKit
attribute [local irreducible] mid
section
set_option maxHeartbeats 8000000
set_option maxRecDepth 10000
variable {k h : Hp} {K : Value → Hp → Prop} {E : List PanicEntry → Hp → Prop}
theorem sizStrS : sizeT Tryz.prog 9 = some 1 := by kernel_rfl
theorem next_x {b : Nat} {x : Rx} (hm : Mx k) (hR : Rdr k h b x) (ht : x.t.length ≤ 2 ^ 30)
    (hk : (10 : UInt8) ∈ x.t → ∀ bw h', Rdr k h' b { x with t := x.t.drop ((lineA x.t).length + 1) } → h' bw = some (rowO 9 ((sp [32] (lineA x.t)).map sv)) → K (.slice (some ⟨bw, 0, none⟩) (sp [32] (lineA x.t)).length (sp [32] (lineA x.t)).length) h')
    (he : (10 : UInt8) ∉ x.t → ∀ h', Rdr k h' b x → E [{ v := stopK 5, recovered := false }] h') : XE Tryz.prog 34 #[.pointer (some ⟨b, 0, none⟩)] h K E := by
  obtain ⟨n, sP, sL, oP, oL, w⟩ := hR
  refine fnu (args := _) mixed [] [] [] [(999998, [4])] Tryz.func34 rfl (by kernel_rfl) ?_; conv => whnf
  refine ⟨_, loadC (i := 1) aggi w.row rfl, ?_⟩; conv => whnf
  refine ov_wrap ?_
  conv => whnf
  refine wr_intro (by exact storeC (i := 1) sizi w.row (by rw [Rx.len]; decide) rfl rfl) (fun h1 at_h1 ot_h1 => ?_)
  try (conv => whnf)
  have w1 : RdrW k h1 b x _ sP sL oP oL := w.st rfl rfl at_h1 ot_h1
  conv => whnf
  refine ⟨_, loadC0 aggStr w1.row rfl, ?_⟩; conv => whnf
  refine cut_x (hm.le w1.le) x.t [10] (by omega) ?_
  by_cases hn : (10 : UInt8) ∈ x.t
  rotate_left
  · rw [cutA_no hn]
    conv => whnf
    refine failK_x 5 ?_
    exact he hn h1 ⟨_, _, _, _, _, w1⟩
  rw [cutA_yes hn]
  conv => whnf
  refine wr_intro (by exact storeC0 sizStrS w1.row (by rw [Rx.len]; decide) rfl rfl) (fun h2 at_h2 ot_h2 => ?_)
  try (conv => whnf)
  have w2 : RdrW k h2 b { x with t := x.t.drop ((lineA x.t).length + 1) } _ sP sL oP oL := w1.st rfl rfl at_h2 ot_h2
  have hl := congrArg List.length (lineA_split hn)
  simp only [List.length_append, List.length_cons] at hl
  conv => whnf
  refine split_x (hm.le w2.le) (lineA x.t) [32] (by omega) (by decide) fun bw h3 n_bw e3 => ?_
  have le3 : h2.le h3 := by rw [e3]; exact Hp.le_set n_bw
  conv => whnf
  exact hk hn bw h3 ⟨_, _, _, _, _, w2.up le3⟩ (by rw [e3, Hp.set_same])
end
end Go.Proofs.YtjipfibbkmmfbaaGreatDoor
