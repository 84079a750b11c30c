/-
  Instructions as text: what must be whatever is asked.
-/
import Derived.Test.YtlobclgbbhoeiaaGreatDoorAsVW
import Derived.Test.YtlobclgbbhoeiaaGreatDoorLibL
import Derived.Test.YtlobclgbbhoeiaaGreatDoorRows
import Derived.Test.YtlobclgbbhoeiaaGreatDoorMidXY
/-! Instructions as text: what must be whatever is asked. -/
namespace Go.Proofs.YtlobclgbbhoeiaaGreatDoor
set_option linter.unusedSimpArgs false
set_option linter.unusedVariables false
open Go Go.Mid Go.RowKit
attribute [local irreducible] mid
theorem eqIns (x y : Ins) : eqW Tryz.prog 10000 24 (.agg x.cs.toArray) (.agg y.cs.toArray) = some ((x.op == y.op) && ((x.a == y.a) && ((x.b == y.b) && ((x.c == y.c) && ((x.m == y.m) && ((x.s == y.s) && ((x.aq == y.aq) && ((x.rl == y.rl) && true)))))))) := by kernel_rfl
theorem eqIns_self (x : Ins) : eqW Tryz.prog 10000 24 (.agg x.cs.toArray) (.agg x.cs.toArray) = some true := by
  rw [eqIns]; simp
def liveI : Ins := ⟨70, 10, 11, 12, 0, 0, true, false⟩
theorem live_text : textA liveI = [97, 109, 111, 97, 100, 100, 46, 119, 46, 97, 113, 32, 97, 48, 32, 97, 50, 32, 97, 49] ∧ liveI.chk = 0 := by decide +kernel
def swS : Str := [115, 119, 32, 97, 48, 32, 115, 112, 32, 45, 52]
def addiS : Str := [97, 100, 100, 105, 32, 97, 48, 32, 98, 48, 32, 53, 48, 48, 48]
def swI : Ins := ⟨20, 0, 2, 10, -4, 0, false, false⟩
theorem sw_sp : sp [32] swS = [[115, 119], [97, 48], [115, 112], [45, 52]] := by
  rw [show swS = [115, 119] ++ 32 :: ([97, 48] ++ 32 :: ([115, 112] ++ 32 :: [45, 52])) from rfl, sp_one (by decide), sp_one (by decide), sp_one (by decide), sp_end (by decide)]
theorem addi_sp : sp [32] addiS = [[97, 100, 100, 105], [97, 48], [98, 48], [53, 48, 48, 48]] := by
  rw [show addiS = [97, 100, 100, 105] ++ 32 :: ([97, 48] ++ 32 :: ([98, 48] ++ 32 :: [53, 48, 48, 48])) from rfl, sp_one (by decide), sp_one (by decide), sp_one (by decide), sp_end (by decide)]
theorem num4 : numA [45, 52] = some (-4) := by
  have e : Lib.itoa (-4) = [45, 52] := by
    rw [show (-4 : Int) = -((4 : Nat) : Int) from rfl, Lib.itoa_neg 4 (by decide), dec_rec, if_pos (by decide)]
    decide
  rw [← e]
  exact numA_itoa (by decide) (by decide)
theorem op_sw : opA [115, 119] = some (19, false, false) := by decide +kernel
theorem op_addi : opA [97, 100, 100, 105] = some (21, false, false) := by decide +kernel
theorem regs_is : Rg.findI [97, 48] = some 10 ∧ Rg.findI [115, 112] = some 2 ∧ Rg.findI [98, 48] = none := by decide +kernel
theorem live_sw : parseA swS = .ok swI := by
  unfold parseA
  rw [sw_sp, if_neg (by decide), if_neg (by decide), if_neg (by decide)]
  show lineP _ _ = _
  unfold lineP
  rw [op_sw]
  show (if _ then _ else _) = _
  rw [if_neg (by decide)]
  have e : fieldsP ⟨((19 + 1 : Nat) : Int), 0, 0, 0, 0, 0, false, false⟩ (orderS (fmtN ((19 + 1 : Nat) : Int))) [[97, 48], [115, 112], [45, 52]] = .ok swI := by
    rw [show orderS (fmtN ((19 + 1 : Nat) : Int)) = [50, 49, 105] by decide]
    simp [fieldsP, fieldP, regs_is.1, regs_is.2.1, num4, swI]
  rw [e]
  show (if swI.chk = 0 then _ else _) = _
  rw [if_pos (by decide)]
theorem live_addi : parseA addiS = .error 9 := by
  unfold parseA
  rw [addi_sp, if_neg (by decide), if_neg (by decide), if_neg (by decide)]
  show lineP _ _ = _
  unfold lineP
  rw [op_addi]
  show (if _ then _ else _) = _
  rw [if_neg (by decide)]
  have e : fieldsP ⟨((21 + 1 : Nat) : Int), 0, 0, 0, 0, 0, false, false⟩ (orderS (fmtN ((21 + 1 : Nat) : Int))) [[97, 48], [98, 48], [53, 48, 48, 48]] = .error 9 := by
    rw [show orderS (fmtN ((21 + 1 : Nat) : Int)) = [100, 49, 105] by decide]
    simp [fieldsP, fieldP, regs_is.1, regs_is.2.2]
  rw [e]
section
set_option maxHeartbeats 8000000
set_option maxRecDepth 10000
variable {h : Hp} {K : Value → Hp → Prop}
theorem live06_x (hm : Mx h) (her : Er h) (hp : Pow h) (hk : K (.bool true) h) : X Tryz.prog 7 #[] h K := by
  refine X.forget ?_
  refine fnv (args := _) mixed [(3, 3), (5, 5)] [] [] Tryz.func7 rfl (by kernel_rfl) ?_; conv => whnf
  refine text_x hp liveI (by decide) (by decide) fun h1 le1 => ?_
  rw [live_text.1, live_text.2]
  conv => whnf
  refine XE.noE (parse_x (hm.le le1) (her.le le1) (hp.le le1) swS (by decide) fun h2 le2 => ?_)
  rw [live_sw]
  have le3 := Hp.le_trans le1 le2
  conv => whnf
  refine XE.noE (parse_x (hm.le le3) (her.le le3) (hp.le le3) addiS (by decide) fun h4 le4 => ?_)
  rw [live_addi]
  have le5 := Hp.le_trans le3 le4
  conv => whnf
  refine seq_true (rfl) ?_; conv => whnf
  refine must_via (b := true) (by kernel_rfl) (eqIns_self swI) ?_
  conv => whnf
  exact ⟨h, le5, hk⟩
theorem asmTexts_x (hm : Mx h) (her : Er h) (hp : Pow h) (x : Ins) (m1 : -9223372036854775808 ≤ x.m) (m2 : x.m ≤ 9223372036854775807) (s : Str) (hk : ∀ h', h.le h' → K (.bool true) h') : X Tryz.prog 3 #[.agg x.cs.toArray, .string (bs s)] h K := by
  refine fnv (args := _) mixed [(2, 2)] [] [] Tryz.func3 rfl (by kernel_rfl) ?_; conv => whnf
  refine bsel_intro (fun q1 => ?_) (fun q1 => ?_) <;> try simp only [bsL] at q1
  · conv => whnf
    refine live06_x hm her hp ?_
    conv => whnf
    exact hk h (Hp.le_refl _)
  · have hs : s.length ≤ 100 := by omega
    conv => whnf
    refine text_x hp x m1 m2 fun h1 le1 => ?_
    generalize hce : x.chk = e
    generalize htx : textA x = tx
    conv => whnf
    refine rtext_x x m1 m2 ?_
    rw [htx, hce]
    conv => whnf
    obtain ⟨k, ok, eo⟩ : ∃ k ok, okV (numA s) = .tuple #[.int .i64 k, .bool ok] := ⟨_, _, rfl⟩
    refine anumber_x (her.le le1) (hp.le le1) s (by omega) ?_
    rw [eo]
    conv => whnf
    refine rnumber_x s (by omega) ?_
    rw [eo]
    conv => whnf
    refine seq_true (rfl) ?_; conv => whnf
    refine bsel_true (by simp) ?_; conv => whnf
    refine bsel_true (by simp) ?_; conv => whnf
    cases ok with
    | true =>
      conv => whnf
      refine live06_x (hm.le le1) (her.le le1) (hp.le le1) ?_
      conv => whnf
      exact hk h1 le1
    | false =>
      conv => whnf
      refine live06_x (hm.le le1) (her.le le1) (hp.le le1) ?_
      conv => whnf
      exact hk h1 le1
theorem asmParses_x (hm : Mx h) (her : Er h) (hp : Pow h) (s : Str) (hk : ∀ h', h.le h' → K (.bool true) h') : X Tryz.prog 4 #[.string (bs s)] h K := by
  refine fnv (args := _) mixed [(3, 3), (5, 5)] [] [] Tryz.func4 rfl (by kernel_rfl) ?_; conv => whnf
  refine bsel_intro (fun q1 => ?_) (fun q1 => ?_) <;> try simp only [bsL] at q1
  · conv => whnf
    refine live06_x hm her hp ?_
    conv => whnf
    exact hk h (Hp.le_refl _)
  · have hs : s.length ≤ 300 := by omega
    conv => whnf
    refine XE.noE (parse_x hm her hp s (by omega) fun h1 le1 => ?_)
    generalize hr : parseA s = r
    obtain ⟨y, hy⟩ : ∃ y, y = insOf r := ⟨_, rfl⟩
    obtain ⟨e, he⟩ : ∃ e, e = errOf r := ⟨_, rfl⟩
    have ev : parsedV r = .tuple #[.agg y.cs.toArray, zv e] := by rw [hy, he]
    rw [ev]
    conv => whnf
    refine rparse_x s (by omega) ?_
    rw [hr, ev]
    conv => whnf
    refine must_via (b := true) (by kernel_rfl) (eqIns_self y) ?_
    conv => whnf
    refine bsel_true (by simp) ?_; conv => whnf
    refine live06_x (hm.le le1) (her.le le1) (hp.le le1) ?_
    conv => whnf
    exact hk h1 le1
end
end Go.Proofs.YtlobclgbbhoeiaaGreatDoor
/-! Instructions as text: the laws of their arguments as data. -/
namespace Go.Proofs.YtlobclgbbhoeiaaGreatDoor
set_option linter.unusedSimpArgs false
set_option linter.unusedVariables false
open Go Go.Mid Go.RowKit
attribute [local irreducible] mid
section
set_option maxHeartbeats 8000000
set_option maxRecDepth 10000
abbrev shIn : Sh := .struct [(.int .i64), (.int .i64), (.int .i64), (.int .i64), (.int .i64), (.int .i64), .bool, .bool]
theorem ins_of {h : Hp} {cs : List Value} (w : Wf h shIn cs) : ∃ x : Ins, cs = x.cs ∧ -9223372036854775808 ≤ x.m ∧ x.m ≤ 9223372036854775807 := by
  obtain ⟨a1, b1, rfl, w1, w⟩ := wfC (wfS w)
  obtain ⟨a2, b2, rfl, w2, w⟩ := wfC w
  obtain ⟨a3, b3, rfl, w3, w⟩ := wfC w
  obtain ⟨a4, b4, rfl, w4, w⟩ := wfC w
  obtain ⟨a5, b5, rfl, w5, w⟩ := wfC w
  obtain ⟨a6, b6, rfl, w6, w⟩ := wfC w
  obtain ⟨a7, b7, rfl, w7, w⟩ := wfC w
  obtain ⟨a8, b8, rfl, w8, w⟩ := wfC w
  obtain rfl := wfN w
  obtain ⟨x1, rfl, p1, q1⟩ := wfI w1
  obtain ⟨x2, rfl, p2, q2⟩ := wfI w2
  obtain ⟨x3, rfl, p3, q3⟩ := wfI w3
  obtain ⟨x4, rfl, p4, q4⟩ := wfI w4
  obtain ⟨x5, rfl, p5, q5⟩ := wfI w5
  obtain ⟨x6, rfl, p6, q6⟩ := wfI w6
  obtain ⟨x7, rfl⟩ := wfB w7
  obtain ⟨x8, rfl⟩ := wfB w8
  exact ⟨⟨x1, x2, x3, x4, x5, x6, x7, x8⟩, rfl, p5, q5⟩
theorem str_of {h : Hp} {cs : List Value} (w : Wf h .str cs) : ∃ s : ByteArray, cs = [.string s] := by
  unfold Wf at w
  obtain ⟨s, e, _⟩ := w
  exact ⟨s, e⟩
theorem er_of {w : World} {l : List (String × DataW Unit)} (hL : laidMetH Tryz.prog l w) (h1 : l.filter (fun x => x.1 == "strconv.ErrSyntax") = [("strconv.ErrSyntax", .iface "*errors.errorString" (.ptr (.agg [.lit (.string [105, 110, 118, 97, 108, 105, 100, 32, 115, 121, 110, 116, 97, 120])])))]) (h2 : l.filter (fun x => x.1 == "strconv.ErrRange") = [("strconv.ErrRange", .iface "*errors.errorString" (.ptr (.agg [.lit (.string [118, 97, 108, 117, 101, 32, 111, 117, 116, 32, 111, 102, 32, 114, 97, 110, 103, 101])])))]) : Er (whole w) := by
  obtain ⟨e1, g1⟩ := sent_of hL (n := "strconv.ErrSyntax") (g := 1) h1 (by kernel_rfl) (by kernel_rfl)
  obtain ⟨e2, g2⟩ := sent_of hL (n := "strconv.ErrRange") (g := 2) h2 (by kernel_rfl) (by kernel_rfl)
  exact Er.of g1 g2
theorem asmTexts_w (w : World) (hsh : w.ShapedOpen Tryz.prog) (hL : laidMetH Tryz.prog Rows.asmTextsRow.laid w) {cs0 cs1 : List Value} (w0 : Wf (whole w) shIn cs0) (l0 : cs0.length = Sh.n shIn) (w1 : Wf (whole w) .str cs1) (l1 : cs1.length = Sh.n .str) :
    X Tryz.prog 3 #[Sh.v shIn cs0, Sh.v .str cs1] (whole w) fun v h' => v = .bool true ∧ (whole w).le h' := by
  obtain ⟨x, rfl, m1, m2⟩ := ins_of w0
  obtain ⟨s, rfl⟩ := str_of w1
  exact asmTexts_x (Mx.of hsh) (er_of hL (by rfl) (by rfl)) (pow_of hL (by rfl)) x m1 m2 s.data.toList fun h' hle => ⟨rfl, hle⟩
theorem asmParses_w (w : World) (hsh : w.ShapedOpen Tryz.prog) (hL : laidMetH Tryz.prog Rows.asmParsesRow.laid w) {cs0 : List Value} (w0 : Wf (whole w) .str cs0) (l0 : cs0.length = Sh.n .str) :
    X Tryz.prog 4 #[Sh.v .str cs0] (whole w) fun v h' => v = .bool true ∧ (whole w).le h' := by
  obtain ⟨s, rfl⟩ := str_of w0
  exact asmParses_x (Mx.of hsh) (er_of hL (by rfl) (by rfl)) (pow_of hL (by rfl)) s.data.toList fun h' hle => ⟨rfl, hle⟩
end
end Go.Proofs.YtlobclgbbhoeiaaGreatDoor
