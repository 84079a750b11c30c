/-
  Logs in words: an event's line, the program's.
-/
import Derived.Test.YtcmhfofmloiaiaaGreatDoorLibNi
import Derived.Test.YtcmhfofmloiaiaaGreatDoorTr2
namespace Go.Proofs.YtcmhfofmloiaiaaGreatDoor
set_option linter.unusedSimpArgs false
set_option linter.unusedVariables false
open Go Go.Mid Go.RowKit
attribute [local irreducible] mid
section
set_option maxHeartbeats 8000000
set_option maxRecDepth 10000
variable {h : Hp} {K : Value → Hp → Prop}
deriving instance DecidableEq for Rq
deriving instance DecidableEq for En
deriving instance DecidableEq for An
abbrev Rq.zero : Rq := ⟨false, false, false, 0, 0⟩
abbrev En.zero : En := ⟨0, 0, 0, 0⟩
abbrev An.zero : An := ⟨0, false, Rq.zero, Rq.zero, Rq.zero, Rq.zero, Rq.zero, Rq.zero, Rq.zero, Rq.zero⟩
theorem aggRq : isAggT Tryz.prog 44 = some true := by kernel_rfl
theorem sizRq : sizeT Tryz.prog 44 = some 5 := by kernel_rfl
theorem aggEn : isAggT Tryz.prog 46 = some true := by kernel_rfl
theorem sizEn : sizeT Tryz.prog 46 = some 4 := by kernel_rfl
theorem aggAk : isAggT Tryz.prog 48 = some true := by kernel_rfl
theorem sizAk : sizeT Tryz.prog 48 = some 19 := by kernel_rfl
theorem aggAn : isAggT Tryz.prog 51 = some true := by kernel_rfl
theorem sizAn : sizeT Tryz.prog 51 = some 42 := by kernel_rfl
theorem aggM : isAggT Tryz.prog 49 = some true := by kernel_rfl
theorem sizM : sizeT Tryz.prog 49 = some 40 := by kernel_rfl
theorem aggKi : isAggT Tryz.prog 41 = some false := by kernel_rfl
def rqEq (q r : Rq) : Bool := (q.s == r.s) && ((q.v == r.v) && ((q.a == r.a) && (((q.va : Int) == (r.va : Int)) && ((q.asid == r.asid) && true))))
theorem rqEq_of (q r : Rq) : rqEq q r = decide (q = r) := by
  obtain ⟨s, v, a, va, asid⟩ := q
  obtain ⟨s', v', a', va', asid'⟩ := r
  unfold rqEq
  rw [Bool.eq_iff_iff]
  simp
  omega
theorem eqRq0 (q r : Rq) : eqW Tryz.prog 10000 44 (.agg q.cs.toArray) (.agg r.cs.toArray) = some (rqEq q r) := by kernel_rfl
theorem eqRq (q r : Rq) : eqW Tryz.prog 10000 44 (.agg q.cs.toArray) (.agg r.cs.toArray) = some (decide (q = r)) := by rw [eqRq0, rqEq_of]
theorem eqEn0 (q r : En) : eqW Tryz.prog 10000 46 (.agg q.cs.toArray) (.agg r.cs.toArray) = some ((q.asid == r.asid) && (((q.page : Int) == (r.page : Int)) && ((q.level == r.level) && (((q.pte : Int) == (r.pte : Int)) && true)))) := by kernel_rfl
theorem eqEn (q r : En) : eqW Tryz.prog 10000 46 (.agg q.cs.toArray) (.agg r.cs.toArray) = some (decide (q = r)) := by
  rw [eqEn0]
  congr 1
  obtain ⟨s, v, a, va⟩ := q
  obtain ⟨s', v', a', va'⟩ := r
  rw [Bool.eq_iff_iff]
  simp
  omega
theorem eqAn0 (q r : An) : eqW Tryz.prog 10000 51 (.agg q.cs.toArray) (.agg r.cs.toArray) = some (((q.data : Int) == (r.data : Int)) && ((q.good == r.good) && ((rqEq q.m0 r.m0 && (rqEq q.m1 r.m1 && (rqEq q.m2 r.m2 && (rqEq q.m3 r.m3 && (rqEq q.m4 r.m4 && (rqEq q.m5 r.m5 && (rqEq q.m6 r.m6 && (rqEq q.m7 r.m7 && true)))))))) && true))) := by kernel_rfl
theorem eqAn (q r : An) : eqW Tryz.prog 10000 51 (.agg q.cs.toArray) (.agg r.cs.toArray) = some (decide (q = r)) := by
  rw [eqAn0]
  congr 1
  simp only [rqEq_of]
  obtain ⟨d, g, m0, m1, m2, m3, m4, m5, m6, m7⟩ := q
  obtain ⟨d', g', n0, n1, n2, n3, n4, n5, n6, n7⟩ := r
  rw [Bool.eq_iff_iff]
  simp
  omega
theorem Wds.newE {k h h' : Hp} {w b : Nat} {o : Obj} {xs : List Str} (hw : Wds k h w xs) (hb : h b = none) (hle : h.le h') (hat : h' b = some o) : ∃ k1, Wds k1 h' w xs ∧ k1 b = some o ∧ k.le k1 :=
  ⟨_, hw.new hb hle hat, Hp.set_same _ _ _, Hp.le_set' (Hp.none_le hw.le hb)⟩
def orW (x : Str) : Str := if x = [] then [63] else x
structure En.ok (q : En) : Prop where
  lo : -9223372036854775808 ≤ q.asid
  hi : q.asid ≤ 9223372036854775807
  pg : q.page < 18446744073709551616
  lo2 : -9223372036854775808 ≤ q.level
  hi2 : q.level ≤ 9223372036854775807
  pt : q.pte < 18446744073709551616
structure Ak.ok (a : Ak) : Prop where
  addr : a.addr < 18446744073709551616
  next : a.next < 18446744073709551616
  cut0 : -9223372036854775808 ≤ a.cut
  cut1 : a.cut ≤ 9223372036854775807
  size0 : -9223372036854775808 ≤ a.size
  size1 : a.size ≤ 9223372036854775807
  data : a.data < 18446744073709551616
  old : a.old < 18446744073709551616
  hart0 : -9223372036854775808 ≤ a.hart
  hart1 : a.hart ≤ 9223372036854775807
  req : a.req.ok
  ent : a.ent.ok
abbrev nAddr : Str := [97, 100, 100, 114]
abbrev nNext : Str := [110, 101, 120, 116]
abbrev nCut : Str := [99, 117, 116]
abbrev nSize : Str := [115, 105, 122, 101]
abbrev nOp : Str := [111, 112]
abbrev nData : Str := [100, 97, 116, 97]
abbrev nOld : Str := [111, 108, 100]
abbrev nLive : Str := [108, 105, 118, 101]
abbrev nTo : Str := [116, 111]
abbrev nReq : Str := [114, 101, 113]
abbrev nEntry : Str := [101, 110, 116, 114, 121]
abbrev nArrow : Str := [45, 62]
abbrev nGood : Str := [103, 111, 111, 100]
abbrev nMail : Str := [109, 97, 105, 108]
def opW (n : Int) : List Str := if n = 0 then [] else [nOp, orW (opName n)]
def reqW (q : Rq) : List Str := if q = Rq.zero then [] else [nReq] ++ wreq q
def entW (q : En) : List Str := if q = En.zero then [] else [nEntry, Lib.itoa q.asid, Lib.decDigits q.page, Lib.itoa q.level, Lib.decDigits q.pte]
def askW (a : Ak) : List Str := wnum nAddr a.addr ++ wnum nNext a.next ++ wint nCut a.cut ++ wint nSize a.size ++ opW a.op ++ wnum nData a.data ++ wnum nOld a.old ++ wtruth nLive a.live ++ wint nTo a.hart ++ reqW a.req ++ entW a.ent
theorem wnum_len (x : Str) (n : Nat) : (wnum x n).length ≤ 2 := by unfold wnum; split <;> simp
theorem wint_len (x : Str) (n : Int) : (wint x n).length ≤ 2 := by unfold wint; split <;> simp
theorem wtruth_len (x : Str) (n : Bool) : (wtruth x n).length ≤ 2 := by unfold wtruth; split <;> simp
theorem opW_len (n : Int) : (opW n).length ≤ 2 := by unfold opW; split <;> simp
theorem wreq_len (q : Rq) : (wreq q).length = 3 := rfl
theorem reqW_len (q : Rq) : (reqW q).length ≤ 4 := by unfold reqW; split <;> simp [wreq_len]
theorem ask_x {k : Hp} {w : Nat} {xs : List Str} (hp : Pow k) (hw : Wds k h w xs) (hn : xs.length ≤ 100) (x : Ak) (hx : x.ok)
    (hk : ∀ h', Wds k h' w (xs ++ askW x) → K (.tuple #[]) h') : X Tryz.prog 36 #[.pointer (some ⟨w, 0, none⟩), .agg x.cs.toArray] h K := by
  have hk' : ∀ h' k', k.le k' → Wds k' h' w (xs ++ wnum nAddr x.addr ++ wnum nNext x.next ++ wint nCut x.cut ++ wint nSize x.size ++ opW x.op ++ wnum nData x.data ++ wnum nOld x.old ++ wtruth nLive x.live ++ wint nTo x.hart ++ reqW x.req ++ entW x.ent) → K (.tuple #[]) h' :=
    fun h' k' hle hw' => hk h' ((by simpa [askW, List.append_assoc] using hw' : Wds k' h' w (xs ++ askW x)).weak hle)
  clear hk
  refine fnp (args := _) mixed [(4, 4), (64, 4), (67, 4), (70, 4), (73, 4)] [] [] [(999999, [23, 50])] Tryz.func36 rfl (by kernel_rfl) ?_
  conv => whnf
  refine new_intro (o := rowO 48 x.cs) (fun b h1 n_b le_b at_b ot_b => ?_)
  conv => whnf
  obtain ⟨k1, hw1, kb, lek⟩ := hw.newE n_b le_b at_b
  have hp1 := hp.le lek
  refine ⟨_, loadC (i := 1) aggU (hw1.le _ _ kb) rfl, ?_⟩
  conv => whnf
  refine num_x hp1 hw1 (Nat.le_trans hn (by decide)) _ x.addr hx.addr fun h2 hw2 => ?_
  have l2 := app_len hn (wnum_len nAddr x.addr)
  conv => whnf
  refine ⟨_, loadC (i := 2) aggU (hw2.le _ _ kb) rfl, ?_⟩
  conv => whnf
  refine num_x hp1 hw2 (Nat.le_trans l2 (by decide)) _ x.next hx.next fun h3 hw3 => ?_
  have l3 := app_len l2 (wnum_len nNext x.next)
  conv => whnf
  refine ⟨_, loadC (i := 3) aggIn (hw3.le _ _ kb) rfl, ?_⟩
  conv => whnf
  refine int_x hp1 hw3 (Nat.le_trans l3 (by decide)) _ x.cut hx.cut0 hx.cut1 fun h4 hw4 => ?_
  have l4 := app_len l3 (wint_len nCut x.cut)
  conv => whnf
  refine ⟨_, loadC (i := 4) aggIn (hw4.le _ _ kb) rfl, ?_⟩
  conv => whnf
  refine int_x hp1 hw4 (Nat.le_trans l4 (by decide)) _ x.size hx.size0 hx.size1 fun h5 hw5 => ?_
  have l5 := app_len l4 (wint_len nSize x.size)
  conv => whnf
  refine ⟨_, loadC (i := 5) aggY0 (hw5.le _ _ kb) rfl, ?_⟩
  conv => whnf
  refine if_at [] [] (fun vs cs h' => Wds k1 h' w (xs ++ wnum nAddr x.addr ++ wnum nNext x.next ++ wint nCut x.cut ++ wint nSize x.size ++ opW x.op)) (fun e => ?_) (fun e => ?_) (fun vs cs m bx h6 hw6 => ?_)
  · have e : x.op ≠ 0 := by simpa using e
    conv => whnf
    refine ⟨_, loadC (i := 5) aggY0 (hw5.le _ _ kb) rfl, ?_⟩
    conv => whnf
    refine kname_x x.op ?_
    conv => whnf
    refine or_x _ ?_
    conv => whnf
    refine new_intro (o := rowO 9 [sv nOp, sv (orW (opName x.op))]) (fun y h6 n_y le_y at_y ot_y => ?_)
    conv => whnf
    refine putB (ys := [nOp, orW (opName x.op)]) hw5 n_y le_y at_y (Nat.le_trans (Nat.add_le_add_right l5 2) (by decide)) fun h7 hw7 => ?_
    conv => whnf
    show Wds _ _ _ _
    rw [opW, if_neg e]
    exact hw7
  · have e : x.op = 0 := by simpa using e
    conv => whnf
    show Wds _ _ _ _
    rw [opW, if_pos e, List.append_nil]
    exact hw5
  have l6 := app_len l5 (opW_len x.op)
  conv => whnf
  refine ⟨_, loadC (i := 6) aggU (hw6.le _ _ kb) rfl, ?_⟩
  conv => whnf
  refine num_x hp1 hw6 (Nat.le_trans l6 (by decide)) _ x.data hx.data fun h7 hw7 => ?_
  have l7 := app_len l6 (wnum_len nData x.data)
  conv => whnf
  refine ⟨_, loadC (i := 7) aggU (hw7.le _ _ kb) rfl, ?_⟩
  conv => whnf
  refine num_x hp1 hw7 (Nat.le_trans l7 (by decide)) _ x.old hx.old fun h8 hw8 => ?_
  have l8 := app_len l7 (wnum_len nOld x.old)
  conv => whnf
  refine ⟨_, loadC (i := 8) aggBo (hw8.le _ _ kb) rfl, ?_⟩
  conv => whnf
  refine truth_x hw8 (Nat.le_trans l8 (by decide)) _ x.live fun h9 hw9 => ?_
  have l9 := app_len l8 (wtruth_len nLive x.live)
  conv => whnf
  refine ⟨_, loadC (i := 9) aggIn (hw9.le _ _ kb) rfl, ?_⟩
  conv => whnf
  refine int_x hp1 hw9 (Nat.le_trans l9 (by decide)) _ x.hart hx.hart0 hx.hart1 fun h10 hw10 => ?_
  have l10 := app_len l9 (wint_len nTo x.hart)
  conv => whnf
  refine ⟨_, loadP (k := 10) (x := x.req.cs) aggRq sizRq (hw10.le _ _ kb) rfl rfl, ?_⟩
  conv => whnf
  refine must.mk (by kernel_rfl) ?_
  refine viaB_of (eqRq x.req Rq.zero) ?_
  conv => whnf
  refine if_at [] [] (fun vs cs h' => Wds k1 h' w (xs ++ wnum nAddr x.addr ++ wnum nNext x.next ++ wint nCut x.cut ++ wint nSize x.size ++ opW x.op ++ wnum nData x.data ++ wnum nOld x.old ++ wtruth nLive x.live ++ wint nTo x.hart ++ reqW x.req)) (fun e => ?_) (fun e => ?_) (fun vs cs m bx h11 hw11 => ?_)
  · have e : x.req ≠ Rq.zero := by simpa using e
    conv => whnf
    refine new_intro (o := rowO 9 [sv nReq]) (fun y h11 n_y le_y at_y ot_y => ?_)
    conv => whnf
    refine putB (ys := [nReq]) hw10 n_y le_y at_y (Nat.le_trans (Nat.add_le_add_right l10 1) (by decide)) fun h12 hw12 => ?_
    conv => whnf
    refine ⟨_, loadP (k := 10) (x := x.req.cs) aggRq sizRq (hw12.le _ _ kb) rfl rfl, ?_⟩
    conv => whnf
    refine req_x hp1 hw12 (Nat.le_trans (app_len l10 (Nat.le_refl 1)) (by decide)) x.req hx.req fun h13 hw13 => ?_
    conv => whnf
    show Wds _ _ _ _
    rw [reqW, if_neg e, ← List.append_assoc]
    exact hw13
  · have e : x.req = Rq.zero := by simpa using e
    conv => whnf
    show Wds _ _ _ _
    rw [reqW, if_pos e, List.append_nil]
    exact hw10
  have l11 := app_len l10 (reqW_len x.req)
  conv => whnf
  refine ⟨_, loadP (k := 15) (x := x.ent.cs) aggEn sizEn (hw11.le _ _ kb) rfl rfl, ?_⟩
  conv => whnf
  refine must.mk (by kernel_rfl) ?_
  refine viaB_of (eqEn x.ent En.zero) ?_
  conv => whnf
  refine bsel_intro (fun q1 => ?_) (fun q1 => ?_) <;> try simp only [decide_eq_true_eq, decide_eq_false_iff_not, beq_iff_eq, beq_eq_false_iff_ne, ne_eq, Bool.not_eq_true', Bool.not_eq_false', bne_iff_ne, bne_eq_false_iff_eq, Bool.not_eq_true, Bool.not_eq_false, Bool.and_eq_true, Bool.or_eq_true, bs_size] at q1
  · have e : x.ent ≠ En.zero := by simpa using q1
    rw [entW, if_neg e] at hk'
    conv => whnf
    refine itoaA_x (hp1.le hw11.le) x.ent.asid hx.ent.lo hx.ent.hi ?_
    refine ⟨trivial, ?_⟩
    conv => whnf
    refine fmtU_x (hp1.le hw11.le) x.ent.page hx.ent.pg ?_
    refine ⟨trivial, ?_⟩
    conv => whnf
    refine itoaA_x (hp1.le hw11.le) x.ent.level hx.ent.lo2 hx.ent.hi2 ?_
    refine ⟨trivial, ?_⟩
    conv => whnf
    refine fmtU_x (hp1.le hw11.le) x.ent.pte hx.ent.pt ?_
    refine ⟨trivial, ?_⟩
    conv => whnf
    refine new_intro (o := rowO 9 [sv nEntry, sv (Lib.itoa x.ent.asid), sv (Lib.decDigits x.ent.page), sv (Lib.itoa x.ent.level), sv (Lib.decDigits x.ent.pte)]) (fun y h12 n_y le_y at_y ot_y => ?_)
    conv => whnf
    refine putB (ys := [nEntry, Lib.itoa x.ent.asid, Lib.decDigits x.ent.page, Lib.itoa x.ent.level, Lib.decDigits x.ent.pte]) hw11 n_y le_y at_y (Nat.le_trans (Nat.add_le_add_right l11 5) (by decide)) fun h13 hw13 => ?_
    refine ⟨trivial, ?_⟩
    conv => whnf
    exact hk' _ _ lek hw13
  · have e : x.ent = En.zero := by simpa using q1
    rw [entW, if_pos e, List.append_nil] at hk'
    conv => whnf
    exact hk' _ _ lek hw11
end
end Go.Proofs.YtcmhfofmloiaiaaGreatDoor
