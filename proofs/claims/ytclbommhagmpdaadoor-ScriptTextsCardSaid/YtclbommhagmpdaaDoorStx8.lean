/-
  Scripts: the statement on texts.
-/
import Derived.Test.YtclbommhagmpdaaDoorStx7
import Derived.Test.YtclbommhagmpdaaDoorRows
import Derived.LaidMore
import Derived.LaidSub
import Derived.MakeChecks
import Derived.Lib.LaidTab
namespace Go.Proofs.YtclbommhagmpdaaDoor
set_option linter.unusedSimpArgs false
set_option linter.unusedVariables false
open Go Go.Mid Go.RowKit
attribute [local irreducible] mid
section
set_option maxHeartbeats 8000000
set_option maxRecDepth 10000
variable {h : Hp} {K : Value → Hp → Prop}
abbrev exS (ps ls : Value) : Sc := ⟨⟨1, 1, 1, 1⟩, ⟨2, 0, 0, 0, 0, 0, 0, 0⟩, ps, [], ls, [⟨0, 0, false⟩, ⟨0, 0, false⟩]⟩
theorem exCheck : checkE (exS .nilIface .nilIface) = 0 := by decide +kernel
theorem exText : textT (exS .nilIface .nilIface) = [109, 97, 99, 104, 105, 110, 101, 32, 49, 32, 49, 32, 49, 32, 49, 10, 98, 117, 100, 103, 101, 116, 32, 50, 10, 112, 105, 99, 107, 32, 48, 32, 50, 10] := by decide +kernel
theorem live36_x (hp : Pow h) (hk : K (.bool true) h) : X Tryd.prog 12 #[] h K := by
  refine X.forget ?_
  refine fnv (args := _) mixed [(1, 1)] [] [] Tryd.func12 rfl (by kernel_rfl) ?_
  conv => whnf
  refine new_intro (o := rowO 47 [.int .i64 0, .int .i64 0, .bool false, .int .i64 0, .int .i64 0, .bool false]) (fun b h1 n_b le_b at_b ot_b => ?_)
  conv => whnf
  have e0 : loadH Tryd.prog 47 h1 ((⟨b, 0, none⟩ : Addr).add (0 * 3)) = some (Ln.v ⟨0, 0, false⟩) := loadH_at (A := []) (x := [.int .i64 0, .int .i64 0, .bool false]) (B := [.int .i64 0, .int .i64 0, .bool false]) aggL sizL at_b rfl rfl
  have e1 : loadH Tryd.prog 47 h1 ((⟨b, 0, none⟩ : Addr).add (1 * 3)) = some (Ln.v ⟨0, 0, false⟩) := loadH_at (A := [.int .i64 0, .int .i64 0, .bool false]) (x := [.int .i64 0, .int .i64 0, .bool false]) (B := []) aggL sizL at_b rfl rfl
  have hI : (-9223372036854775808 : Int) ≤ 1 ∧ (1 : Int) ≤ 9223372036854775807 := by decide
  have hok : (exS (.slice none 0 0) (.slice (some ⟨b, 0, none⟩) 2 2)).ok 127 h1 := ⟨hI.1, hI.2, hI.1, hI.2, hI.1, hI.2, hI.1, hI.2, Rd.nil, fun p hp => (by cases hp), (by show (0 : Nat) ≤ 9223372036854775807; decide), ⟨some ⟨b, 0, none⟩, 2, rfl, fun i v hv => by
    match i, hv with
    | 0, hv => cases hv; exact ⟨_, rfl, e0⟩
    | 1, hv => cases hv; exact ⟨_, rfl, e1⟩
    | i + 2, hv => simp [exS] at hv⟩, (by show (2 : Nat) ≤ 9223372036854775807; decide), fun l hl => by
      have : l = ⟨0, 0, false⟩ := by simpa [exS] using hl
      subst this; decide⟩
  refine text_x36 (hp.le le_b) (exS (.slice none 0 0) (.slice (some ⟨b, 0, none⟩) 2 2)) hok (by show (0 : Nat) ≤ 300; decide) (fun p hp => by cases hp) (by show (2 : Nat) ≤ 2000; decide) ?_
  have hc : checkE (exS (.slice none 0 0) (.slice (some ⟨b, 0, none⟩) 2 2)) = 0 := exCheck
  have ht : textT (exS (.slice none 0 0) (.slice (some ⟨b, 0, none⟩) 2 2)) = [109, 97, 99, 104, 105, 110, 101, 32, 49, 32, 49, 32, 49, 32, 49, 10, 98, 117, 100, 103, 101, 116, 32, 50, 10, 112, 105, 99, 107, 32, 48, 32, 50, 10] := exText
  rw [hc, if_pos rfl]
  conv => whnf
  refine seq_true (ht) ?_
  conv => whnf
  exact ⟨h, le_b, hk⟩
theorem few_spec {s : Sc} (h : fewB s = true) : s.P.length ≤ 300 ∧ s.L.length ≤ 2000 ∧ ∀ p ∈ s.P, p.b.length ≤ 400 := of_decide_eq_true h
theorem texts_x (hp : Pow h) (s o : Sc) (hs : s.ok 127 h) (ho : o.ok 127 h) (hk : K (.bool true) h) : X Tryd.prog 5 #[s.v, o.v] h K := by
  refine X.forget ?_
  have hk' : ∀ h' : Hp, h.le h' → (∃ g : Hp, g.le h' ∧ K (.bool true) g) := fun h' hle => ⟨h, hle, hk⟩
  clear hk
  obtain ⟨bP, cP, eP, _⟩ := hs.shapeP
  obtain ⟨bL, cL, eL, _⟩ := rdL hs.ls
  obtain ⟨dP, kP, eP2, _⟩ := ho.shapeP
  obtain ⟨dL, kL, eL2, _⟩ := rdL ho.ls
  obtain ⟨c, u, ps, P, ls, L⟩ := s
  obtain ⟨c2, u2, ps2, P2, ls2, L2⟩ := o
  simp only at eP eL eP2 eL2
  subst eP
  subst eL
  subst eP2
  subst eL2
  refine fnv (args := _) mixed [(2, 2), (3, 3)] [] [] Tryd.func5 rfl (by kernel_rfl) ?_
  conv => whnf
  refine few_x ⟨c, u, .slice bP P.length cP, P, .slice bL L.length cL, L⟩ hs ?_
  conv => whnf
  refine bsel_intro (fun q1 => ?_) (fun q1 => ?_)
  · conv => whnf
    refine live36_x hp ?_
    conv => whnf
    exact hk' _ (Hp.le_refl _)
  have q1 : fewB ⟨c, u, .slice bP P.length cP, P, .slice bL L.length cL, L⟩ = true := by simpa using q1
  obtain ⟨f1, f2, f3⟩ := few_spec q1
  conv => whnf
  refine few_x ⟨c2, u2, .slice dP P2.length kP, P2, .slice dL L2.length kL, L2⟩ ho ?_
  conv => whnf
  refine bsel_intro (fun q2 => ?_) (fun q2 => ?_)
  · conv => whnf
    refine live36_x hp ?_
    conv => whnf
    exact hk' _ (Hp.le_refl _)
  have q2 : fewB ⟨c2, u2, .slice dP P2.length kP, P2, .slice dL L2.length kL, L2⟩ = true := by simpa using q2
  obtain ⟨g1, _, _⟩ := few_spec q2
  conv => whnf
  refine text_x36 hp ⟨c, u, .slice bP P.length cP, P, .slice bL L.length cL, L⟩ hs f1 f3 f2 ?_
  conv => whnf
  refine to_x ⟨c, u, .slice bP P.length cP, P, .slice bL L.length cL, L⟩ hs (Nat.le_trans f1 (by decide)) fun h1 sl1 le1 hs1 => ?_
  conv => whnf
  refine rtext_x ⟨c, u, sl1, P, .slice bL L.length cL, L⟩ hs1 f1 f3 f2 ?_
  conv => whnf
  refine seq_true (rfl) ?_
  conv => whnf
  refine bsel_true (beq_iff_eq.2 rfl) ?_
  conv => whnf
  refine check_x ⟨c, u, .slice bP P.length cP, P, .slice bL L.length cL, L⟩ (hs.le le1) ?_
  refine ⟨trivial, ?_⟩
  conv => whnf
  refine to_x ⟨c, u, .slice bP P.length cP, P, .slice bL L.length cL, L⟩ (hs.le le1) (Nat.le_trans f1 (by decide)) fun h2 sl2 le2 hs2 => ?_
  refine ⟨trivial, ?_⟩
  conv => whnf
  refine rcheck_x ⟨c, u, sl2, P, .slice bL L.length cL, L⟩ hs2 ?_
  refine ⟨trivial, ?_⟩
  conv => whnf
  refine bsel_true (beq_iff_eq.2 rfl) ?_
  conv => whnf
  have le02 := Hp.le_trans le1 le2
  refine same_x ⟨c, u, .slice bP P.length cP, P, .slice bL L.length cL, L⟩ ⟨c2, u2, .slice dP P2.length kP, P2, .slice dL L2.length kL, L2⟩ (hs.le le02) (ho.le le02) ?_
  refine ⟨trivial, ?_⟩
  conv => whnf
  refine to_x ⟨c2, u2, .slice dP P2.length kP, P2, .slice dL L2.length kL, L2⟩ (ho.le le02) (Nat.le_trans g1 (by decide)) fun h3 sl3 le3 ho3 => ?_
  refine ⟨trivial, ?_⟩
  conv => whnf
  have le03 := Hp.le_trans le02 le3
  refine rsame_x ⟨c, u, .slice bP P.length cP, P, .slice bL L.length cL, L⟩ ⟨c2, u2, sl3, P2, .slice dL L2.length kL, L2⟩ (hs.le le03) ho3 ?_
  refine ⟨trivial, ?_⟩
  conv => whnf
  refine bsel_true (beq_iff_eq.2 rfl) ?_
  conv => whnf
  refine same_x ⟨c, u, .slice bP P.length cP, P, .slice bL L.length cL, L⟩ ⟨c, u, .slice bP P.length cP, P, .slice bL L.length cL, L⟩ (hs.le le03) (hs.le le03) ?_
  refine ⟨trivial, ?_⟩
  conv => whnf
  refine bsel_true (decide_eq_true ⟨rfl, rfl, rfl, rfl⟩) ?_
  conv => whnf
  refine live36_x (hp.le le03) ?_
  refine ⟨trivial, ?_⟩
  conv => whnf
  exact hk' _ le03
theorem pow_of {w : World} {l : List (String × DataW Unit)} (hm : laidMetH Tryd.prog l w) (hl : l.filter (fun x => x.1 == "internal/strconv.uint64pow10") = [("internal/strconv.uint64pow10", Lib.tabData .u64 Lib.pow10Tab)]) : Pow (whole w) := by
  have h1 := laidMetH.filter (fun x => x.1 == "internal/strconv.uint64pow10") hm
  rw [hl, MakeChecks.laidMetH_plain _ _ _ (by decide +kernel)] at h1
  exact Pow.of (Lib.tabIs_of_head powG (t := (Tryd.prog.globals[0]?.map (·.type)).getD 0) (e := 26) (n := 20) (by kernel_rfl) (by kernel_rfl) (by kernel_rfl) (by kernel_rfl) (by kernel_rfl) h1)
abbrev shLn : Sh := .struct [(.int .i64), (.int .i64), .bool]
abbrev shPt : Sh := .struct [(.int .u64), (.slice (.int .u8))]
abbrev shSc : Sh := .struct [(.struct [(.int .i64), (.int .i64), (.int .i64), (.int .i64)]), (.array 8 (.int .i64)), (.slice shPt), (.slice shLn)]
theorem ln_of {cs : List Value} (w : Wf h shLn cs) : ∃ l : Ln, (-9223372036854775808 ≤ l.n ∧ l.n ≤ 9223372036854775807) ∧ cs = [.int .i64 l.w, .int .i64 l.n, .bool l.on] := by
  obtain ⟨a1, b1, rfl, w1, w⟩ := wfC (wfS w)
  obtain ⟨a2, b2, rfl, w2, w⟩ := wfC w
  obtain ⟨a3, b3, rfl, w3, w⟩ := wfC w
  obtain rfl := wfN w
  obtain ⟨x1, rfl, _⟩ := wfI w1
  obtain ⟨x2, rfl, p⟩ := wfI w2
  obtain ⟨x3, rfl⟩ := wfB w3
  exact ⟨⟨x1, x2, x3⟩, p, rfl⟩
theorem pt_of {cs : List Value} (w : Wf h shPt cs) : ∃ p : Pt, p.ok h ∧ cs = [.int .u64 p.at_, p.sl] := by
  obtain ⟨a1, b1, rfl, w1, w⟩ := wfC (wfS w)
  obtain ⟨a2, b2, rfl, w2, w⟩ := wfC w
  obtain rfl := wfN w
  obtain ⟨x1, rfl, p1⟩ := wfU w1
  have hs := slice_of1 (P := Tryd.prog) (t := 5) (ok := fun _ : UInt8 => True) (val := byV) aggU8 rfl (fun es hw => by
    obtain ⟨b, e⟩ := wf8 hw
    exact ⟨b, trivial, e⟩) w2
  obtain ⟨a, cap, L, rfl, hl, _, hL⟩ := hs
  refine ⟨⟨x1, .slice a L.length cap, L⟩, ⟨p1, Nat.le_trans hl (by decide), ⟨a, cap, by rw [List.length_map], fun i v hv => ?_⟩⟩, rfl⟩
  rw [List.getElem?_map] at hv
  cases hx : L[i]? with
  | none => rw [hx] at hv; cases hv
  | some x => rw [hx] at hv; cases hv; exact hL i x hx
theorem sc_of {cs : List Value} (w : Wf h shSc cs) : ∃ s : Sc, s.ok 127 h ∧ cs = s.cs := by
  obtain ⟨a1, b1, rfl, w1, w⟩ := wfC (wfS w)
  obtain ⟨a2, b2, rfl, w2, w⟩ := wfC w
  obtain ⟨a3, b3, rfl, w3, w⟩ := wfC w
  obtain ⟨a4, b4, rfl, w4, w⟩ := wfC w
  obtain rfl := wfN w
  obtain ⟨c1, d1, rfl, v1, v⟩ := wfC (wfS w1)
  obtain ⟨c2, d2, rfl, v2, v⟩ := wfC v
  obtain ⟨c3, d3, rfl, v3, v⟩ := wfC v
  obtain ⟨c4, d4, rfl, v4, v⟩ := wfC v
  obtain rfl := wfN v
  obtain ⟨x1, rfl, p1, q1⟩ := wfI v1
  obtain ⟨x2, rfl, p2, q2⟩ := wfI v2
  obtain ⟨x3, rfl, p3, q3⟩ := wfI v3
  obtain ⟨x4, rfl, p4, q4⟩ := wfI v4
  obtain ⟨bl, hbl, _, rfl⟩ := wfA (ok := fun _ : Int => True) (f := fun n => [Value.int .i64 n]) (fun _ hw => by
    obtain ⟨n, e, _⟩ := wfI hw
    exact ⟨n, trivial, e⟩) w2
  obtain ⟨pa, pc, P, rfl, hPl, hPo, hP⟩ := slice_of (P := Tryd.prog) (t := 127) (n := 2) (ok := fun p : Pt => p.ok h) (cells := fun p : Pt => [.int .u64 p.at_, p.sl]) aggPt sizPt (by decide) rfl (fun es hw => pt_of hw) w3
  obtain ⟨la, lc, L, rfl, hLl, hLo, hL⟩ := slice_of (P := Tryd.prog) (t := 47) (n := 3) (ok := fun l : Ln => -9223372036854775808 ≤ l.n ∧ l.n ≤ 9223372036854775807) (cells := fun l : Ln => [.int .i64 l.w, .int .i64 l.n, .bool l.on]) aggL sizL (by decide) rfl (fun es hw => ln_of hw) w4
  match bl, hbl with
  | [b0, b1, b2, b3, b4, b5, b6, b7], _ =>
    refine ⟨⟨⟨x1, x2, x3, x4⟩, ⟨b0, b1, b2, b3, b4, b5, b6, b7⟩, .slice pa P.length pc, P, .slice la L.length lc, L⟩, ⟨p1, q1, p2, q2, p3, q3, p4, q4, ⟨pa, pc, by rw [List.length_map], fun i v hv => ?_⟩, hPo, Nat.le_trans hPl (by decide), ⟨la, lc, by rw [List.length_map], fun i v hv => ?_⟩, Nat.le_trans hLl (by decide), hLo⟩, rfl⟩
    · rw [List.getElem?_map] at hv
      cases hx : P[i]? with
      | none => rw [hx] at hv; cases hv
      | some x => rw [hx] at hv; cases hv; exact hP i x hx
    · rw [List.getElem?_map] at hv
      cases hx : L[i]? with
      | none => rw [hx] at hv; cases hv
      | some x => rw [hx] at hv; cases hv; exact hL i x hx
theorem scriptTexts_w (w : World) (hL : laidMetH Tryd.prog Rows.scriptTextsRow.laid w) {cs0 cs1 : List Value} (w0 : Wf (whole w) shSc cs0) (l0 : cs0.length = Sh.n shSc) (w1 : Wf (whole w) shSc cs1) (l1 : cs1.length = Sh.n shSc) :
    X Tryd.prog 5 #[Sh.v shSc cs0, Sh.v shSc cs1] (whole w) fun v h' => v = .bool true ∧ (whole w).le h' := by
  obtain ⟨s, hs, rfl⟩ := sc_of w0
  obtain ⟨o, ho, rfl⟩ := sc_of w1
  exact texts_x (pow_of hL (by rfl)) s o hs ho ⟨rfl, Hp.le_refl _⟩
end
end Go.Proofs.YtclbommhagmpdaaDoor
