/-
  Translations are added, looked for and forgotten: the walk of TlbPlays.
-/
import Derived.Test.YteapmakpbmmleaaTlbc
namespace Go.Proofs.Yteapmakpbmmleaa
set_option linter.unusedSimpArgs false
set_option linter.unusedVariables false
open Go Go.Mid Go.RowKit
section
set_option maxHeartbeats 8000000
set_option maxRecDepth 10000
theorem rsameS_x {s1 s2 : Value} {L : List En} (h : Hp) (K : Value → Hp → Prop) (r1 : RdE h s1 L) (r2 : RdE h s2 L) (hl : L.length ≤ 2 ^ 40) (hk : K (.bool true) h) :
    X Try.prog 14 #[s1, s2] h K := rsameL_x h K r1 r2 hl (by rw [decide_eq_true rfl]; exact hk)
theorem sameT1_x {c1 c2 : Nat} {z : Int} {L : List En} (g : Good z L) (h : Hp) (K : Value → Hp → Prop) (t1 : TlbH h c1 z L) (t2 : TlbH h c2 z L) (hk : K (.bool true) h) :
    X Try.prog 17 #[.pointer (some ⟨c1, 0, none⟩), .pointer (some ⟨c2, 0, none⟩)] h K := sameT_x g g h K t1 t2 (by rw [decide_eq_true ⟨rfl, rfl⟩]; exact hk)
theorem sameT2_x {c1 c2 : Nat} {z : Int} {L1 L2 : List En} (g1 : Good z L1) (g2 : Good z L2) (h : Hp) (K : Value → Hp → Prop) (t1 : TlbH h c1 z L1) (t2 : TlbH h c2 z L2) (hk : K (.bool (decide (L1 = L2))) h) :
    X Try.prog 17 #[.pointer (some ⟨c1, 0, none⟩), .pointer (some ⟨c2, 0, none⟩)] h K := sameT_x g1 g2 h K t1 t2 (by rw [show decide (z = z ∧ L1 = L2) = decide (L1 = L2) by simp]; exact hk)
/-- Any translations are added, looked for and forgotten. -/
def runI (size : Int) : List En → List De → List En
  | L, [] => L
  | L, d :: r => runI size (stepI size L d) r
theorem tDeA : isAggT Try.prog 29 = some true := by kernel_rfl
theorem tDeS : sizeT Try.prog 29 = some 10 := by kernel_rfl
theorem ldR {h : Hp} {a : Addr} {d : De} (hl : loadH Try.prog 29 h a = some d.v) : loadH Try.prog 27 h (a.add 5) = some d.r.v := loadH_sub (k := 5) tDeA tDeS tRqA tRqS hl (by decide)
theorem ldE {h : Hp} {a : Addr} {d : De} (hl : loadH Try.prog 29 h a = some d.v) : loadH Try.prog 25 h (a.add 1) = some d.e.v := loadH_sub (k := 1) tDeA tDeS tEnA tEnS hl (by decide)
theorem beqSelf (b : Bool) : (b != b) = false := by cases b <;> rfl
theorem beqSelf2 (b : Bool) : (b == b) = true := by cases b <;> rfl
theorem plays_law (size : Int) {base : Option Addr} {cap : Nat} {D : List De} (hD : ∀ d ∈ D, d.ok) (hlen : D.length ≤ maxLen) (w0 : Hp)
    (hl : ∀ (i : Nat) (d : De), D[i]? = some d → ∃ b, base = some b ∧ loadH Try.prog 29 w0 (b.add (i * 10)) = some d.v) (o : De) (ho : o.ok) :
    X Try.prog 4 #[.int .i64 size, .slice base D.length cap, o.v] w0 fun v h' => v = .bool true ∧ w0.le h' := by
  by_cases hs : 1 ≤ size ∧ size ≤ 32
  · have g0 : Good size [] := good_nil hs
    refine fnv (args := _) mixed [(5, 5), (9, 9), (77, 9), (135, 9), (143, 9), (11, 11), (14, 14), (128, 14), (145, 14)] [] [98, 103] Try.func4 rfl (by kernel_rfl) ?_
    conv => whnf
    refine X.frame (Hp.emp_le _) (new_x size Hp.emp (fun v g => ∃ c, v = .tuple #[.pointer (some ⟨c, 0, none⟩), .int .i64 0] ∧ TlbH g c size []) (fun hb => absurd hs (by omega)) (fun _ _ c g _ _ t _ => ⟨c, rfl, t⟩)) (fun v g h1 hp u => ?_)
    obtain ⟨c, rfl, t1⟩ := hp
    have hle1 : w0.le h1 := fun b o e => u.kept b o e rfl
    have ap1 : Apart w0 g := fun b o e => by
      cases hg : g b with
      | none => rfl
      | some x => have := u.new b x hg rfl; rw [e] at this; cases this
    conv => whnf
    refine bsel_false ?_ ?_
    · simp; exact hs.1
    conv => whnf
    refine bsel_false ?_ ?_
    · simp; exact hs.2
    conv => whnf
    refine bsel_intro (fun q1 => ?_) (fun q1 => ?_) <;> try simp only [decide_eq_true_eq, decide_eq_false_iff_not, beq_iff_eq, beq_eq_false_iff_ne, ne_eq, Bool.not_eq_true', Bool.not_eq_false', bne_iff_ne, bne_eq_false_iff_eq, Bool.not_eq_true, Bool.not_eq_false, Bool.and_eq_true, Bool.or_eq_true] at q1
    · conv => whnf
      refine bsel_true ?_ ?_
      · simpa using q1
      conv => whnf
      refine live_x _ _ ?_
      conv => whnf
      exact ⟨rfl, hle1⟩
    have hl100 : D.length ≤ 100 := by omega
    conv => whnf
    refine loop_at [10] [9, 5] (fun r vs cs h' => ∃ (j : Nat) (s : Value) (L : List En) (gt k : Hp), j ≤ D.length ∧ r = D.length - j ∧ vs = [.v (.int .i64 j)] ∧ cs = [some [.int .i64 size, s], some o.cells] ∧ Both h' c size s L gt k ∧ w0.le h' ∧ Apart w0 gt ∧ Apart w0 k) D.length
      ⟨0, .slice none 0 0, [], g, Hp.emp, by omega, by omega, rfl, rfl, ⟨g0, u.le, Hp.emp_le _, fun _ _ e => (by cases e), t1, Rd.nil⟩, hle1, ap1, fun _ _ _ => rfl⟩ ?_
    rintro r vs cs mm bx h' ⟨j, s, L, gt, k, hj, rfl, rfl, rfl, hB, hle, hap, hak⟩
    have hob_ := rdE hB.hr
    obtain ⟨sb, sc, rfl, _⟩ := hob_
    conv => whnf
    refine bsel_intro (fun q2 => ?_) (fun q2 => ?_) <;> try simp only [decide_eq_true_eq, decide_eq_false_iff_not, beq_iff_eq, beq_eq_false_iff_ne, ne_eq, Bool.not_eq_true', Bool.not_eq_false', bne_iff_ne, bne_eq_false_iff_eq, Bool.not_eq_true, Bool.not_eq_false, Bool.and_eq_true, Bool.or_eq_true] at q2
    · have hjl : j < D.length := by omega
      have hget : D[j]? = some D[j] := List.getElem?_eq_getElem hjl
      have hok : D[j].ok := hD _ (List.getElem_mem hjl)
      obtain ⟨b, rfl, hb⟩ := hl j _ hget
      generalize D[j] = d at *
      conv => whnf
      first | refine need_intro (by omega) ?_ | refine must.mk (by omega) ?_
      conv => whnf
      refine ⟨_, loadH_le hle hb, ?_⟩
      conv => whnf
      refine do_x hB hok _ (fun h2 s2 g2 k2 hB2 hk2 st => ?_)
      obtain ⟨p1, p2, p3⟩ := st w0 hle hap hak
      have hob_ := rdE hB2.hr
      obtain ⟨sb2, sc2, rfl, _⟩ := hob_
      refine ⟨trivial, ?_⟩
      conv => whnf
      refine ⟨fun h' => w0.le h', p1, ?_⟩
      conv => whnf
      refine all_x hB2.good h2 _ (hB2.ht.le hB2.hgt) (fun s5 h5 hle5 hr5 => ?_)
      have q5 := Hp.le_trans p1 hle5
      refine ⟨q5, ?_⟩
      conv => whnf
      refine rsameS_x h5 _ hr5 ((hB2.hr.le hB2.hk).le hle5) (by have := hB2.good.len; have := hB2.good.sz; omega) ?_
      refine ⟨q5, ?_⟩
      conv => whnf
      first | refine need_intro (by omega) ?_ | refine must.mk (by omega) ?_
      conv => whnf
      refine ⟨_, loadH_le q5 (ldR hb), ?_⟩
      conv => whnf
      first | refine need_intro (by omega) ?_ | refine must.mk (by omega) ?_
      conv => whnf
      refine ⟨_, loadH_le q5 (ldE hb), ?_⟩
      conv => whnf
      refine forgets_x d.r d.e hok.2 hok.1 ?_
      refine ⟨q5, ?_⟩
      conv => whnf
      first | refine need_intro (by omega) ?_ | refine must.mk (by omega) ?_
      conv => whnf
      refine ⟨_, fun h' hh => loadH_le hh (ldR hb), ?_⟩
      conv => whnf
      first | refine need_intro (by omega) ?_ | refine must.mk (by omega) ?_
      conv => whnf
      refine ⟨_, fun h' hh => loadH_le hh (ldE hb), ?_⟩
      conv => whnf
      refine rforgets_x d.r d.e hok.2 hok.1 ?_
      refine ⟨q5, ?_⟩
      conv => whnf
      refine bsel_false ?_ ?_
      · simp
      conv => whnf
      first | refine ov_i64 (by omega) ?_ | refine ov_u64 (by omega) ?_ | refine ov_i64 (by decide) ?_ | refine ov_u64 (by decide) ?_ | refine ov_u8 (by omega) ?_ | refine ov_i32 (by omega) ?_ | refine ov_u32 (by omega) ?_
      conv => whnf
      exact ⟨D.length - (j + 1), by omega, j + 1, _, stepI size L d, g2, k2, by omega, rfl, rfl, rfl, ⟨hB2.good, fun b o e => hle5 b o (hB2.hgt b o e), fun b o e => hle5 b o (hB2.hk b o e), hB2.ap, hB2.ht, hB2.hr⟩, q5, p2, p3⟩
    conv => whnf
    refine cloneT_x hB.good h' _ (hB.ht.le hB.hgt) (fun c2 h2 hle2 t2 => ?_)
    conv => whnf
    refine sameT1_x hB.good h2 _ (t2.le (news_le _ _)) ((hB.ht.le hB.hgt).le hle2) ?_
    conv => whnf
    have hkh2 : k.le h2 := fun b o e => hle2 b o (hB.hk b o e)
    have hBc : Both h2 c2 size (.slice sb L.length sc) L (news h' h2) k := ⟨hB.good, news_le _ _, hkh2, (news_apart h' h2).le hB.hk, t2, hB.hr⟩
    refine do_x hBc ho _ (fun h3 s3 g3 k3 hB3 hk3 st => ?_)
    have hob_ := rdE hB3.hr
    obtain ⟨sb3, sc3, rfl, _⟩ := hob_
    obtain ⟨p1, p2, p3⟩ := st w0 (Hp.le_trans hle hle2) ((news_apart h' h2).le hle) hak
    obtain ⟨p4, p5, p6⟩ := st gt (Hp.le_trans hB.hgt hle2) ((news_apart h' h2).le hB.hgt) hB.ap.symm
    have hLl : L.length ≤ 2 ^ 40 := by have := hB.good.len; have := hB.good.sz; omega
    have hLl3 : (stepI size L o).length ≤ 2 ^ 40 := by have := hB3.good.len; have := hB3.good.sz; omega
    have hrs : RdE h3 (.slice sb L.length sc) L := (hB.hr.le hk3).le hB3.hk
    have hrs3 : RdE h3 (.slice sb3 (stepI size L o).length sc3) (stepI size L o) := hB3.hr.le hB3.hk
    conv => whnf
    refine all_x hB3.good h3 _ (hB3.ht.le hB3.hgt) (fun s5 h5 hle5 hr5 => ?_)
    refine ⟨trivial, ?_⟩
    conv => whnf
    refine rsameS_x h5 _ hr5 (hrs3.le hle5) hLl3 ?_
    refine ⟨trivial, ?_⟩
    conv => whnf
    refine all_x hB.good h5 _ ((hB.ht.le p4).le hle5) (fun s6 h6 hle6 hr6 => ?_)
    refine ⟨trivial, ?_⟩
    conv => whnf
    refine rsameS_x h6 _ hr6 ((hrs.le hle5).le hle6) hLl ?_
    refine ⟨trivial, ?_⟩
    conv => whnf
    refine sameT2_x hB3.good hB.good h6 _ (((hB3.ht.le hB3.hgt).le hle5).le hle6) (((hB.ht.le p4).le hle5).le hle6) ?_
    refine ⟨trivial, ?_⟩
    conv => whnf
    refine rsameL_x h6 _ ((hrs.le hle5).le hle6) ((hrs3.le hle5).le hle6) hLl ?_
    rw [show decide (L = stepI size L o) = decide (stepI size L o = L) by rw [decide_eq_decide]; exact eq_comm]
    refine ⟨trivial, ?_⟩
    conv => whnf
    cases decide (stepI size L o = L)
    all_goals
      conv => whnf
      refine live_x _ _ ?_
      refine ⟨trivial, ?_⟩
      conv => whnf
      exact ⟨rfl, Hp.le_trans p1 (Hp.le_trans hle5 hle6)⟩
  · refine fnv (args := _) mixed [(5, 5), (9, 9), (77, 9), (135, 9), (143, 9), (11, 11), (14, 14), (128, 14), (145, 14)] [] [98, 103] Try.func4 rfl (by kernel_rfl) ?_
    conv => whnf
    refine new_x size _ _ (fun hb => ?_) (fun h1 h2 => absurd ⟨h1, h2⟩ hs)
    conv => whnf
    refine bsel_intro (fun q1 => ?_) (fun q1 => ?_) <;> try simp only [decide_eq_true_eq, decide_eq_false_iff_not, beq_iff_eq, beq_eq_false_iff_ne, ne_eq, Bool.not_eq_true', Bool.not_eq_false', bne_iff_ne, bne_eq_false_iff_eq, Bool.not_eq_true, Bool.not_eq_false, Bool.and_eq_true, Bool.or_eq_true] at q1
    · conv => whnf
      refine live_x _ _ ?_
      conv => whnf
      exact ⟨rfl, Hp.le_refl _⟩
    conv => whnf
    refine bsel_true ?_ ?_
    · simp; omega
    conv => whnf
    refine live_x _ _ ?_
    conv => whnf
    exact ⟨rfl, Hp.le_refl _⟩
end
theorem tlbPlays_w {cs0 cs1 cs2 : List Value} (w : World) (w0 : Wf (whole w) (.int .i64) cs0) (_ : cs0.length = 1) (w1 : Wf (whole w) (.slice (.struct [.int .i64, .struct [.int .i64, .int .u64, .int .i64, .int .u64], .struct [.bool, .bool, .bool, .int .u64, .int .i64]])) cs1) (_ : cs1.length = 1) (w2 : Wf (whole w) (.struct [.int .i64, .struct [.int .i64, .int .u64, .int .i64, .int .u64], .struct [.bool, .bool, .bool, .int .u64, .int .i64]]) cs2) (_ : cs2.length = 10) :
    X Try.prog 4 #[cs0.headD undef, cs1.headD undef, .agg cs2.toArray] (whole w) fun v h' => v = .bool true ∧ (whole w).le h' := by
  unfold Wf at w0
  obtain ⟨size, rfl, _⟩ := w0
  obtain ⟨a, cap, D, rfl, hm, hD, hl⟩ := slice_of (P := Try.prog) (t := 29) (n := 10) tDeA tDeS (by decide) rfl (fun es => wf_de) w1
  obtain ⟨o, ho, rfl⟩ := wf_de w2
  exact plays_law size hD hm _ hl o ho
end Go.Proofs.Yteapmakpbmmleaa
