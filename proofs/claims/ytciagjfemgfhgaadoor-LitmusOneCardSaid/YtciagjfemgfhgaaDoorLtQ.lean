/-
  All outcomes of a test are those of all its orders.
-/
import Derived.Test.YtciagjfemgfhgaaDoorLtP
import Derived.Test.YtciagjfemgfhgaaDoorRows
import Derived.LaidMore
import Derived.LaidSub
import Derived.MakeChecks
import Derived.Lib.LaidTab
namespace Go.Proofs.YtciagjfemgfhgaaDoor
set_option linter.unusedSimpArgs false
set_option linter.unusedVariables false
open Go Go.Mid Go.RowKit
attribute [local irreducible] mid
theorem S0_in (T : List (List Dd)) (h : chk T = 0) : ∃ o, OutS T S0 o := by
  obtain ⟨c1, _, c3, c4⟩ := chk_ok h
  have key : ∀ (n : Nat) (s : St), s.ok → left T s < n → ∃ w : List Nat, OutR T s w ∧ w.length = 16 := fun n => by
    induction n with
    | zero => intro s _ h; omega
    | succ n ih =>
      intro s hs hl
      by_cases h0 : ∀ i, i < T.length → nxt T s i = none
      · exact ⟨s.W, outS_done h0, hs.w⟩
      · obtain ⟨i, hi⟩ := Classical.not_forall.1 h0
        obtain ⟨hi, hn⟩ := Classical.not_imp.1 hi
        cases hd : nxt T s i with
        | none => exact absurd hd hn
        | some d =>
          obtain ⟨L, g1, g2⟩ := nxt_at hd
          have hlen := (List.getElem?_eq_some_iff.1 g2).1
          have h5 := c3 L (List.mem_of_getElem? g1)
          have hok := doS_ok hs (show i < 3 by omega) (c4 L (List.mem_of_getElem? g1) d (List.mem_of_getElem? g2)) (by omega)
          have hst := left_step hs (show i < 3 by omega) g1 g2 (d' := d)
          obtain ⟨w, hw, hw2⟩ := ih _ hok (by omega)
          exact ⟨w, outS_step hd hw, hw2⟩
  obtain ⟨w, hw, hw2⟩ := key _ S0 S0_ok (Nat.lt_succ_self _)
  exact ⟨⟨w, hw2⟩, hw⟩
section
set_option maxHeartbeats 8000000
set_option maxRecDepth 10000
variable {h : Hp} {K : Value → Hp → Prop}
theorem pow_of {w : World} {l : List (String × DataW Unit)} (hm : laidMetH Tryd.prog l w) (hl : l.filter (fun x => x.1 == "internal/strconv.uint64pow10") = [("internal/strconv.uint64pow10", Lib.tabData .u64 Lib.pow10Tab)]) : Pow (whole w) := by
  have h1 := laidMetH.filter (fun x => x.1 == "internal/strconv.uint64pow10") hm
  rw [hl, MakeChecks.laidMetH_plain _ _ _ (by decide +kernel)] at h1
  exact Pow.of (Lib.tabIs_of_head powG (t := (Tryd.prog.globals[0]?.map (·.type)).getD 0) (e := 25) (n := 20) (by kernel_rfl) (by kernel_rfl) (by kernel_rfl) (by kernel_rfl) (by kernel_rfl) h1)
theorem RowS.rd {s : Value} {L : List Oc} (r : RowS h s L) : Rd Tryd.prog 32 16 h s (L.map ocv) := by
  rcases r with ⟨rfl, rfl⟩ | ⟨b, cap, rest, rfl, _, hb⟩
  · exact Rd.nil
  · refine ⟨some ⟨b, 0, none⟩, cap, by rw [List.length_map], fun i v hv => ⟨_, rfl, ?_⟩⟩
    rw [List.getElem?_map] at hv
    cases hx : L[i]? with
    | none => rw [hx] at hv; cases hv
    | some x =>
      rw [hx] at hv
      cases hv
      exact loadH_agg (n := 16) (f := Oc.cs) aggRo sizRo ocs_len hb hx
theorem first_x (hk : ∀ h', h.le h' → K (.agg S0.rs.toArray) h') : X Tryd.prog 15 #[] h K := by
  refine fnv (args := _) mixed [] [] [] Tryd.func15 rfl (by kernel_rfl) ?_
  conv => whnf
  refine new_intro (o := _) (fun z h1 n_z le_z at_z ot_z => ?_)
  conv => whnf
  refine big_by (v := .agg S0.rs.toArray) (by kernel_rfl) ?_
  conv => whnf
  refine wr_intro (by exact storeA0 (z := .agg S0.rs.toArray) sizRs at_z rfl rfl (by decide +kernel)) (fun h2 at_h2 ot_h2 => ?_)
  try (conv => whnf)
  conv => whnf
  refine ⟨_, loadA0 aggRs sizRs at_h2 rfl, ?_⟩
  conv => whnf
  exact hk _ (Hp.le_st n_z le_z ot_h2)
theorem litmusOutcomes_x (hp : Pow h) (v : Value) (Ts : List Th) (hr : RdP h v Ts) (hmx : ∀ p ∈ Ts, p.L.length ≤ 2 ^ 62) (a b : Oc) (ha : ∀ x ∈ a.W, x < 18446744073709551616) (hb : ∀ x ∈ b.W, x < 18446744073709551616) (th : Int) (hk : ∀ h', h.le h' → K (.bool true) h') :
    X Tryd.prog 3 #[.agg #[v], .agg a.cs.toArray, .agg b.cs.toArray, zv th] h K := by
  have la := ocs_len a
  have lb := ocs_len b
  have hob_ := hr
  obtain ⟨base, cap, rfl, _, _⟩ := hob_
  refine fnv (args := _) mixed [(4, 4)] [] [15, 16, 20, 23] Tryd.func3 rfl (by kernel_rfl) ?_
  conv => whnf
  refine new_intro (o := rowO 29 a.cs) (fun ba h1 n_ba le_ba at_ba ot_ba => ?_)
  conv => whnf
  refine new_intro (o := rowO 29 b.cs) (fun bb h2 n_bb le_bb at_bb ot_bb => ?_)
  conv => whnf
  have a2 := le_bb _ _ at_ba
  have b2 := at_bb
  have le2 := Hp.le_trans le_ba le_bb
  clear at_ba ot_ba at_bb ot_bb
  refine ⟨fun h' => h' ba = some (rowO 29 a.cs) ∧ h' bb = some (rowO 29 b.cs), ⟨a2, b2⟩, ?_⟩
  conv => whnf
  refine ⟨_, loadA0 aggOc sizOc a2 la, ?_⟩
  conv => whnf
  refine ⟨_, loadA0 aggOc sizOc b2 lb, ?_⟩
  conv => whnf
  refine less_x a b ?_
  refine ⟨⟨a2, b2⟩, ?_⟩
  conv => whnf
  refine ⟨_, fun _ hh => loadA0 aggOc sizOc hh.1 la, ?_⟩
  conv => whnf
  refine ⟨_, fun _ hh => loadA0 aggOc sizOc hh.2 lb, ?_⟩
  conv => whnf
  refine rless_x a b ?_
  refine ⟨⟨a2, b2⟩, ?_⟩
  generalize ltO a b = q
  conv => whnf
  refine bsel_false ?_ ?_
  · cases q <;> rfl
  conv => whnf
  refine ⟨_, fun _ hh => loadA0 aggOc sizOc hh.1 la, ?_⟩
  conv => whnf
  refine show_x (hp.le le2) a ha th fun h3 le3 => ?_
  refine ⟨⟨le3 _ _ a2, le3 _ _ b2⟩, ?_⟩
  conv => whnf
  refine ⟨_, fun _ hh => loadA0 aggOc sizOc hh.1 la, ?_⟩
  conv => whnf
  refine rshow_x a ha th fun h4 le4 => ?_
  refine ⟨⟨le4 _ _ (le3 _ _ a2), le4 _ _ (le3 _ _ b2)⟩, ?_⟩
  have le04 := Hp.le_trans le2 (Hp.le_trans le3 le4)
  conv => whnf
  refine seq_true (rfl) ?_
  conv => whnf
  refine few_x _ Ts (hr.le le04) hmx ?_
  cases hfew : fewB Ts with
  | false =>
    conv => whnf
    refine live_x (hp.le le04) ?_
    conv => whnf
    exact hk _ le04
  | true =>
  have hfw : Ts.length < 10 ∧ sumL Ts Ts.length ≤ 9 := of_decide_eq_true hfew
  have hmx9 : ∀ p ∈ Ts, p.L.length ≤ 100 := fun p hp => by
    obtain ⟨i, hi⟩ := List.mem_iff_getElem?.1 hp
    have h1 := sumL_succ hi
    have h2 := sumL_mono (Ts := Ts) (show i + 1 ≤ Ts.length from (List.getElem?_eq_some_iff.1 hi).1)
    omega
  conv => whnf
  refine outcomes_x _ Ts (hr.le le04) (fun h5 le5 hc => ?_) (fun L' s' h5 hc hris hmem le5 hlen hrd => ?_)
  · have le05 := Hp.le_trans le04 le5
    conv => whnf
    refine to_x _ Ts (hr.le le05) (by omega) hmx9 fun v' Us h6 le6 hUs hrU => ?_
    conv => whnf
    refine rcheck_x v' Us hrU ?_
    rw [hUs]
    conv => whnf
    refine bsel_true ?_ ?_
    · simpa using hc
    conv => whnf
    refine live_x (hp.le (Hp.le_trans le05 le6)) ?_
    conv => whnf
    exact hk _ (Hp.le_trans le05 le6)
  · have le05 := Hp.le_trans le04 le5
    obtain ⟨c1, c2, c3, c4⟩ := chk_ok hc
    have c3' : ∀ U ∈ Ts.map (·.L), U.length ≤ 5 := c3
    have hob_ := hrd
    obtain ⟨sb, sc, rfl, fr⟩ := hob_
    conv => whnf
    refine to_x _ Ts (hr.le le05) (by omega) hmx9 fun v' Us h6 le6 hUs hrU => ?_
    conv => whnf
    refine rcheck_x v' Us hrU ?_
    rw [hUs, hc]
    conv => whnf
    refine to_x _ Ts (hr.le (Hp.le_trans le05 le6)) (by omega) hmx9 fun v2 Vs h7 le7 hVs hrV => ?_
    conv => whnf
    refine first_x fun h8 le8 => ?_
    conv => whnf
    have hVl : Vs.length = Ts.length := by have := congrArg List.length hVs; simpa using this
    have hVm : ∀ p ∈ Vs, p.L ∈ Ts.map (·.L) := fun p hp => by rw [← hVs]; exact List.mem_map.2 ⟨p, hp, rfl⟩
    refine from_x (by rw [hVl]; rw [List.length_map] at c1; exact c1) (fun p hp => c3 _ (hVm p hp)) (fun p hp => c4 _ (hVm p hp)) v2 _ S0 h8 (.slice none 0 0) [] _ (Nat.lt_succ_self _) S0_ok (hrV.le le8) (.inl ⟨rfl, rfl⟩) List.Pairwise.nil ?_ fun s2 L2 h9 le9 hrow hris2 hmem2 hlen2 => ?_
    · rw [hVs]
      have : 3 ^ left (Ts.map (·.L)) S0 ≤ 3 ^ 15 := Nat.pow_le_pow_right (by decide) (left_le c3 S0)
      have : (3 : Nat) ^ 15 ≤ 2 ^ 29 := by decide
      simp only [List.length_nil]; omega
    have hLL : L2 = L' := ris_eq hris2 hris fun o => by
      rw [hmem2, hmem, hVs]
      simp
    subst hLL
    have le09 := Hp.le_trans le05 (Hp.le_trans le6 (Hp.le_trans le7 (Hp.le_trans le8 le9)))
    have le59 := Hp.le_trans le6 (Hp.le_trans le7 (Hp.le_trans le8 le9))
    have hrd2 := hrow.rd
    have hob_ := hrd2
    obtain ⟨tb, tc, rfl, ft⟩ := hob_
    rw [List.length_map]
    conv => whnf
    refine bsel_false ?_ ?_
    · simp
    conv => whnf
    refine loop_at [11] [] (fun r vs cs h' => h9 = h' ∧ ∃ i : Nat, i ≤ L2.length ∧ r = L2.length - i ∧ vs = [.v (zv i)]) L2.length ⟨rfl, 0, by omega, by omega, rfl⟩ ?_
    rintro r vs cs mm bx _ ⟨rfl, i, hi, rfl, rfl⟩
    conv => whnf
    refine bsel_intro (fun q1 => ?_) (fun q1 => ?_) <;> try simp only [decide_eq_true_eq, decide_eq_false_iff_not, beq_iff_eq, beq_eq_false_iff_ne, ne_eq, Bool.not_eq_true', Bool.not_eq_false', bne_iff_ne, bne_eq_false_iff_eq, Bool.not_eq_true, Bool.not_eq_false, Bool.and_eq_true, Bool.or_eq_true, bs_size] at q1
    · have hiL : i < L2.length := by omega
      obtain ⟨x, hx⟩ : ∃ x, L2[i]? = some x := ⟨_, List.getElem?_eq_getElem hiL⟩
      have hxm : ((L2.map ocv)[i]?) = some (.agg x.cs.toArray) := by rw [List.getElem?_map, hx]; rfl
      obtain ⟨d1, rfl, l1⟩ := fr i _ hxm
      obtain ⟨d2, rfl, l2⟩ := ft i _ hxm
      have l1 : loadH Tryd.prog 29 h9 (d1.add (((i : Nat) : Int).toNat * 16)) = some (.agg x.cs.toArray) := by rw [Int.toNat_natCast]; exact loadH_le le59 l1
      have l2 : loadH Tryd.prog 32 h9 (d2.add (((i : Nat) : Int).toNat * 16)) = some (.agg x.cs.toArray) := by rw [Int.toNat_natCast]; exact l2
      conv => whnf
      first | refine need_intro (⟨by omega, by omega⟩) ?_ | refine must.mk (⟨by omega, by omega⟩) ?_
      conv => whnf
      refine ⟨_, l1, ?_⟩
      conv => whnf
      first | refine need_intro (⟨by omega, by omega⟩) ?_ | refine must.mk (⟨by omega, by omega⟩) ?_
      conv => whnf
      refine ⟨_, l2, ?_⟩
      conv => whnf
      refine must_via (b := true) (by kernel_rfl) ((eqO x x).trans (by simp)) ?_
      conv => whnf
      first | refine ov_i64 (by omega) ?_ | refine ov_u64 (by omega) ?_ | refine ov_i64 (by decide) ?_ | refine ov_u64 (by decide) ?_ | refine ov_u8 (by omega) ?_ | refine ov_i32 (by omega) ?_ | refine ov_u32 (by omega) ?_
      conv => whnf
      exact ⟨L2.length - (i + 1), by omega, rfl, i + 1, by omega, rfl, rfl⟩
    · conv => whnf
      refine live_x (hp.le le09) ?_
      conv => whnf
      exact hk _ le09
abbrev shDd : Sh := .struct [(.int .i64), (.int .i64), (.int .i64), (.int .i64)]
abbrev shTs : Sh := .struct [(.slice (.slice shDd))]
abbrev shOc : Sh := .struct [(.array 4 (.int .u64)), (.array 3 (.array 4 (.int .u64)))]
theorem dd_of {cs : List Value} (w : Wf h shDd cs) : ∃ d : Dd, d.ok ∧ cs = d.cs := by
  obtain ⟨a1, b1, rfl, w1, w⟩ := wfC (wfS w)
  obtain ⟨a2, b2, rfl, w2, w⟩ := wfC w
  obtain ⟨a3, b3, rfl, w3, w⟩ := wfC w
  obtain ⟨a4, b4, rfl, w4, w⟩ := wfC w
  obtain rfl := wfN w
  obtain ⟨x1, rfl, p1, q1⟩ := wfI w1
  obtain ⟨x2, rfl, p2, q2⟩ := wfI w2
  obtain ⟨x3, rfl, p3, q3⟩ := wfI w3
  obtain ⟨x4, rfl, p4, q4⟩ := wfI w4
  exact ⟨⟨x1, x2, x3, x4⟩, ⟨p1, q1, p2, q2, p3, q3, p4, q4⟩, rfl⟩
theorem ts_of {cs : List Value} (w : Wf h shTs cs) : ∃ (v : Value) (Ts : List Th), cs = [v] ∧ RdP h v Ts ∧ (∀ p ∈ Ts, p.L.length * 32 ≤ reachBytes) ∧ Ts.length * 24 ≤ reachBytes := by
  obtain ⟨a1, b1, rfl, w1, w⟩ := wfC (wfS w)
  obtain rfl := wfN w
  obtain ⟨a, cap, L, rfl, hl, hL1, hL⟩ := slice_of1 (P := Tryd.prog) (t := 71) (ok := fun p : Th => p.L.length * 32 ≤ reachBytes ∧ ∀ (j : Nat) (d : Dd), p.L[j]? = some d → ∃ b, p.a = some b ∧ loadH Tryd.prog 80 h (b.add (j * 4)) = some (.agg d.cs.toArray)) (val := Th.v) aggDl rfl (fun es hw => by
    obtain ⟨a, cap, L, rfl, hl, _, hL⟩ := slice_of (P := Tryd.prog) (t := 80) (n := 4) (ok := Dd.ok) (cells := Dd.cs) aggDd sizDd (by decide) rfl (fun es hw => dd_of hw) hw
    exact ⟨⟨a, cap, L⟩, ⟨by have := hl.2; rwa [show Sh.b shDd = 32 by decide +kernel] at this, hL⟩, rfl⟩) w1
  refine ⟨_, L, rfl, ⟨a, cap, rfl, fun i p hp => ?_, fun p hp j d hd => ?_⟩, fun p hp => (hL1 p hp).1, by have := hl.2; rwa [show Sh.b (.slice shDd) = 24 by decide +kernel] at this⟩
  · rw [Int.toNat_natCast]; exact hL i p hp
  · rw [Int.toNat_natCast]; exact (hL1 p hp).2 j d hd
theorem w4_of {cs : List Value} (w : Wf h (.array 4 (.int .u64)) cs) : ∃ l : List Nat, l.length = 4 ∧ (∀ x ∈ l, x < 18446744073709551616) ∧ cs = l.map uv := by
  obtain ⟨l, h1, h2, h3⟩ := wfA (ok := fun n : Nat => n < 18446744073709551616) (f := fun n => [uv n]) (fun cs hw => by
    obtain ⟨n, e, hn⟩ := wfU hw
    exact ⟨n, hn, e⟩) w
  exact ⟨l, h1, h2, by rw [h3]; simp [List.map_eq_flatMap]⟩
theorem oc_of {cs : List Value} (w : Wf h shOc cs) : ∃ o : Oc, (∀ x ∈ o.W, x < 18446744073709551616) ∧ cs = o.cs := by
  obtain ⟨a1, b1, rfl, w1, w⟩ := wfC (wfS w)
  obtain ⟨a2, b2, rfl, w2, w⟩ := wfC w
  obtain rfl := wfN w
  obtain ⟨l, h1, h2, rfl⟩ := w4_of w1
  obtain ⟨m, g1, g2, rfl⟩ := wfA (ok := fun q : List Nat => q.length = 4 ∧ ∀ x ∈ q, x < 18446744073709551616) (f := fun q => q.map uv) (fun cs hw => by
    obtain ⟨q, e1, e2, e3⟩ := w4_of hw
    exact ⟨q, ⟨e1, e2⟩, e3⟩) w2
  refine ⟨⟨l ++ m.flatten, ?_⟩, fun x hx => ?_, ?_⟩
  · match m, g1, g2 with
    | [x, y, z], _, g2 =>
      have := (g2 x (by simp)).1
      have := (g2 y (by simp)).1
      have := (g2 z (by simp)).1
      simp; omega
  · rcases List.mem_append.1 hx with hx | hx
    · exact h2 x hx
    · obtain ⟨q, hq, hx⟩ := List.mem_flatten.1 hx
      exact (g2 q hq).2 x hx
  · unfold Oc.cs
    simp [List.map_flatten, List.flatMap]
theorem litmusOutcomes_w (w : World) (hL : laidMetH Tryd.prog Rows.litmusOutcomesRow.laid w) {cs0 cs1 cs2 cs3 : List Value} (w0 : Wf (whole w) shTs cs0) (l0 : cs0.length = Sh.n shTs) (w1 : Wf (whole w) shOc cs1) (l1 : cs1.length = Sh.n shOc) (w2 : Wf (whole w) shOc cs2) (l2 : cs2.length = Sh.n shOc) (w3 : Wf (whole w) (.int .i64) cs3) (l3 : cs3.length = Sh.n (.int .i64)) :
    X Tryd.prog 3 #[Sh.v shTs cs0, Sh.v shOc cs1, Sh.v shOc cs2, Sh.v (.int .i64) cs3] (whole w) fun v h' => v = .bool true ∧ (whole w).le h' := by
  obtain ⟨v, Ts, rfl, hr, hmx, _⟩ := ts_of w0
  obtain ⟨a, ha, rfl⟩ := oc_of w1
  obtain ⟨b, hb, rfl⟩ := oc_of w2
  obtain ⟨n, rfl, _⟩ := wfI w3
  exact litmusOutcomes_x (pow_of hL (by rfl)) v Ts hr (fun p hp => by have := hmx p hp; unfold reachBytes at this; omega) a b ha hb n fun h' hle => ⟨rfl, hle⟩
end
end Go.Proofs.YtciagjfemgfhgaaDoor
