/-
  Each order of a test comes to one of its outcomes.
-/
import Derived.Test.YtciagjfemgfhgaaDoorLtQ
namespace Go.Proofs.YtciagjfemgfhgaaDoor
set_option linter.unusedSimpArgs false
set_option linter.unusedVariables false
open Go Go.Mid Go.RowKit
attribute [local irreducible] mid
/-- What a state that was come to says of the first. -/
def From0 (T : List (List Dd)) (s : St) : Prop := ∀ w, OutR T s w → OutR T S0 w
theorem From0.step {T : List (List Dd)} {s : St} {i : Nat} {d : Dd} (f : From0 T s) (h : nxt T s i = some d) : From0 T (doS s i d) := fun w hw => f w (outS_step h hw)
theorem nxt_A {T : List (List Dd)} {s : St} {i j : Nat} {d : Dd} (hj : j ≠ i) : nxt T (doS s i d) j = nxt T s j := by
  unfold nxt
  rw [doS_A, List.getD_eq_getElem?_getD, List.getElem?_set_ne (Ne.symm hj), List.getD_eq_getElem?_getD]
theorem tmod_nat {p n : Nat} (h : 0 < n) : ∃ k : Nat, ((p : Int)).tmod (n : Int) = k ∧ k < n :=
  ⟨p % n, by rw [Int.tmod_eq_emod_of_nonneg (by omega)]; rfl, Nat.mod_lt _ h⟩
theorem ris_one {l : List Oc} (h : ∀ a ∈ l, ∀ b ∈ l, a = b) (hr : Ris l) (hne : l ≠ []) : l.length = 1 := by
  match l, hne with
  | [a], _ => rfl
  | a :: b :: r, _ =>
    have e := h a (by simp) b (by simp)
    have := (List.pairwise_cons.1 hr).1 b (by simp)
    rw [e, ltO_irr] at this; cases this
theorem ris_at {l : List Oc} (hr : Ris l) {i j : Nat} {a b : Oc} (hij : i < j) (ha : l[i]? = some a) (hb : l[j]? = some b) : ltO a b = true := by
  obtain ⟨h1, e1⟩ := List.getElem?_eq_some_iff.1 ha
  obtain ⟨h2, e2⟩ := List.getElem?_eq_some_iff.1 hb
  have := List.pairwise_iff_getElem.1 hr i j h1 h2 hij
  rw [e1, e2] at this; exact this
section
set_option maxHeartbeats 8000000
set_option maxRecDepth 10000
variable {h : Hp} {K : Value → Hp → Prop}
theorem litmusOne_x (hp : Pow h) (v : Value) (Ts : List Th) (hr : RdP h v Ts) (hmx : ∀ p ∈ Ts, p.L.length * 32 ≤ reachBytes) (hTs : Ts.length * 24 ≤ reachBytes) (pv : Value) (ps : List UInt8) (hps : Rd Tryd.prog 5 1 h pv (ps.map fun b => Value.int .u8 b.toNat)) (hk : ∀ h', h.le h' → K (.bool true) h') :
    X Tryd.prog 4 #[.agg #[v], pv] h K := by
  unfold reachBytes at hmx hTs
  have hob_ := hr
  obtain ⟨base, cap, rfl, _, _⟩ := hob_
  have hob_ := hps
  obtain ⟨pb, pc, rfl, pf⟩ := hob_
  rw [List.length_map]
  refine fnv (args := _) mixed [(2, 2)] [] [] Tryd.func4 rfl (by kernel_rfl) ?_
  conv => whnf
  refine to_xB _ Ts hr (by omega) (fun p hp => by have := hmx p hp; omega) fun v' Us h1 le1 hUs hrU => ?_
  have hob_ := hrU
  obtain ⟨ub, uc, rfl, hf1, hf2⟩ := hob_
  have hUl : Us.length = Ts.length := by have := congrArg List.length hUs; simpa using this
  conv => whnf
  refine few_x _ Ts (hr.le le1) (fun p hp => by have := hmx p hp; omega) ?_
  cases hfew : fewB Ts with
  | false =>
    conv => whnf
    refine live_x (hp.le le1) ?_
    conv => whnf
    exact hk _ le1
  | true =>
  have hfw : Ts.length < 10 ∧ sumL Ts Ts.length ≤ 9 := of_decide_eq_true hfew
  conv => whnf
  refine bsel_intro (fun q1 => ?_) (fun q1 => ?_) <;> try simp only [decide_eq_true_eq, decide_eq_false_iff_not, beq_iff_eq, beq_eq_false_iff_ne, ne_eq, Bool.not_eq_true', Bool.not_eq_false', bne_iff_ne, bne_eq_false_iff_eq, Bool.not_eq_true, Bool.not_eq_false, Bool.and_eq_true, Bool.or_eq_true, bs_size] at q1
  · conv => whnf
    refine live_x (hp.le le1) ?_
    conv => whnf
    exact hk _ le1
  conv => whnf
  refine rcheck_x _ Us hrU ?_
  rw [hUs]
  conv => whnf
  refine bsel_intro (fun q2 => ?_) (fun q2 => ?_) <;> try simp only [decide_eq_true_eq, decide_eq_false_iff_not, beq_iff_eq, beq_eq_false_iff_ne, ne_eq, Bool.not_eq_true', Bool.not_eq_false', bne_iff_ne, bne_eq_false_iff_eq, Bool.not_eq_true, Bool.not_eq_false, Bool.and_eq_true, Bool.or_eq_true, bs_size] at q2
  · conv => whnf
    refine live_x (hp.le le1) ?_
    conv => whnf
    exact hk _ le1
  obtain ⟨c1, c2, c3, c4⟩ := chk_ok q2
  rw [List.length_map] at c1 c2
  conv => whnf
  refine outcomes_x _ Ts (hr.le le1) (fun h5 le5 hc => absurd q2 hc) (fun L' s' h2 hc hris hmem le2 hlen hrd => ?_)
  have hob_ := hrd
  obtain ⟨sb, sc, rfl, fr⟩ := hob_
  rw [List.length_map]
  conv => whnf
  refine first_x fun h3 le3 => ?_
  conv => whnf
  refine new_intro (o := _) (fun bs h4 n_bs le_bs at_bs ot_bs => ?_)
  conv => whnf
  refine wr_intro (by exact storeA0 (z := .agg S0.rs.toArray) sizRs at_bs rfl rfl (by decide +kernel)) (fun h5 at_h5 ot_h5 => ?_)
  try (conv => whnf)
  have n_bs0 := n_bs
  have bs5 : h5 bs = some (rowO 47 S0.rs) := at_h5
  have k5 : h3.le h5 := Hp.le_st n_bs le_bs ot_h5
  have le13 := Hp.le_trans le2 le3
  have le03 := Hp.le_trans le1 le13
  have hV : ∀ (i : Nat) (p : Th), Us[i]? = some p → (Ts.map (·.L))[i]? = some p.L := fun i p hp => by rw [← hUs, List.getElem?_map, hp]; rfl
  have hTl : (Ts.map (·.L)).length = Us.length := by rw [List.length_map, hUl]
  generalize hTT : Ts.map (·.L) = T at *
  have hf1 : ∀ (i : Nat) (p : Th), Us[i]? = some p → ∃ b, ub = some b ∧ loadH Tryd.prog 51 h3 (b.add (((i : Nat) : Int).toNat * 1)) = some p.v := fun i p hp => by
    obtain ⟨b, eb, l⟩ := hf1 i p hp; exact ⟨b, eb, loadH_le le13 l⟩
  have hf2 : ∀ p ∈ Us, ∀ (j : Nat) (d : Dd), p.L[j]? = some d → ∃ b, p.a = some b ∧ loadH Tryd.prog 54 h3 (b.add (((j : Nat) : Int).toNat * 4)) = some (.agg d.cs.toArray) := fun p hp j d hd => by
    obtain ⟨b, eb, l⟩ := hf2 p hp j d hd; exact ⟨b, eb, loadH_le le13 l⟩
  have pf : ∀ (i : Nat) (x : UInt8), ps[i]? = some x → ∃ b, pb = some b ∧ loadH Tryd.prog 5 h3 (b.add (((i : Nat) : Int).toNat * 1)) = some (.int .u8 x.toNat) := fun i x hx => by
    obtain ⟨b, eb, l⟩ := pf i (.int .u8 x.toNat) (by rw [List.getElem?_map, hx]; rfl)
    exact ⟨b, eb, by rw [Int.toNat_natCast]; exact loadH_le le03 l⟩
  have fr : ∀ (i : Nat) (x : Oc), L'[i]? = some x → ∃ b, sb = some b ∧ loadH Tryd.prog 29 h3 (b.add (((i : Nat) : Int).toNat * 16)) = some (.agg x.cs.toArray) := fun i x hx => by
    obtain ⟨b, eb, l⟩ := fr i (ocv x) (by rw [List.getElem?_map, hx]; rfl)
    exact ⟨b, eb, by rw [Int.toNat_natCast]; exact loadH_le le3 l⟩
  clear at_bs ot_bs le_bs n_bs at_h5 ot_h5 le13 le2 le3 le1 hrU hr hps hUs
  have n_bs : h3 bs = none := n_bs0
  conv => whnf
  -- what a look at a thread's next deed knows
  have hfacts : ∀ (s : St) (kn : Nat) (pL : List Dd), s.ok → T[kn]? = some pL → ∃ an : Nat, s.A[kn]? = some (an : Int) ∧ (∀ d, pL[an]? = some d → nxt T s kn = some d ∧ deedE d = 0 ∧ (doS s kn d).ok ∧ left T (doS s kn d) + 1 = left T s) ∧ (pL.length ≤ an → nxt T s kn = none) ∧ an ≤ 1000 ∧ kn < 3 := fun s kn pL hs hT => by
    have hk3 : kn < 3 := by have := (List.getElem?_eq_some_iff.1 hT).1; rw [hTl] at this; omega
    have ga := getD_at (l := s.A) 0 (show kn < s.A.length by rw [hs.a]; omega)
    have ba := hs.a0 _ (List.mem_of_getElem? ga)
    have h5 := c3 pL (List.mem_of_getElem? hT)
    refine ⟨(s.A.getD kn 0).toNat, by rw [ga, Int.toNat_of_nonneg ba.1], fun d hd => ?_, fun hd => nxt_none hT hd, by omega, hk3⟩
    have hd0 := c4 pL (List.mem_of_getElem? hT) d (List.mem_of_getElem? hd)
    have hl := (List.getElem?_eq_some_iff.1 hd).1
    exact ⟨nxt_some hT hd, hd0, doS_ok hs hk3 hd0 (by omega), left_step hs hk3 hT hd⟩
  have hsB : ∀ s : St, s.ok → (sub1 s.B).length = 3 := fun s hs => by rw [sub1, List.length_map]; exact hs.b
  have hrl : ∀ s : St, s.ok → s.rs.length = 22 := fun s hs => c3_len hs.a (hsB s hs) hs.w
  refine loop_at [8] [] (fun r vs _ h' => ∃ (i : Nat) (s : St), i ≤ ps.length ∧ r = ps.length - i ∧ vs = [.v (zv i)] ∧ s.ok ∧ From0 T s ∧ h3.le h' ∧ h' bs = some (rowO 47 s.rs)) ps.length ⟨0, S0, by omega, by omega, rfl, S0_ok, fun w hw => hw, k5, bs5⟩ ?_
  clear k5 bs5
  rintro r vs cs mm bx h7 ⟨i, s, hi, rfl, rfl, hs, hF, k7, hbs⟩
  conv => whnf
  refine bsel_intro (fun q3 => ?_) (fun q3 => ?_) <;> try simp only [decide_eq_true_eq, decide_eq_false_iff_not, beq_iff_eq, beq_eq_false_iff_ne, ne_eq, Bool.not_eq_true', Bool.not_eq_false', bne_iff_ne, bne_eq_false_iff_eq, Bool.not_eq_true, Bool.not_eq_false, Bool.and_eq_true, Bool.or_eq_true, bs_size] at q3
  · have hiP : i < ps.length := by omega
    obtain ⟨x, hx⟩ : ∃ x, ps[i]? = some x := ⟨_, List.getElem?_eq_getElem hiP⟩
    obtain ⟨b0, rfl, l0⟩ := pf i x hx
    have hx8 := x.toNat_lt
    obtain ⟨kn, hkn, hkU⟩ := tmod_nat (p := x.toNat) (show 0 < Us.length by omega)
    conv => whnf
    first | refine need_intro (⟨by omega, by omega⟩) ?_ | refine must.mk (⟨by omega, by omega⟩) ?_
    conv => whnf
    refine ⟨_, loadH_le k7 l0, ?_⟩
    conv => whnf
    first | refine ov_i64 (by omega) ?_ | refine ov_u64 (by omega) ?_ | refine ov_i64 (by decide) ?_ | refine ov_u64 (by decide) ?_ | refine ov_u8 (by omega) ?_ | refine ov_i32 (by omega) ?_ | refine ov_u32 (by omega) ?_
    conv => whnf
    refine need_intro (by omega) ?_
    rw [hkn]
    obtain ⟨⟨pa, pc, pL⟩, hp9⟩ : ∃ p, Us[kn]? = some p := ⟨_, List.getElem?_eq_getElem hkU⟩
    obtain ⟨b1, rfl, l1⟩ := hf1 kn _ hp9
    have g1 := hf2 _ (List.mem_of_getElem? hp9)
    have hTp := hV _ _ hp9
    simp only [] at g1 hTp
    obtain ⟨an, ga, hdo, hno, han, hk3⟩ := hfacts s kn pL hs hTp
    have ata : ((⟨bs, 0, none⟩ : Addr).add 0).add (((kn : Nat) : Int).toNat * 1) = ⟨bs, kn, none⟩ := by simp [addr_add]
    have gc : s.rs[kn]? = some (zv an) := c3_a ga
    conv => whnf
    first | refine need_intro (⟨by omega, by omega⟩) ?_ | refine must.mk (⟨by omega, by omega⟩) ?_
    conv => whnf
    refine ⟨_, loadCA ata aggI hbs gc, ?_⟩
    conv => whnf
    first | refine need_intro (⟨by omega, by omega⟩) ?_ | refine must.mk (⟨by omega, by omega⟩) ?_
    conv => whnf
    refine ⟨_, loadH_le k7 l1, ?_⟩
    conv => whnf
    refine bsel_intro (fun q4 => ?_) (fun q4 => ?_) <;> try simp only [decide_eq_true_eq, decide_eq_false_iff_not, beq_iff_eq, beq_eq_false_iff_ne, ne_eq, Bool.not_eq_true', Bool.not_eq_false', bne_iff_ne, bne_eq_false_iff_eq, Bool.not_eq_true, Bool.not_eq_false, Bool.and_eq_true, Bool.or_eq_true, bs_size] at q4
    · have hj : an < pL.length := by omega
      obtain ⟨d, hdd⟩ : ∃ d, pL[an]? = some d := ⟨_, List.getElem?_eq_getElem hj⟩
      obtain ⟨b2, rfl, l2⟩ := g1 an d hdd
      obtain ⟨hnd, hde, hok2, hst⟩ := hdo d hdd
      conv => whnf
      refine ⟨_, loadA0 aggRs sizRs hbs (hrl s hs), ?_⟩
      conv => whnf
      first | refine need_intro (⟨by omega, by omega⟩) ?_ | refine must.mk (⟨by omega, by omega⟩) ?_
      conv => whnf
      refine ⟨_, loadH_le k7 l1, ?_⟩
      conv => whnf
      first | refine need_intro (⟨by omega, by omega⟩) ?_ | refine must.mk (⟨by omega, by omega⟩) ?_
      conv => whnf
      refine ⟨_, loadCA ata aggI hbs gc, ?_⟩
      conv => whnf
      first | refine need_intro (⟨by omega, by omega⟩) ?_ | refine must.mk (⟨by omega, by omega⟩) ?_
      conv => whnf
      refine ⟨_, loadH_le k7 l2, ?_⟩
      conv => whnf
      refine rdo_x s hs kn (by omega) d hde ?_
      refine ⟨trivial, ?_⟩
      conv => whnf
      refine wr_intro (by exact storeA0 (z := .agg (doS s kn d).rs.toArray) sizRs hbs (hrl s hs) (hrl _ hok2) c3_one) (fun h8 at_h8 ot_h8 => ?_)
      try (conv => whnf)
      have k8 : h3.le h8 := Hp.le_st n_bs k7 ot_h8
      have hb8 : h8 bs = some (rowO 47 (doS s kn d).rs) := at_h8
      refine ⟨trivial, ?_⟩
      conv => whnf
      first | refine ov_i64 (by omega) ?_ | refine ov_u64 (by omega) ?_ | refine ov_i64 (by decide) ?_ | refine ov_u64 (by decide) ?_ | refine ov_u8 (by omega) ?_ | refine ov_i32 (by omega) ?_ | refine ov_u32 (by omega) ?_
      conv => whnf
      exact ⟨ps.length - (i + 1), by omega, i + 1, _, by omega, rfl, rfl, hok2, hF.step hnd, k8, hb8⟩
    · conv => whnf
      first | refine ov_i64 (by omega) ?_ | refine ov_u64 (by omega) ?_ | refine ov_i64 (by decide) ?_ | refine ov_u64 (by decide) ?_ | refine ov_u8 (by omega) ?_ | refine ov_i32 (by omega) ?_ | refine ov_u32 (by omega) ?_
      conv => whnf
      exact ⟨ps.length - (i + 1), by omega, i + 1, s, by omega, rfl, rfl, hs, hF, k7, hbs⟩
  clear hi q3
  conv => whnf
  refine loop_at [10] [] (fun r vs _ h' => ∃ (kn : Nat) (s : St), kn ≤ Us.length ∧ r = Us.length - kn ∧ vs = [.v (zv kn)] ∧ s.ok ∧ From0 T s ∧ (∀ j, j < kn → nxt T s j = none) ∧ h3.le h' ∧ h' bs = some (rowO 47 s.rs)) Us.length ⟨0, s, by omega, by omega, rfl, hs, hF, fun j hj => by omega, k7, hbs⟩ ?_
  clear hs hF k7 hbs
  rintro r vs cs mm bx h9 ⟨kn, s, hkn, rfl, rfl, hs, hF, hdone, k9, hbs⟩
  conv => whnf
  refine bsel_intro (fun q5 => ?_) (fun q5 => ?_) <;> try simp only [decide_eq_true_eq, decide_eq_false_iff_not, beq_iff_eq, beq_eq_false_iff_ne, ne_eq, Bool.not_eq_true', Bool.not_eq_false', bne_iff_ne, bne_eq_false_iff_eq, Bool.not_eq_true, Bool.not_eq_false, Bool.and_eq_true, Bool.or_eq_true, bs_size] at q5
  · have hkU : kn < Us.length := by omega
    conv => whnf
    refine loop_at [] [] (fun r vs _ h' => ∃ s : St, r = left T s ∧ vs = [] ∧ s.ok ∧ From0 T s ∧ (∀ j, j < kn → nxt T s j = none) ∧ h3.le h' ∧ h' bs = some (rowO 47 s.rs)) (left T s) ⟨s, rfl, rfl, hs, hF, hdone, k9, hbs⟩ ?_
    clear hs hF hdone k9 hbs
    rintro r vs cs mm bx h7 ⟨s, rfl, rfl, hs, hF, hdone, k7, hbs⟩
    obtain ⟨⟨pa, pc, pL⟩, hp9⟩ : ∃ p, Us[kn]? = some p := ⟨_, List.getElem?_eq_getElem hkU⟩
    obtain ⟨b1, rfl, l1⟩ := hf1 kn _ hp9
    have g1 := hf2 _ (List.mem_of_getElem? hp9)
    have hTp := hV _ _ hp9
    simp only [] at g1 hTp
    obtain ⟨an, ga, hdo, hno, han, hk3⟩ := hfacts s kn pL hs hTp
    have ata : ((⟨bs, 0, none⟩ : Addr).add 0).add (((kn : Nat) : Int).toNat * 1) = ⟨bs, kn, none⟩ := by simp [addr_add]
    have gc : s.rs[kn]? = some (zv an) := c3_a ga
    conv => whnf
    first | refine need_intro (⟨by omega, by omega⟩) ?_ | refine must.mk (⟨by omega, by omega⟩) ?_
    conv => whnf
    refine ⟨_, loadCA ata aggI hbs gc, ?_⟩
    conv => whnf
    first | refine need_intro (⟨by omega, by omega⟩) ?_ | refine must.mk (⟨by omega, by omega⟩) ?_
    conv => whnf
    refine ⟨_, loadH_le k7 l1, ?_⟩
    conv => whnf
    refine bsel_intro (fun q4 => ?_) (fun q4 => ?_) <;> try simp only [decide_eq_true_eq, decide_eq_false_iff_not, beq_iff_eq, beq_eq_false_iff_ne, ne_eq, Bool.not_eq_true', Bool.not_eq_false', bne_iff_ne, bne_eq_false_iff_eq, Bool.not_eq_true, Bool.not_eq_false, Bool.and_eq_true, Bool.or_eq_true, bs_size] at q4
    · have hj : an < pL.length := by omega
      obtain ⟨d, hdd⟩ : ∃ d, pL[an]? = some d := ⟨_, List.getElem?_eq_getElem hj⟩
      obtain ⟨b2, rfl, l2⟩ := g1 an d hdd
      obtain ⟨hnd, hde, hok2, hst⟩ := hdo d hdd
      conv => whnf
      refine ⟨_, loadA0 aggRs sizRs hbs (hrl s hs), ?_⟩
      conv => whnf
      first | refine need_intro (⟨by omega, by omega⟩) ?_ | refine must.mk (⟨by omega, by omega⟩) ?_
      conv => whnf
      refine ⟨_, loadH_le k7 l1, ?_⟩
      conv => whnf
      first | refine need_intro (⟨by omega, by omega⟩) ?_ | refine must.mk (⟨by omega, by omega⟩) ?_
      conv => whnf
      refine ⟨_, loadCA ata aggI hbs gc, ?_⟩
      conv => whnf
      first | refine need_intro (⟨by omega, by omega⟩) ?_ | refine must.mk (⟨by omega, by omega⟩) ?_
      conv => whnf
      refine ⟨_, loadH_le k7 l2, ?_⟩
      conv => whnf
      refine rdo_x s hs kn (by omega) d hde ?_
      refine ⟨trivial, ?_⟩
      conv => whnf
      refine wr_intro (by exact storeA0 (z := .agg (doS s kn d).rs.toArray) sizRs hbs (hrl s hs) (hrl _ hok2) c3_one) (fun h8 at_h8 ot_h8 => ?_)
      try (conv => whnf)
      have k8 : h3.le h8 := Hp.le_st n_bs k7 ot_h8
      have hb8 : h8 bs = some (rowO 47 (doS s kn d).rs) := at_h8
      refine ⟨trivial, ?_⟩
      conv => whnf
      exact ⟨left T (doS s kn d), by omega, _, rfl, rfl, hok2, hF.step hnd, fun j hj => by rw [nxt_A (by omega)]; exact hdone j hj, k8, hb8⟩
    · have hn9 := hno (by omega)
      conv => whnf
      first | refine ov_i64 (by omega) ?_ | refine ov_u64 (by omega) ?_ | refine ov_i64 (by decide) ?_ | refine ov_u64 (by decide) ?_ | refine ov_u8 (by omega) ?_ | refine ov_i32 (by omega) ?_ | refine ov_u32 (by omega) ?_
      conv => whnf
      refine ⟨Us.length - (kn + 1), by omega, kn + 1, s, by omega, rfl, rfl, hs, hF, fun j hj => ?_, k7, hbs⟩
      by_cases hjk : j = kn
      · rw [hjk]; exact hn9
      · exact hdone j (by omega)
  have hkn2 : kn = Us.length := by omega
  subst hkn2
  have hs0 : ∀ j, j < T.length → nxt T s j = none := fun j hj => hdone j (by omega)
  obtain ⟨o, ho⟩ : ∃ o : Oc, o.W = s.W := ⟨⟨s.W, hs.w⟩, rfl⟩
  have hoo : o ∈ L' := (hmem o).2 (by unfold OutS; rw [ho]; exact hF _ (outS_done hs0))
  have hoW : ∀ h', h' bs = some (rowO 47 s.rs) → loadH Tryd.prog 32 h' ((⟨bs, 0, none⟩ : Addr).add 6) = some (.agg o.cs.toArray) := fun h' hb => by
    have : o.cs = s.W.map uv := by unfold Oc.cs; rw [ho]
    rw [this]
    exact loadP aggRo sizRo hb (c3_W hs.a (hsB s hs) hs.w) (by rw [List.length_map, hs.w])
  have hoW := hoW _ hbs
  conv => whnf
  have hl24 : L'.length ≤ 16777216 := by omega
  have lek := Hp.le_trans le03 k9
  refine loop_at [12, 11] [] (fun r vs _ h' => h9 = h' ∧ ∃ (i : Nat) (f : Bool), i ≤ L'.length ∧ r = L'.length - i ∧ vs = [.v (zv i), .v (.bool f)] ∧ (f = true ↔ ∃ j, j < i ∧ L'[j]? = some o)) L'.length ⟨rfl, 0, false, by omega, by omega, rfl, by simp⟩ ?_
  rintro r vs cs mm bx _ ⟨rfl, i, f, hi, rfl, rfl, hf⟩
  conv => whnf
  refine bsel_intro (fun q6 => ?_) (fun q6 => ?_) <;> try simp only [decide_eq_true_eq, decide_eq_false_iff_not, beq_iff_eq, beq_eq_false_iff_ne, ne_eq, Bool.not_eq_true', Bool.not_eq_false', bne_iff_ne, bne_eq_false_iff_eq, Bool.not_eq_true, Bool.not_eq_false, Bool.and_eq_true, Bool.or_eq_true, bs_size] at q6
  · have hiL : i < L'.length := by omega
    obtain ⟨x, hx⟩ : ∃ x, L'[i]? = some x := ⟨_, List.getElem?_eq_getElem hiL⟩
    obtain ⟨e1, rfl, m1⟩ := fr i x hx
    have m1 := loadH_le k9 m1
    cases f with
    | true =>
      have hf2 : true = true ↔ ∃ j, j < i + 1 ∧ L'[j]? = some o := by
        refine ⟨fun _ => ?_, fun _ => rfl⟩
        obtain ⟨j, h1, h2⟩ := hf.1 rfl
        exact ⟨j, by omega, h2⟩
      conv => whnf
      refine bsel_intro (fun q7 => ?_) (fun q7 => ?_) <;> try simp only [decide_eq_true_eq, decide_eq_false_iff_not, beq_iff_eq, beq_eq_false_iff_ne, ne_eq, Bool.not_eq_true', Bool.not_eq_false', bne_iff_ne, bne_eq_false_iff_eq, Bool.not_eq_true, Bool.not_eq_false, Bool.and_eq_true, Bool.or_eq_true, bs_size] at q7
      · obtain ⟨y, hy⟩ : ∃ y, L'[i - 1]? = some y := ⟨_, List.getElem?_eq_getElem (by omega)⟩
        obtain ⟨e2, ee, m2⟩ := fr (i - 1) y hy
        cases ee
        have hlt := ris_at hris (show i - 1 < i by omega) hy hx
        have m2 := loadH_le k9 m2
        rw [show ((i - 1 : Nat) : Int) = (i : Int) - 1 by omega] at m2
        conv => whnf
        first | refine ov_i64 (by omega) ?_ | refine ov_u64 (by omega) ?_ | refine ov_i64 (by decide) ?_ | refine ov_u64 (by decide) ?_ | refine ov_u8 (by omega) ?_ | refine ov_i32 (by omega) ?_ | refine ov_u32 (by omega) ?_
        conv => whnf
        first | refine need_intro (⟨by omega, by omega⟩) ?_ | refine must.mk (⟨by omega, by omega⟩) ?_
        conv => whnf
        refine ⟨_, m2, ?_⟩
        conv => whnf
        first | refine need_intro (⟨by omega, by omega⟩) ?_ | refine must.mk (⟨by omega, by omega⟩) ?_
        conv => whnf
        refine ⟨_, m1, ?_⟩
        conv => whnf
        refine less_x y x ?_
        rw [hlt]
        refine ⟨trivial, ?_⟩
        conv => whnf
        first | refine ov_i64 (by omega) ?_ | refine ov_u64 (by omega) ?_ | refine ov_i64 (by decide) ?_ | refine ov_u64 (by decide) ?_ | refine ov_u8 (by omega) ?_ | refine ov_i32 (by omega) ?_ | refine ov_u32 (by omega) ?_
        conv => whnf
        exact ⟨L'.length - (i + 1), by omega, rfl, i + 1, _, by omega, rfl, rfl, hf2⟩
      · conv => whnf
        first | refine ov_i64 (by omega) ?_ | refine ov_u64 (by omega) ?_ | refine ov_i64 (by decide) ?_ | refine ov_u64 (by decide) ?_ | refine ov_u8 (by omega) ?_ | refine ov_i32 (by omega) ?_ | refine ov_u32 (by omega) ?_
        conv => whnf
        exact ⟨L'.length - (i + 1), by omega, rfl, i + 1, _, by omega, rfl, rfl, hf2⟩
    | false =>
      have hf2 : decide (x = o) = true ↔ ∃ j, j < i + 1 ∧ L'[j]? = some o := by
        rw [decide_eq_true_eq]
        constructor
        · intro e; exact ⟨i, by omega, by rw [hx, e]⟩
        · rintro ⟨j, h1, h2⟩
          by_cases hji : j = i
          · rw [hji, hx] at h2; exact Option.some.inj h2
          · exact absurd (hf.2 ⟨j, by omega, h2⟩) (by decide)
      conv => whnf
      first | refine need_intro (⟨by omega, by omega⟩) ?_ | refine must.mk (⟨by omega, by omega⟩) ?_
      conv => whnf
      refine ⟨_, m1, ?_⟩
      conv => whnf
      refine ⟨_, hoW, ?_⟩
      conv => whnf
      refine must_via (b := decide (x = o)) (by kernel_rfl) (eqO x o) ?_
      conv => whnf
      refine bsel_intro (fun q7 => ?_) (fun q7 => ?_) <;> try simp only [decide_eq_true_eq, decide_eq_false_iff_not, beq_iff_eq, beq_eq_false_iff_ne, ne_eq, Bool.not_eq_true', Bool.not_eq_false', bne_iff_ne, bne_eq_false_iff_eq, Bool.not_eq_true, Bool.not_eq_false, Bool.and_eq_true, Bool.or_eq_true, bs_size] at q7
      · obtain ⟨y, hy⟩ : ∃ y, L'[i - 1]? = some y := ⟨_, List.getElem?_eq_getElem (by omega)⟩
        obtain ⟨e2, ee, m2⟩ := fr (i - 1) y hy
        cases ee
        have hlt := ris_at hris (show i - 1 < i by omega) hy hx
        have m2 := loadH_le k9 m2
        rw [show ((i - 1 : Nat) : Int) = (i : Int) - 1 by omega] at m2
        conv => whnf
        first | refine ov_i64 (by omega) ?_ | refine ov_u64 (by omega) ?_ | refine ov_i64 (by decide) ?_ | refine ov_u64 (by decide) ?_ | refine ov_u8 (by omega) ?_ | refine ov_i32 (by omega) ?_ | refine ov_u32 (by omega) ?_
        conv => whnf
        first | refine need_intro (⟨by omega, by omega⟩) ?_ | refine must.mk (⟨by omega, by omega⟩) ?_
        conv => whnf
        refine ⟨_, m2, ?_⟩
        conv => whnf
        first | refine need_intro (⟨by omega, by omega⟩) ?_ | refine must.mk (⟨by omega, by omega⟩) ?_
        conv => whnf
        refine ⟨_, m1, ?_⟩
        conv => whnf
        refine less_x y x ?_
        rw [hlt]
        refine ⟨trivial, ?_⟩
        conv => whnf
        first | refine ov_i64 (by omega) ?_ | refine ov_u64 (by omega) ?_ | refine ov_i64 (by decide) ?_ | refine ov_u64 (by decide) ?_ | refine ov_u8 (by omega) ?_ | refine ov_i32 (by omega) ?_ | refine ov_u32 (by omega) ?_
        conv => whnf
        exact ⟨L'.length - (i + 1), by omega, rfl, i + 1, _, by omega, rfl, rfl, hf2⟩
      · conv => whnf
        first | refine ov_i64 (by omega) ?_ | refine ov_u64 (by omega) ?_ | refine ov_i64 (by decide) ?_ | refine ov_u64 (by decide) ?_ | refine ov_u8 (by omega) ?_ | refine ov_i32 (by omega) ?_ | refine ov_u32 (by omega) ?_
        conv => whnf
        exact ⟨L'.length - (i + 1), by omega, rfl, i + 1, _, by omega, rfl, rfl, hf2⟩
  · have hin : i = L'.length := by omega
    subst hin
    have hft : f = true := by
      obtain ⟨j, hj⟩ := List.mem_iff_getElem?.1 hoo
      exact hf.2 ⟨j, (List.getElem?_eq_some_iff.1 hj).1, hj⟩
    subst hft
    have hone : ¬ (1 < Us.length) → L'.length = 1 := fun h1 => ris_one (fun a ha b hb => Oc.ext (out_one (by omega) ((hmem a).1 ha) ((hmem b).1 hb))) hris (fun e => by rw [e] at hoo; cases hoo)
    conv => whnf
    refine bsel_intro (fun q8 => ?_) (fun q8 => ?_) <;> try simp only [decide_eq_true_eq, decide_eq_false_iff_not, beq_iff_eq, beq_eq_false_iff_ne, ne_eq, Bool.not_eq_true', Bool.not_eq_false', bne_iff_ne, bne_eq_false_iff_eq, Bool.not_eq_true, Bool.not_eq_false, Bool.and_eq_true, Bool.or_eq_true, bs_size] at q8
    · conv => whnf
      refine live_x (hp.le lek) ?_
      conv => whnf
      exact hk _ lek
    · have h1 := hone (by omega)
      conv => whnf
      refine bsel_true ?_ ?_
      · simp; omega
      conv => whnf
      refine live_x (hp.le lek) ?_
      conv => whnf
      exact hk _ lek
theorem aggU8r : isAggT Tryd.prog 5 = some false := by kernel_rfl
theorem litmusOne_w (w : World) (hL : laidMetH Tryd.prog Rows.litmusOneRow.laid w) {cs0 cs1 : List Value} (w0 : Wf (whole w) shTs cs0) (l0 : cs0.length = Sh.n shTs) (w1 : Wf (whole w) (.slice (.int .u8)) cs1) (l1 : cs1.length = Sh.n (.slice (.int .u8))) :
    X Tryd.prog 4 #[Sh.v shTs cs0, Sh.v (.slice (.int .u8)) cs1] (whole w) fun v h' => v = .bool true ∧ (whole w).le h' := by
  obtain ⟨v, Ts, rfl, hr, hmx, hmT⟩ := ts_of w0
  obtain ⟨a, cap, L, rfl, hl, _, hL8⟩ := slice_of1 (P := Tryd.prog) (t := 5) (ok := fun _ : UInt8 => True) (val := fun b => Value.int .u8 b.toNat) aggU8r rfl (fun es hw => by
    obtain ⟨b, e⟩ := wf8 hw
    exact ⟨b, trivial, e⟩) w1
  refine litmusOne_x (pow_of hL (by rfl)) v Ts hr hmx hmT (.slice a L.length cap) L ⟨a, cap, by rw [List.length_map], fun i v hv => ?_⟩ fun h' hle => ⟨rfl, hle⟩
  rw [List.getElem?_map] at hv
  cases hx : L[i]? with
  | none => rw [hx] at hv; cases hv
  | some x => rw [hx] at hv; cases hv; exact hL8 i x hx
end
end Go.Proofs.YtciagjfemgfhgaaDoor
