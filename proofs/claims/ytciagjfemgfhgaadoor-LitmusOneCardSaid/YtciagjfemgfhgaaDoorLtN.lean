/-
  All outcomes of a test, by all orders: the document's.
-/
import Derived.Test.YtciagjfemgfhgaaDoorLtM
namespace Go.Proofs.YtciagjfemgfhgaaDoor
set_option linter.unusedSimpArgs false
set_option linter.unusedVariables false
open Go Go.Mid Go.RowKit
attribute [local irreducible] mid
/-- What the first threads' orders bring. -/
def OutTo (T : List (List Dd)) (s : St) (i : Nat) (o : Oc) : Prop := ∃ j d, j < i ∧ nxt T s j = some d ∧ OutS T (doS s j d) o
section
set_option maxHeartbeats 8000000
set_option maxRecDepth 10000
theorem from_x {Ts : List Th} (hT : Ts.length ≤ 3) (h5 : ∀ p ∈ Ts, p.L.length ≤ 5) (hd : ∀ p ∈ Ts, ∀ d ∈ p.L, deedE d = 0) (v : Value) :
    ∀ (N : Nat) (s : St) (h : Hp) (sl : Value) (L : List Oc) (K : Value → Hp → Prop), left (Ts.map (·.L)) s < N → s.ok → RdR h v Ts → RowS h sl L → Ris L → L.length + 3 ^ left (Ts.map (·.L)) s ≤ 2 ^ 29 →
      (∀ (sl' : Value) (L' : List Oc) (h' : Hp), h.le h' → RowS h' sl' L' → Ris L' → (∀ o, o ∈ L' ↔ o ∈ L ∨ OutS (Ts.map (·.L)) s o) → L'.length ≤ L.length + 3 ^ left (Ts.map (·.L)) s → K sl' h') →
      X Tryd.prog 14 #[v, .agg s.rs.toArray, sl] h K := by
  intro N
  induction N with
  | zero => intro s h sl L K hN; omega
  | succ N ih =>
  intro x h sl L K hN hx hr hrow hris hlen hk
  have hsb : (sub1 x.B).length = 3 := by rw [sub1, List.length_map]; exact hx.b
  have hcl := c3_len hx.a hsb hx.w
  have hrs : x.rs = cells3 x.A (sub1 x.B) x.W := rfl
  have hob_ := hr
  obtain ⟨base, cap, rfl, hf1, hf2⟩ := hob_
  generalize hTT : Ts.map (·.L) = T at *
  have hTl : T.length = Ts.length := by rw [← hTT, List.length_map]
  have hTi : ∀ (i : Nat) (p : Th), Ts[i]? = some p → T[i]? = some p.L := fun i p hp => by rw [← hTT, List.getElem?_map, hp]; rfl
  have hlpos : ∀ i d, i < 3 → nxt T x i = some d → 0 < left T x := fun i d hi hd => by
    obtain ⟨L, h1, h2⟩ := nxt_at hd
    exact left_pos hx hi h1 h2
  refine fnv (args := _) mixed [] [] [] Tryd.func14 rfl (by kernel_rfl) ?_
  conv => whnf
  refine new_intro (o := rowO 47 x.rs) (fun bs h1 n_bs le_bs at_bs ot_bs => ?_)
  conv => whnf
  have rs_bs := at_bs
  rw [hrs] at at_bs
  clear ot_bs
  have hrl : x.rs.length = 22 := by rw [hrs]; exact hcl
  conv => whnf
  refine loop_at [8, 2, 7] [] (fun r vs cs h' => ∃ (i : Nat) (s1 : Value) (L1 : List Oc) (c : Nat), i ≤ Ts.length ∧ r = Ts.length - i ∧ vs = [.v (zv i), .v s1, .v (.bool (decide (c = 0)))] ∧ c ≤ i ∧ h1.le h' ∧ RowS h' s1 L1 ∧ Ris L1 ∧ (∀ o, o ∈ L1 ↔ o ∈ L ∨ OutTo T x i o) ∧ L1.length ≤ L.length + c * 3 ^ (left T x - 1) ∧ (c = 0 → ∀ j, j < i → nxt T x j = none) ∧ (c ≠ 0 → ∃ j d, j < T.length ∧ nxt T x j = some d)) Ts.length
    ⟨0, sl, L, 0, by omega, by omega, rfl, by omega, Hp.le_refl _, hrow.le le_bs, hris, fun o => ⟨fun ho => .inl ho, fun ho => ho.elim id (fun ⟨j, d, hj, _⟩ => by omega)⟩, by omega, fun _ j hj => by omega, fun hh => absurd rfl hh⟩ ?_
  rintro r vs cs mm bx h3 ⟨i, s1, L1, c, hi, rfl, rfl, hci, k3, hrow1, hris1, v3, v5, v6, v7⟩
  conv => whnf
  refine bsel_intro (fun q1 => ?_) (fun q1 => ?_) <;> try simp only [decide_eq_true_eq, decide_eq_false_iff_not, beq_iff_eq, beq_eq_false_iff_ne, ne_eq, Bool.not_eq_true', Bool.not_eq_false', bne_iff_ne, bne_eq_false_iff_eq, Bool.not_eq_true, Bool.not_eq_false, Bool.and_eq_true, Bool.or_eq_true, bs_size] at q1
  · have hiT : i < Ts.length := by omega
    obtain ⟨⟨pa, pc, pL⟩, hp⟩ : ∃ p, Ts[i]? = some p := ⟨_, List.getElem?_eq_getElem hiT⟩
    obtain ⟨b1, rfl, l1⟩ := hf1 i _ hp
    have g1 := hf2 _ (List.mem_of_getElem? hp)
    have hp5 := h5 _ (List.mem_of_getElem? hp)
    have hpd := hd _ (List.mem_of_getElem? hp)
    have hTp := hTi _ _ hp
    simp only [] at g1 hp5 hpd hTp
    have ga := getD_at (l := x.A) 0 (show i < x.A.length by rw [hx.a]; omega)
    have hnx : ∀ d, pL[(x.A.getD i 0).toNat]? = some d → nxt T x i = some d := fun d hd => nxt_some hTp hd
    have hnn : pL.length ≤ (x.A.getD i 0).toNat → nxt T x i = none := fun hd => nxt_none hTp hd
    have hstep : ∀ d d', pL[(x.A.getD i 0).toNat]? = some d → left T (doS x i d') + 1 = left T x := fun d d' hd => left_step hx (by omega) hTp hd
    have hnext : ∀ d, d ∈ pL → x.A.getD i 0 ≤ 900 → (doS x i d).ok := fun d hd hA => doS_ok hx (by omega) (hpd d hd) hA
    have ba := hx.a0 _ (List.mem_of_getElem? ga)
    generalize x.A.getD i 0 = at0 at *
    obtain ⟨an, rfl⟩ : ∃ n : Nat, at0 = n := ⟨at0.toNat, by omega⟩
    rw [Int.toNat_natCast] at hnx hnn hstep
    have ata : ((⟨bs, 0, none⟩ : Addr).add 0).add (((i : Nat) : Int).toNat * 1) = ⟨bs, i, none⟩ := by simp [addr_add]
    have kb3 := k3 _ _ at_bs
    have le3 := Hp.le_trans le_bs k3
    conv => whnf
    first | refine need_intro (⟨by omega, by omega⟩) ?_ | refine must.mk (⟨by omega, by omega⟩) ?_
    conv => whnf
    refine ⟨_, loadCA ata aggI kb3 (c3_a ga), ?_⟩
    conv => whnf
    first | refine need_intro (⟨by omega, by omega⟩) ?_ | refine must.mk (⟨by omega, by omega⟩) ?_
    conv => whnf
    refine ⟨_, loadH_le le3 l1, ?_⟩
    conv => whnf
    refine bsel_intro (fun q2 => ?_) (fun q2 => ?_) <;> try simp only [decide_eq_true_eq, decide_eq_false_iff_not, beq_iff_eq, beq_eq_false_iff_ne, ne_eq, Bool.not_eq_true', Bool.not_eq_false', bne_iff_ne, bne_eq_false_iff_eq, Bool.not_eq_true, Bool.not_eq_false, Bool.and_eq_true, Bool.or_eq_true, bs_size] at q2
    · have hj : an < pL.length := by omega
      obtain ⟨d, hdd⟩ : ∃ d, pL[an]? = some d := ⟨_, List.getElem?_eq_getElem hj⟩
      obtain ⟨b2, rfl, l2⟩ := g1 an d hdd
      have hde := hpd d (List.mem_of_getElem? hdd)
      have hs1 := hstep d d hdd
      have hy2 := hnext d (List.mem_of_getElem? hdd) (by omega)
      have hnd := hnx d hdd
      have hl1 : left T x - 1 = left T (doS x i d) := by omega
      have hp3 := pow3 (hlpos i d (by omega) hnd)
      rw [hl1] at v5 hp3
      have hc2 : c * 3 ^ left T (doS x i d) ≤ 2 * 3 ^ left T (doS x i d) := Nat.mul_le_mul_right _ (by omega)
      have hsum : L1.length + 3 ^ left T (doS x i d) ≤ 2 ^ 29 := by
        generalize 3 ^ left T (doS x i d) = P at *
        generalize 3 ^ left T x = Q at *
        generalize c * P = R at *
        omega
      conv => whnf
      refine ⟨_, loadA0 aggRs sizRs (k3 _ _ rs_bs) hrl, ?_⟩
      conv => whnf
      first | refine need_intro (⟨by omega, by omega⟩) ?_ | refine must.mk (⟨by omega, by omega⟩) ?_
      conv => whnf
      refine ⟨_, loadH_le le3 l1, ?_⟩
      conv => whnf
      first | refine need_intro (⟨by omega, by omega⟩) ?_ | refine must.mk (⟨by omega, by omega⟩) ?_
      conv => whnf
      refine ⟨_, loadCA ata aggI kb3 (c3_a ga), ?_⟩
      conv => whnf
      first | refine need_intro (⟨by omega, by omega⟩) ?_ | refine must.mk (⟨by omega, by omega⟩) ?_
      conv => whnf
      refine ⟨_, loadH_le le3 l2, ?_⟩
      conv => whnf
      refine rdo_x x hx i (by omega) d hde ?_
      refine ⟨trivial, ?_⟩
      conv => whnf
      refine ih (doS x i d) h3 s1 L1 _ (by omega) hy2 (hr.le le3) hrow1 hris1 hsum (fun s2 L2 h4 k4 hrow2 hris2 w3 w5 => ?_)
      refine ⟨trivial, ?_⟩
      conv => whnf
      first | refine ov_i64 (by omega) ?_ | refine ov_u64 (by omega) ?_ | refine ov_i64 (by decide) ?_ | refine ov_u64 (by decide) ?_ | refine ov_u8 (by omega) ?_ | refine ov_i32 (by omega) ?_ | refine ov_u32 (by omega) ?_
      conv => whnf
      refine ⟨Ts.length - (i + 1), by omega, i + 1, s2, L2, c + 1, by omega, rfl, ?_, by omega, Hp.le_trans k3 k4, hrow2, hris2, fun o => ?_, ?_, fun hh => by omega, fun _ => ⟨i, d, by omega, hnd⟩⟩
      · rw [decide_eq_false (show ¬ c + 1 = 0 by omega)]; rfl
      · rw [w3, v3, or_assoc]
        refine or_congr_right ?_
        constructor
        · rintro (⟨j, d2, h1, h2, h3⟩ | h3)
          · exact ⟨j, d2, by omega, h2, h3⟩
          · exact ⟨i, d, by omega, hnd, h3⟩
        · rintro ⟨j, d2, h1, h2, h3⟩
          by_cases hji : j = i
          · subst hji; rw [hnd] at h2; cases h2; exact .inr h3
          · exact .inl ⟨j, d2, by omega, h2, h3⟩
      · rw [hl1, Nat.succ_mul]
        generalize 3 ^ left T (doS x i d) = P at *
        generalize c * P = Q at *
        omega
    · have hnn2 := hnn (by omega)
      conv => whnf
      first | refine ov_i64 (by omega) ?_ | refine ov_u64 (by omega) ?_ | refine ov_i64 (by decide) ?_ | refine ov_u64 (by decide) ?_ | refine ov_u8 (by omega) ?_ | refine ov_i32 (by omega) ?_ | refine ov_u32 (by omega) ?_
      conv => whnf
      refine ⟨Ts.length - (i + 1), by omega, i + 1, s1, L1, c, by omega, rfl, rfl, by omega, k3, hrow1, hris1, fun o => ?_, v5, fun hh j hj2 => ?_, v7⟩
      · rw [v3]
        refine or_congr_right ?_
        constructor
        · rintro ⟨j, d2, h1, h2, h3⟩
          exact ⟨j, d2, by omega, h2, h3⟩
        · rintro ⟨j, d2, h1, h2, h3⟩
          by_cases hji : j = i
          · subst hji; rw [hnn2] at h2; cases h2
          · exact ⟨j, d2, by omega, h2, h3⟩
      · by_cases hji : j = i
        · subst hji; exact hnn2
        · exact v6 hh j (by omega)
  have hin3 : i = Ts.length := by omega
  subst hin3
  have le3 := Hp.le_trans le_bs k3
  conv => whnf
  refine bsel_intro (fun q3 => ?_) (fun q3 => ?_) <;> try simp only [decide_eq_true_eq, decide_eq_false_iff_not, beq_iff_eq, beq_eq_false_iff_ne, ne_eq, Bool.not_eq_true', Bool.not_eq_false', bne_iff_ne, bne_eq_false_iff_eq, Bool.not_eq_true, Bool.not_eq_false, Bool.and_eq_true, Bool.or_eq_true, bs_size] at q3
  · have hs0 : ∀ j, j < T.length → nxt T x j = none := fun j hj => v6 q3 j (by omega)
    obtain ⟨o, ho⟩ : ∃ o : Oc, o.W = x.W := ⟨⟨x.W, hx.w⟩, rfl⟩
    have hoo : OutS T x o := by unfold OutS; rw [ho]; exact outS_done hs0
    have hou : ∀ o', OutS T x o' → o' = o := fun o' h9 => Oc.ext (by rw [ho]; exact outS_done' hs0 h9)
    have hoW : loadH Tryd.prog 32 h3 ((⟨bs, 0, none⟩ : Addr).add 6) = some (.agg o.cs.toArray) := by
      have : o.cs = x.W.map uv := by unfold Oc.cs; rw [ho]
      rw [this]
      exact loadP aggRo sizRo (k3 _ _ at_bs) (c3_W hx.a hsb hx.w) (by rw [List.length_map, hx.w])
    have hil := insO_len (o := o) (l := L1)
    have h1p : 0 < 3 ^ left T x := Nat.pow_pos (by decide)
    rw [q3, Nat.zero_mul] at v5
    have hLn : L1.length ≤ 2 ^ 29 := by omega
    conv => whnf
    refine ⟨_, hoW, ?_⟩
    conv => whnf
    refine put_x s1 L1 o hrow1 hris1 hLn fun s2 h4 k4 hrow2 => ?_
    conv => whnf
    refine hk _ (insO o L1) h4 (Hp.le_trans le3 k4) hrow2 (insO_ris hris1) (fun o' => ?_) (by omega)
    rw [mem_insO, v3]
    constructor
    · rintro (h9 | h9 | ⟨j, d2, h1, h2, h3⟩)
      · rw [h9]; exact .inr hoo
      · exact .inl h9
      · rw [hs0 j (by omega)] at h2; cases h2
    · rintro (h9 | h9)
      · exact .inr (.inl h9)
      · exact .inl (hou o' h9)
  · obtain ⟨j, d, hj1, hj2⟩ := v7 q3
    have hpos := hlpos j d (by omega) hj2
    have hp3 := pow3 hpos
    have hc3 : c * 3 ^ (left T x - 1) ≤ 3 * 3 ^ (left T x - 1) := Nat.mul_le_mul_right _ (by omega)
    conv => whnf
    refine hk _ L1 h3 le3 hrow1 hris1 (fun o' => ?_) (by omega)
    rw [v3]
    refine or_congr_right ?_
    constructor
    · rintro ⟨j, d2, h1, h2, h3⟩
      exact outS_step h2 h3
    · intro ho
      obtain ⟨i2, d2, g1, g2, g3⟩ := outS_inv hj1 hj2 ho
      exact ⟨i2, d2, by omega, g2, g3⟩
end
end Go.Proofs.YtciagjfemgfhgaaDoor
