/-
  All outcomes of a test: the program's.
-/
import Derived.Test.YtciagjfemgfhgaaDoorLtK
import Derived.Test.YtciagjfemgfhgaaDoorPdqJ
namespace Go.Proofs.YtciagjfemgfhgaaDoor
set_option linter.unusedSimpArgs false
set_option linter.unusedVariables false
open Go Go.Mid Go.RowKit
open Go.Sort (SWO)
attribute [local irreducible] mid
/-- A heap without two of its blocks. -/
def hide (h : Hp) (a b : Nat) : Hp := fun c => if c = a ∨ c = b then none else h c
theorem hide_le (h : Hp) (a b : Nat) : (hide h a b).le h := fun c o e => by
  unfold hide at e
  split at e
  · cases e
  · exact e
theorem hide_of {h : Hp} {a b c : Nat} (h1 : c ≠ a) (h2 : c ≠ b) : hide h a b c = h c := by
  unfold hide
  rw [if_neg (fun hh => hh.elim h1 h2)]
theorem hide_l (h : Hp) (a b : Nat) : hide h a b a = none := if_pos (.inl rfl)
theorem hide_r (h : Hp) (a b : Nat) : hide h a b b = none := if_pos (.inr rfl)
theorem le_hide {h h' : Hp} {a b : Nat} (hle : h.le h') (ha : h a = none) (hb : h b = none) : h.le (hide h' a b) := fun c o e => by
  rw [hide_of (Hp.ne ha e) (Hp.ne hb e)]; exact hle c o e
/-- The first state. -/
def S0 : St := ⟨[0, 0, 0], [0, 0, 0], [0, 0, 0, 0, 0, 0, 0, 0, 0, 0, 0, 0, 0, 0, 0, 0]⟩
theorem S0_ok : S0.ok := ⟨rfl, rfl, rfl, by decide, by decide, by decide⟩
def X0 : Sx := ⟨S0, rfl, rfl, rfl⟩
theorem left_le {T : List (List Dd)} (h5 : ∀ L ∈ T, L.length ≤ 5) (s : St) : left T s ≤ 15 := by
  have key : ∀ i, leftI T s i ≤ 5 := fun i => by
    unfold leftI
    rw [List.getD_eq_getElem?_getD]
    cases e : T[i]? with
    | none => simp
    | some L =>
      have := h5 L (List.mem_of_getElem? e)
      simp only [Option.getD_some]; omega
  unfold left
  have := key 0
  have := key 1
  have := key 2
  omega
theorem chk_ok {T : List (List Dd)} (h : chk T = 0) : T.length ≤ 3 ∧ 1 ≤ T.length ∧ (∀ L ∈ T, L.length ≤ 5) ∧ ∀ L ∈ T, ∀ d ∈ L, deedE d = 0 := by
  unfold chk at h
  split at h
  · cases h
  split at h
  · cases h
  rename_i h1 h2
  refine ⟨by omega, by omega, fun L hL => ?_, fun L hL d hd => ?_⟩
  · unfold longB at h2
    rw [List.any_eq_true] at h2
    apply Classical.byContradiction
    intro h3
    exact h2 ⟨L, hL, by simp; omega⟩
  · have key : ∀ F : List Dd, firstE F = 0 → ∀ d ∈ F, deedE d = 0 := fun F => by
      induction F with
      | nil => intro _ d hd; cases hd
      | cons x F ih =>
        intro hF d hd
        rw [firstE_cons] at hF
        by_cases hx : deedE x = 0
        · rw [if_neg (by simpa using hx)] at hF
          rcases List.mem_cons.1 hd with e | e
          · rw [e]; exact hx
          · exact ih hF d e
        · rw [if_pos hx] at hF; exact absurd hF hx
    exact key _ h d (List.mem_flatten.2 ⟨L, hL, hd⟩)
section
set_option maxHeartbeats 8000000
set_option maxRecDepth 10000
variable {h : Hp} {K : Value → Hp → Prop}
theorem infOc : Tryd.prog.info? 29 = some Tryd.prog.types[29] := by kernel_rfl
abbrev z16 : List Value := [uv 0, uv 0, uv 0, uv 0, uv 0, uv 0, uv 0, uv 0, uv 0, uv 0, uv 0, uv 0, uv 0, uv 0, uv 0, uv 0]
theorem ocs_len (o : Oc) : o.cs.length = 16 := by rw [Oc.cs, List.length_map]; exact o.len
theorem ocs_one (o : Oc) : o.cs.all Value.oneCell' = true := by
  rw [List.all_eq_true]
  intro v hv
  obtain ⟨x, _, rfl⟩ := List.mem_map.1 hv
  rfl
theorem outcomes_x (v : Value) (Ts : List Th) (hr : RdP h v Ts)
    (hk0 : ∀ h', h.le h' → chk (Ts.map (·.L)) ≠ 0 → K (.slice none 0 0) h')
    (hk : ∀ (L' : List Oc) (s' : Value) (h' : Hp), chk (Ts.map (·.L)) = 0 → Ris L' → (∀ o, o ∈ L' ↔ OutS (Ts.map (·.L)) S0 o) → h.le h' → L'.length ≤ 2 ^ 24 → Rd Tryd.prog 29 16 h' s' (L'.map ocv) → K s' h') : X Tryd.prog 11 #[.agg #[v]] h K := by
  have hob_ := hr
  obtain ⟨base, cap, rfl, _, _⟩ := hob_
  refine fnv (args := _) mixed [] [] [] Tryd.func11 rfl (by kernel_rfl) ?_
  conv => whnf
  refine new_intro (o := rowO 24 [.slice base Ts.length cap]) (fun ct h1 n_ct le_ct at_ct ot_ct => ?_)
  conv => whnf
  refine ⟨_, loadA0 (el := 24) (by kernel_rfl : isAggT Tryd.prog 24 = some true) (by kernel_rfl : sizeT Tryd.prog 24 = some 1) at_ct rfl, ?_⟩
  conv => whnf
  refine check_x _ Ts (hr.le le_ct) ?_
  have hmm : ∀ L ∈ Ts.map (·.L), ∃ p ∈ Ts, p.L = L := fun L hL => by
    obtain ⟨p, hp, e⟩ := List.mem_map.1 hL
    exact ⟨p, hp, e⟩
  conv => whnf
  refine bsel_intro (fun q1 => ?_) (fun q1 => ?_) <;> try simp only [decide_eq_true_eq, decide_eq_false_iff_not, beq_iff_eq, beq_eq_false_iff_ne, ne_eq, Bool.not_eq_true', Bool.not_eq_false', bne_iff_ne, bne_eq_false_iff_eq, Bool.not_eq_true, Bool.not_eq_false, Bool.and_eq_true, Bool.or_eq_true, bs_size] at q1
  · conv => whnf
    exact hk0 _ le_ct q1
  obtain ⟨o1, o2, o3, o4⟩ := chk_ok q1
  rw [List.length_map] at o1 o2
  have hl15 := left_le o3 S0
  conv => whnf
  refine new_intro (o := .map #[] 0) (fun m h2 n_m le_m at_m ot_m => ?_)
  conv => whnf
  refine new_intro (o := _) (fun cm h3 n_cm le_cm at_cm ot_cm => ?_)
  conv => whnf
  refine wr_intro (by exact storeC0 (by kernel_rfl) at_cm (by decide) rfl rfl) (fun h4 at_h4 ot_h4 => ?_)
  try (conv => whnf)
  have ct2 := le_m _ _ at_ct
  have ct4 := (ot_h4 ct (Hp.ne n_cm ct2)).trans (le_cm _ _ ct2)
  have m4 := (ot_h4 m (Hp.ne n_cm at_m)).trans (le_cm _ _ at_m)
  have cm4 : h4 cm = some (rowO 74 [.map (some m)]) := at_h4
  have d1 : cm ≠ m := Ne.symm (Hp.ne n_cm at_m)
  have d2 : ct ≠ m := Hp.ne n_m at_ct
  have n_cm0 : h cm = none := Hp.none_le (Hp.le_trans le_ct le_m) n_cm
  have n_m0 : h m = none := Hp.none_le le_ct n_m
  have le4 : h.le h4 := Hp.le_st n_cm0 (Hp.le_trans (Hp.le_trans le_ct le_m) le_cm) ot_h4
  clear at_ct ot_ct le_ct n_ct at_m ot_m le_m n_m at_cm ot_cm le_cm n_cm at_h4 ot_h4 ct2
  conv => whnf
  refine new_intro (o := .map #[] 0) (fun e h5 n_e le_e at_e ot_e => ?_)
  conv => whnf
  refine new_intro (o := _) (fun ce h6 n_ce le_ce at_ce ot_ce => ?_)
  conv => whnf
  refine wr_intro (by exact storeC0 (by kernel_rfl) at_ce (by decide) rfl rfl) (fun h7 at_h7 ot_h7 => ?_)
  try (conv => whnf)
  have d3 : m ≠ e := Hp.ne n_e m4
  have d4 : cm ≠ e := Hp.ne n_e cm4
  have d5 : ct ≠ e := Hp.ne n_e ct4
  have d6 : ce ≠ m := Ne.symm (Hp.ne n_ce (le_e _ _ m4))
  have d7 : ce ≠ e := Ne.symm (Hp.ne n_ce at_e)
  have le7 : h4.le h7 := Hp.le_st (Hp.none_le le_e n_ce) (Hp.le_trans le_e le_ce) ot_h7
  have e7 : h7 e = some (.map #[] 0) := (ot_h7 e (Ne.symm d7)).trans (le_ce _ _ at_e)
  have ce7 : h7 ce = some (rowO 75 [.map (some e)]) := at_h7
  have n_e0 : h e = none := Hp.none_le le4 n_e
  clear at_e ot_e le_e n_e at_ce ot_ce le_ce n_ce at_h7 ot_h7
  conv => whnf
  refine new_intro (o := _) (fun cg h8 n_cg le_cg at_cg ot_cg => ?_)
  conv => whnf
  refine wr_intro (by exact storeC0 (by kernel_rfl) at_cg (by decide) rfl rfl) (fun h9 at_h9 ot_h9 => ?_)
  try (conv => whnf)
  have d8 : cg ≠ m := Ne.symm (Hp.ne n_cg (le7 _ _ m4))
  have d9 : cg ≠ e := Ne.symm (Hp.ne n_cg e7)
  have le9 : h7.le h9 := Hp.le_st n_cg le_cg ot_h9
  have cg9 : h9 cg = some (rowO 76 [goV cm ct cg ce]) := at_h9
  have m9 := le9 _ _ (le7 _ _ m4)
  have e9 := le9 _ _ e7
  have le09 := Hp.le_trans le4 (Hp.le_trans le7 le9)
  have lek := le_hide le09 n_m0 n_e0
  have kl9 := hide_le h9 m e
  have GC : GoC (hide h9 m e) cm ct cg ce m e (goV cm ct cg ce) (.slice base Ts.length cap) Ts :=
    ⟨(hide_of d1 d4).trans (le9 _ _ (le7 _ _ cm4)), (hide_of d2 d5).trans (le9 _ _ (le7 _ _ ct4)), (hide_of d8 d9).trans cg9, (hide_of d6 d7).trans (le9 _ _ ce7), hide_l _ _ _, hide_r _ _ _, d3, hr.le lek⟩
  clear cm4 m4 ct4 e7 ce7 le4 le7 le9 d1 d2 d4 d5 d6 d7 d8 d9 at_cg ot_cg le_cg n_cg at_h9 ot_h9
  generalize hide h9 m e = k at *
  conv => whnf
  refine ⟨_, loadC0 aggFn cg9 rfl, ?_⟩
  conv => whnf
  refine big_by (v := stv X0) (by kernel_rfl) ?_
  conv => whnf
  refine goOn_x o1 (fun p hp => o3 _ (List.mem_map.2 ⟨p, hp, rfl⟩)) (fun p hp => o4 _ (List.mem_map.2 ⟨p, hp, rfl⟩)) cm ct cg ce m e (.slice base Ts.length cap) (left (Ts.map (·.L)) S0 + 1) X0 k h9 [] [] (fun _ => none) 0 0 _ _ _ (Nat.lt_succ_self _) S0_ok GC kl9 m9 (MapB.nil : MapB stv (metF []) 0 _) e9 MapB.nil (fun o => ⟨fun hh => (by cases hh), fun _ => rfl⟩) (fun y hy => by cases hy) fun M' E f nM' nE om' oe h10 k10 _ _ he hE hEF _ _ w3 w4 w5 => ?_
  have hmem : ∀ o, f o ≠ none ↔ OutS (Ts.map (·.L)) S0 o := fun o => by
    constructor
    · intro h1
      have h2 : o ∈ E := Classical.byContradiction fun h3 => h1 ((hEF o).2 h3)
      exact (w3 o h2).resolve_left (by simp)
    · intro h1 h2
      obtain ⟨n, hn⟩ := (hEF o).1 (w4 o h1)
      rw [h2] at hn; cases hn
  have hnE : nE ≤ 2 ^ 24 := by
    have : 3 ^ left (Ts.map (·.L)) S0 ≤ 3 ^ 15 := Nat.pow_le_pow_right (by decide) hl15
    have e0 : left (Ts.map (·.L)) X0.s = left (Ts.map (·.L)) S0 := rfl
    rw [e0] at w5
    have : (3 : Nat) ^ 15 ≤ 2 ^ 24 := by decide
    omega
  have le10 := Hp.le_trans lek k10
  have ce10 := k10 _ _ GC.d
  clear w3 w4 w5 hEF GC cg9 m9 e9 k10 kl9 lek le09
  conv => whnf
  refine ⟨_, loadC0 aggMp2 ce10 rfl, ?_⟩
  conv => whnf
  refine range_map rfl mapE rfl he hE fun it h11 n_it le_it ot_it hI => ?_
  have n_it0 : h it = none := Hp.none_le le10 n_it
  have dim : e ≠ it := Hp.ne n_it he
  have hob_ := hI.known
  obtain ⟨oi, oe4, kit, kbe⟩ := hob_
  have le11 := Hp.le_trans le10 le_it
  have hO4 : Owns h11 h11 29 16 (.slice none 0 0) 0 [] := Owns.nil (Hp.le_refl _)
  conv => whnf
  refine loop_at [6] [] (fun r vs cs h' => ∃ (Hs : List Oc) (sl : Value) (k : Hp) (oi om : Obj), r = nE - Hs.length ∧ vs = [.v sl] ∧ h.le k ∧ k it = some oi ∧ k e = some om ∧ Owns k h' 29 16 sl Hs.length (Hs.flatMap Oc.cs) ∧ Itr ocv f nE h' it e Hs) nE ⟨[], .slice none 0 0, h11, oi, oe4, rfl, rfl, le11, kit, kbe, hO4, hI⟩ ?_
  clear hO4 hI kit kbe hE ot_it he le_it le10 le11 ce10
  rintro r vs cs mm bx h5 ⟨Hs, sl, k, oi, om5, rfl, rfl, lk, kit, kbe, hO, hI⟩
  have hcnt := hI.count
  conv => whnf
  refine next_map rfl rfl hI (fun a v h6 hfa hna hlt ot6 hI6 => ?_) (fun hall => ?_)
  · have hob_ := hI6.known
    obtain ⟨oi6, om6, kit6, kbm6⟩ := hob_
    have hO6 := hO.put kit kit6 ot6
    have kb6 : (k.set it oi6) e = some om5 := by rw [Hp.set_other _ _ dim]; exact kbe
    have lk6 : h.le (k.set it oi6) := Hp.le_keep lk n_it0
    have ki6 : (k.set it oi6) it = some oi6 := Hp.set_same _ _ _
    generalize k.set it oi6 = k6 at *
    conv => whnf
    refine entry_map rfl rfl hI6 (fun v2 hv2 => ?_)
    conv => whnf
    refine new_intro (o := rowO 29 z16) (fun x1 g1 n_x1 le_x1 at_x1 ot_x1 => ?_)
    conv => whnf
    refine wr_intro (by exact storeA0 sizOc at_x1 rfl (ocs_len a) (ocs_one a)) (fun g2 at_g2 ot_g2 => ?_)
    try (conv => whnf)
    obtain ⟨a0, a1, a2, a3, a4, a5, a6, a7, a8, a9, b0, b1, b2, b3, b4, b5, hWe⟩ := sixteen a.len
    have hcs : a.cs = [uv a0, uv a1, uv a2, uv a3, uv a4, uv a5, uv a6, uv a7, uv a8, uv a9, uv b0, uv b1, uv b2, uv b3, uv b4, uv b5] := by unfold Oc.cs; rw [hWe]; rfl
    have p2 : g2 x1 = some (rowO 29 [uv a0, uv a1, uv a2, uv a3, uv a4, uv a5, uv a6, uv a7, uv a8, uv a9, uv b0, uv b1, uv b2, uv b3, uv b4, uv b5]) := by rw [← hcs]; exact at_g2
    have le2 : h6.le g2 := Hp.le_st n_x1 le_x1 ot_g2
    conv => whnf
    refine ⟨_, loadA0 aggOc sizOc p2 rfl, ?_⟩
    conv => whnf
    refine new_intro (o := rowO 29 [uv a0, uv a1, uv a2, uv a3, uv a4, uv a5, uv a6, uv a7, uv a8, uv a9, uv b0, uv b1, uv b2, uv b3, uv b4, uv b5]) (fun y h7 n_y le_y at_y ot_y => ?_)
    conv => whnf
    rw [← hcs] at at_y
    refine Owns.app1 (z := .agg z16.toArray) (by kernel_rfl) infOc (by kernel_rfl) (by kernel_rfl) (by kernel_rfl) rfl (bytes := 128) (by decide) rfl rfl rfl (hO6.up (Hp.le_trans le2 le_y)) at_y (ocs_len a) (ocs_one a) (by omega) fun s8 h8 hO8 => ?_
    obtain ⟨sa, sc, rfl⟩ := hO8.shape
    conv => whnf
    refine ⟨nE - (Hs.length + 1), by omega, Hs ++ [a], _, k6, oi6, om5, by simp, rfl, lk6, ki6, kb6, ?_, ?_⟩
    · rw [show (Hs ++ [a]).length = Hs.length + 1 by simp, show (Hs ++ [a]).flatMap Oc.cs = Hs.flatMap Oc.cs ++ a.cs by simp]
      exact hO8
    · refine Itr.agree (h := h6) hI6 ?_ ?_
      · rw [hO8.le _ _ ki6, hO6.le _ _ ki6]
      · rw [hO8.le _ _ kb6, hO6.le _ _ kb6]
  have htold := hI.told
  conv => whnf
  refine sortE_x outS ltO_swo (L := Hs) hO (by omega) fun L' h6 hp hs hO6 => ?_
  have lk6 := Hp.le_trans lk hO6.le
  have hris : Ris L' := ris_of (hp.nodup_iff.2 htold.1) hs
  have hmem2 : ∀ o, o ∈ L' ↔ OutS (Ts.map (·.L)) S0 o := fun o => by
    rw [hp.mem_iff, ← hmem]
    exact ⟨htold.2 o, hall o⟩
  have hlen : L'.length ≤ 2 ^ 24 := by rw [hp.length_eq]; omega
  have hrd : Rd Tryd.prog 29 16 h6 sl (L'.map ocv) := by
    obtain ⟨ob, ⟨hcl, ⟨_, rfl, h0⟩ | ⟨b, cap2, rest, e1, rfl, hcap, hrest, hb⟩⟩, hkl, hno⟩ := hO6
    · have hL0 : L' = [] := List.eq_nil_of_length_eq_zero h0
      subst hL0
      exact Rd.nil
    · refine ⟨some ⟨b, 0, none⟩, cap2, by rw [List.length_map], fun i v hv => ⟨_, rfl, ?_⟩⟩
      rw [List.getElem?_map] at hv
      cases hx : L'[i]? with
      | none => rw [hx] at hv; cases hv
      | some x =>
        rw [hx] at hv
        cases hv
        exact loadH_agg (n := 16) (f := Oc.cs) aggOc sizOc ocs_len hb hx
  conv => whnf
  exact hk L' _ h6 q1 hris hmem2 lk6 hlen hrd
end
end Go.Proofs.YtciagjfemgfhgaaDoor
