/-
  All outcomes of a test: the program's.
-/
import Derived.Test.YtciagjfemgfhgaaGreatDoorLtb
import Derived.Test.YtciagjfemgfhgaaGreatDoorPdqJ
import Derived.Test.YtciagjfemgfhgaaGreatDoorLibU
import Derived.Test.YtciagjfemgfhgaaGreatDoorMidXY
/-! All outcomes of a test: the program's. -/
namespace Go.Proofs.YtciagjfemgfhgaaGreatDoor
set_option linter.unusedSimpArgs false
set_option linter.unusedVariables false
open Go Go.Mid Go.RowKit
open Go.Sort (SWO)
attribute [local irreducible] mid
/-- A heap without two of its blocks. -/
def hide (h : Hp) (a b : Nat) : Hp := fun c => if c = a ∨ c = b then none else h c
theorem hide_le (h : Hp) (a b : Nat) : (hide h a b).le h := fun c o e => by
  unfold hide at e
  split at e
  · cases e
  · exact e
theorem hide_of {h : Hp} {a b c : Nat} (h1 : c ≠ a) (h2 : c ≠ b) : hide h a b c = h c := by
  unfold hide
  rw [if_neg (fun hh => hh.elim h1 h2)]
theorem hide_l (h : Hp) (a b : Nat) : hide h a b a = none := if_pos (.inl rfl)
theorem hide_r (h : Hp) (a b : Nat) : hide h a b b = none := if_pos (.inr rfl)
theorem le_hide {h h' : Hp} {a b : Nat} (hle : h.le h') (ha : h a = none) (hb : h b = none) : h.le (hide h' a b) := fun c o e => by
  rw [hide_of (Hp.ne ha e) (Hp.ne hb e)]; exact hle c o e
/-- The first state. -/
def S0 : St := ⟨[0, 0, 0], [0, 0, 0], [0, 0, 0, 0, 0, 0, 0, 0, 0, 0, 0, 0, 0, 0, 0, 0]⟩
theorem S0_ok : S0.ok := ⟨rfl, rfl, rfl, by decide, by decide, by decide⟩
def X0 : Sx := ⟨S0, rfl, rfl, rfl⟩
theorem left_le {T : List (List Dd)} (h5 : ∀ L ∈ T, L.length ≤ 5) (s : St) : left T s ≤ 15 := by
  have key : ∀ i, leftI T s i ≤ 5 := fun i => by
    unfold leftI
    rw [List.getD_eq_getElem?_getD]
    cases e : T[i]? with
    | none => simp
    | some L =>
      have := h5 L (List.mem_of_getElem? e)
      simp only [Option.getD_some]; omega
  unfold left
  have := key 0
  have := key 1
  have := key 2
  omega
theorem chk_ok {T : List (List Dd)} (h : chk T = 0) : T.length ≤ 3 ∧ 1 ≤ T.length ∧ (∀ L ∈ T, L.length ≤ 5) ∧ ∀ L ∈ T, ∀ d ∈ L, deedE d = 0 := by
  unfold chk at h
  split at h
  · cases h
  split at h
  · cases h
  rename_i h1 h2
  refine ⟨by omega, by omega, fun L hL => ?_, fun L hL d hd => ?_⟩
  · unfold longB at h2
    rw [List.any_eq_true] at h2
    apply Classical.byContradiction
    intro h3
    exact h2 ⟨L, hL, by simp; omega⟩
  · have key : ∀ F : List Dd, firstE F = 0 → ∀ d ∈ F, deedE d = 0 := fun F => by
      induction F with
      | nil => intro _ d hd; cases hd
      | cons x F ih =>
        intro hF d hd
        rw [firstE_cons] at hF
        by_cases hx : deedE x = 0
        · rw [if_neg (by simpa using hx)] at hF
          rcases List.mem_cons.1 hd with e | e
          · rw [e]; exact hx
          · exact ih hF d e
        · rw [if_pos hx] at hF; exact absurd hF hx
    exact key _ h d (List.mem_flatten.2 ⟨L, hL, hd⟩)
section
set_option maxHeartbeats 8000000
set_option maxRecDepth 10000
variable {h : Hp} {K : Value → Hp → Prop}
theorem infOc : Tryz.prog.info? 50 = some Tryz.prog.types[50] := by kernel_rfl
abbrev z16 : List Value := [uv 0, uv 0, uv 0, uv 0, uv 0, uv 0, uv 0, uv 0, uv 0, uv 0, uv 0, uv 0, uv 0, uv 0, uv 0, uv 0]
theorem ocs_len (o : Oc) : o.cs.length = 16 := by rw [Oc.cs, List.length_map]; exact o.len
theorem ocs_one (o : Oc) : o.cs.all Value.oneCell' = true := by
  rw [List.all_eq_true]
  intro v hv
  obtain ⟨x, _, rfl⟩ := List.mem_map.1 hv
  rfl
theorem outcomes_x (v : Value) (Ts : List Th) (hr : RdP h v Ts)
    (hk0 : ∀ h', h.le h' → chk (Ts.map (·.L)) ≠ 0 → K (.slice none 0 0) h')
    (hk : ∀ (L' : List Oc) (s' : Value) (h' : Hp), chk (Ts.map (·.L)) = 0 → Ris L' → (∀ o, o ∈ L' ↔ OutS (Ts.map (·.L)) S0 o) → h.le h' → L'.length ≤ 2 ^ 24 → Rd Tryz.prog 50 16 h' s' (L'.map ocv) → K s' h') : X Tryz.prog 14 #[.agg #[v]] h K := by
  have hob_ := hr
  obtain ⟨base, cap, rfl, _, _⟩ := hob_
  refine fnv (args := _) mixed [] [] [] Tryz.func14 rfl (by kernel_rfl) ?_; conv => whnf
  refine new_intro (o := rowO 24 [.slice base Ts.length cap]) (fun ct h1 n_ct le_ct at_ct ot_ct => ?_); conv => whnf
  refine ⟨_, loadA0 (el := 24) (by kernel_rfl : isAggT Tryz.prog 24 = some true) (by kernel_rfl : sizeT Tryz.prog 24 = some 1) at_ct rfl, ?_⟩; conv => whnf
  refine check_x _ Ts (hr.le le_ct) ?_
  have hmm : ∀ L ∈ Ts.map (·.L), ∃ p ∈ Ts, p.L = L := fun L hL => by
    obtain ⟨p, hp, e⟩ := List.mem_map.1 hL
    exact ⟨p, hp, e⟩
  conv => whnf
  refine bsel_intro (fun q1 => ?_) (fun q1 => ?_) <;> try simp only [bsL] at q1
  · conv => whnf
    exact hk0 _ le_ct q1
  obtain ⟨o1, o2, o3, o4⟩ := chk_ok q1
  rw [List.length_map] at o1 o2
  have hl15 := left_le o3 S0
  conv => whnf
  refine new_intro (o := .map #[] 0) (fun m h2 n_m le_m at_m ot_m => ?_); conv => whnf
  refine new_intro (o := _) (fun cm h3 n_cm le_cm at_cm ot_cm => ?_); conv => whnf
  refine wr_intro (by exact storeC0 (by kernel_rfl) at_cm (by decide) rfl rfl) (fun h4 at_h4 ot_h4 => ?_)
  try (conv => whnf)
  have ct2 := le_m _ _ at_ct
  have ct4 := (ot_h4 ct (Hp.ne n_cm ct2)).trans (le_cm _ _ ct2)
  have m4 := (ot_h4 m (Hp.ne n_cm at_m)).trans (le_cm _ _ at_m)
  have cm4 : h4 cm = some (rowO 75 [.map (some m)]) := at_h4
  have d1 : cm ≠ m := Ne.symm (Hp.ne n_cm at_m)
  have d2 : ct ≠ m := Hp.ne n_m at_ct
  have n_cm0 : h cm = none := Hp.none_le (Hp.le_trans le_ct le_m) n_cm
  have n_m0 : h m = none := Hp.none_le le_ct n_m
  have le4 : h.le h4 := Hp.le_st n_cm0 (Hp.le_trans (Hp.le_trans le_ct le_m) le_cm) ot_h4
  clear at_ct ot_ct le_ct n_ct at_m ot_m le_m n_m at_cm ot_cm le_cm n_cm at_h4 ot_h4 ct2
  conv => whnf
  refine new_intro (o := .map #[] 0) (fun e h5 n_e le_e at_e ot_e => ?_); conv => whnf
  refine new_intro (o := _) (fun ce h6 n_ce le_ce at_ce ot_ce => ?_); conv => whnf
  refine wr_intro (by exact storeC0 (by kernel_rfl) at_ce (by decide) rfl rfl) (fun h7 at_h7 ot_h7 => ?_)
  try (conv => whnf)
  have d3 : m ≠ e := Hp.ne n_e m4
  have d4 : cm ≠ e := Hp.ne n_e cm4
  have d5 : ct ≠ e := Hp.ne n_e ct4
  have d6 : ce ≠ m := Ne.symm (Hp.ne n_ce (le_e _ _ m4))
  have d7 : ce ≠ e := Ne.symm (Hp.ne n_ce at_e)
  have le7 : h4.le h7 := Hp.le_st (Hp.none_le le_e n_ce) (Hp.le_trans le_e le_ce) ot_h7
  have e7 : h7 e = some (.map #[] 0) := (ot_h7 e (Ne.symm d7)).trans (le_ce _ _ at_e)
  have ce7 : h7 ce = some (rowO 76 [.map (some e)]) := at_h7
  have n_e0 : h e = none := Hp.none_le le4 n_e
  clear at_e ot_e le_e n_e at_ce ot_ce le_ce n_ce at_h7 ot_h7
  conv => whnf
  refine new_intro (o := _) (fun cg h8 n_cg le_cg at_cg ot_cg => ?_); conv => whnf
  refine wr_intro (by exact storeC0 (by kernel_rfl) at_cg (by decide) rfl rfl) (fun h9 at_h9 ot_h9 => ?_)
  try (conv => whnf)
  have d8 : cg ≠ m := Ne.symm (Hp.ne n_cg (le7 _ _ m4))
  have d9 : cg ≠ e := Ne.symm (Hp.ne n_cg e7)
  have le9 : h7.le h9 := Hp.le_st n_cg le_cg ot_h9
  have cg9 : h9 cg = some (rowO 77 [goV cm ct cg ce]) := at_h9
  have m9 := le9 _ _ (le7 _ _ m4)
  have e9 := le9 _ _ e7
  have le09 := Hp.le_trans le4 (Hp.le_trans le7 le9)
  have lek := le_hide le09 n_m0 n_e0
  have kl9 := hide_le h9 m e
  have GC : GoC (hide h9 m e) cm ct cg ce m e (goV cm ct cg ce) (.slice base Ts.length cap) Ts :=
    ⟨(hide_of d1 d4).trans (le9 _ _ (le7 _ _ cm4)), (hide_of d2 d5).trans (le9 _ _ (le7 _ _ ct4)), (hide_of d8 d9).trans cg9, (hide_of d6 d7).trans (le9 _ _ ce7), hide_l _ _ _, hide_r _ _ _, d3, hr.le lek⟩
  clear cm4 m4 ct4 e7 ce7 le4 le7 le9 d1 d2 d4 d5 d6 d7 d8 d9 at_cg ot_cg le_cg n_cg at_h9 ot_h9
  generalize hide h9 m e = k at *
  conv => whnf
  refine ⟨_, loadC0 aggFn cg9 rfl, ?_⟩; conv => whnf
  refine big_by (v := stv X0) (by kernel_rfl) ?_
  conv => whnf
  refine goOn_x o1 (fun p hp => o3 _ (List.mem_map.2 ⟨p, hp, rfl⟩)) (fun p hp => o4 _ (List.mem_map.2 ⟨p, hp, rfl⟩)) cm ct cg ce m e (.slice base Ts.length cap) (left (Ts.map (·.L)) S0 + 1) X0 k h9 [] [] (fun _ => none) 0 0 _ _ _ (Nat.lt_succ_self _) S0_ok GC kl9 m9 (MapB.nil : MapB stv (metF []) 0 _) e9 MapB.nil (fun o => ⟨fun hh => (by cases hh), fun _ => rfl⟩) (fun y hy => by cases hy) fun M' E f nM' nE om' oe h10 k10 _ _ he hE hEF _ _ w3 w4 w5 => ?_
  have hmem : ∀ o, f o ≠ none ↔ OutS (Ts.map (·.L)) S0 o := fun o => by
    constructor
    · intro h1
      have h2 : o ∈ E := Classical.byContradiction fun h3 => h1 ((hEF o).2 h3)
      exact (w3 o h2).resolve_left (by simp)
    · intro h1 h2
      obtain ⟨n, hn⟩ := (hEF o).1 (w4 o h1)
      rw [h2] at hn; cases hn
  have hnE : nE ≤ 2 ^ 24 := by
    have : 3 ^ left (Ts.map (·.L)) S0 ≤ 3 ^ 15 := Nat.pow_le_pow_right (by decide) hl15
    have e0 : left (Ts.map (·.L)) X0.s = left (Ts.map (·.L)) S0 := rfl
    rw [e0] at w5
    have : (3 : Nat) ^ 15 ≤ 2 ^ 24 := by decide
    omega
  have le10 := Hp.le_trans lek k10
  have ce10 := k10 _ _ GC.d
  clear w3 w4 w5 hEF GC cg9 m9 e9 k10 kl9 lek le09
  conv => whnf
  refine ⟨_, loadC0 aggMp2 ce10 rfl, ?_⟩; conv => whnf
  refine range_map rfl mapE rfl he hE fun it h11 n_it le_it ot_it hI => ?_
  have n_it0 : h it = none := Hp.none_le le10 n_it
  have dim : e ≠ it := Hp.ne n_it he
  have hob_ := hI.known
  obtain ⟨oi, oe4, kit, kbe⟩ := hob_
  have le11 := Hp.le_trans le10 le_it
  have hO4 : Owns h11 h11 50 16 (.slice none 0 0) 0 [] := Owns.nil (Hp.le_refl _)
  conv => whnf
  refine loop_at [6] [] (fun r vs cs h' => ∃ (Hs : List Oc) (sl : Value) (k : Hp) (oi om : Obj), r = nE - Hs.length ∧ vs = [.v sl] ∧ h.le k ∧ k it = some oi ∧ k e = some om ∧ Owns k h' 50 16 sl Hs.length (Hs.flatMap Oc.cs) ∧ Itr ocv f nE h' it e Hs) nE ⟨[], .slice none 0 0, h11, oi, oe4, rfl, rfl, le11, kit, kbe, hO4, hI⟩ ?_
  clear hO4 hI kit kbe hE ot_it he le_it le10 le11 ce10
  rintro r vs cs mm bx h5 ⟨Hs, sl, k, oi, om5, rfl, rfl, lk, kit, kbe, hO, hI⟩
  have hcnt := hI.count
  conv => whnf
  refine next_map rfl rfl hI (fun a v h6 hfa hna hlt ot6 hI6 => ?_) (fun hall => ?_)
  · have hob_ := hI6.known
    obtain ⟨oi6, om6, kit6, kbm6⟩ := hob_
    have hO6 := hO.put kit kit6 ot6
    have kb6 : (k.set it oi6) e = some om5 := by rw [Hp.set_other _ _ dim]; exact kbe
    have lk6 : h.le (k.set it oi6) := Hp.le_keep lk n_it0
    have ki6 : (k.set it oi6) it = some oi6 := Hp.set_same _ _ _
    generalize k.set it oi6 = k6 at *
    conv => whnf
    refine entry_map rfl rfl hI6 (fun v2 hv2 => ?_)
    conv => whnf
    refine new_intro (o := rowO 50 z16) (fun x1 g1 n_x1 le_x1 at_x1 ot_x1 => ?_); conv => whnf
    refine wr_intro (by exact storeA0 sizOc at_x1 rfl (ocs_len a) (ocs_one a)) (fun g2 at_g2 ot_g2 => ?_)
    try (conv => whnf)
    obtain ⟨a0, a1, a2, a3, a4, a5, a6, a7, a8, a9, b0, b1, b2, b3, b4, b5, hWe⟩ := sixteen a.len
    have hcs : a.cs = [uv a0, uv a1, uv a2, uv a3, uv a4, uv a5, uv a6, uv a7, uv a8, uv a9, uv b0, uv b1, uv b2, uv b3, uv b4, uv b5] := by unfold Oc.cs; rw [hWe]; rfl
    have p2 : g2 x1 = some (rowO 50 [uv a0, uv a1, uv a2, uv a3, uv a4, uv a5, uv a6, uv a7, uv a8, uv a9, uv b0, uv b1, uv b2, uv b3, uv b4, uv b5]) := by rw [← hcs]; exact at_g2
    have le2 : h6.le g2 := Hp.le_st n_x1 le_x1 ot_g2
    conv => whnf
    refine ⟨_, loadA0 aggOc sizOc p2 rfl, ?_⟩; conv => whnf
    refine new_intro (o := rowO 50 [uv a0, uv a1, uv a2, uv a3, uv a4, uv a5, uv a6, uv a7, uv a8, uv a9, uv b0, uv b1, uv b2, uv b3, uv b4, uv b5]) (fun y h7 n_y le_y at_y ot_y => ?_); conv => whnf
    rw [← hcs] at at_y
    refine Owns.app1 (z := .agg z16.toArray) (by kernel_rfl) infOc (by kernel_rfl) (by kernel_rfl) (by kernel_rfl) rfl (bytes := 128) (by decide) rfl rfl rfl (hO6.up (Hp.le_trans le2 le_y)) at_y (ocs_len a) (ocs_one a) (by omega) fun s8 h8 hO8 => ?_
    obtain ⟨sa, sc, rfl⟩ := hO8.shape
    conv => whnf
    refine ⟨nE - (Hs.length + 1), by omega, Hs ++ [a], _, k6, oi6, om5, by simp, rfl, lk6, ki6, kb6, ?_, ?_⟩
    · rw [show (Hs ++ [a]).length = Hs.length + 1 by simp, show (Hs ++ [a]).flatMap Oc.cs = Hs.flatMap Oc.cs ++ a.cs by simp]
      exact hO8
    · refine Itr.agree (h := h6) hI6 ?_ ?_
      · rw [hO8.le _ _ ki6, hO6.le _ _ ki6]
      · rw [hO8.le _ _ kb6, hO6.le _ _ kb6]
  have htold := hI.told
  conv => whnf
  refine sortE_x outS ltO_swo (L := Hs) hO (by omega) fun L' h6 hp hs hO6 => ?_
  have lk6 := Hp.le_trans lk hO6.le
  have hris : Ris L' := ris_of (hp.nodup_iff.2 htold.1) hs
  have hmem2 : ∀ o, o ∈ L' ↔ OutS (Ts.map (·.L)) S0 o := fun o => by
    rw [hp.mem_iff, ← hmem]
    exact ⟨htold.2 o, hall o⟩
  have hlen : L'.length ≤ 2 ^ 24 := by rw [hp.length_eq]; omega
  have hrd : Rd Tryz.prog 50 16 h6 sl (L'.map ocv) := by
    obtain ⟨ob, ⟨hcl, ⟨_, rfl, h0⟩ | ⟨b, cap2, rest, e1, rfl, hcap, hrest, hb⟩⟩, hkl, hno⟩ := hO6
    · have hL0 : L' = [] := List.eq_nil_of_length_eq_zero h0
      subst hL0
      exact Rd.nil
    · refine ⟨some ⟨b, 0, none⟩, cap2, by rw [List.length_map], fun i v hv => ⟨_, rfl, ?_⟩⟩
      rw [List.getElem?_map] at hv
      cases hx : L'[i]? with
      | none => rw [hx] at hv; cases hv
      | some x =>
        rw [hx] at hv
        cases hv
        exact loadH_agg (n := 16) (f := Oc.cs) aggOc sizOc ocs_len hb hx
  conv => whnf
  exact hk L' _ h6 q1 hris hmem2 lk6 hlen hrd
end
end Go.Proofs.YtciagjfemgfhgaaGreatDoor
/-! An outcome's text. -/
namespace Go.Proofs.YtciagjfemgfhgaaGreatDoor
set_option linter.unusedSimpArgs false
set_option linter.unusedVariables false
open Go Go.Mid Go.RowKit
attribute [local irreducible] mid
abbrev dg (n : Nat) : Str := Lib.decDigits n
/-- Four words. -/
def four (a b c d : Nat) : Str := dg a ++ [32] ++ dg b ++ [32] ++ dg c ++ [32] ++ dg d
def four4 : List Nat → Str
  | [a, b, c, d] => four a b c d
  | _ => []
/-- An outcome's text. -/
def showT (W : List Nat) (n : Nat) : Str := four4 (W.take 4) ++ (List.range n).flatMap fun t => [32, 124, 32] ++ four4 ((W.drop (4 + t * 4)).take 4)
theorem showT_zero (W : List Nat) : showT W 0 = four4 (W.take 4) := by simp [showT]
theorem showT_succ (W : List Nat) (n : Nat) : showT W (n + 1) = showT W n ++ ([32, 124, 32] ++ four4 ((W.drop (4 + n * 4)).take 4)) := by
  unfold showT
  rw [List.range_succ, List.flatMap_append, ← List.append_assoc]
  simp
theorem dg_ne (n : Nat) : dg n ≠ [] := fun e => by
  have : (dg n).length = Lib.nDigits n := Lib.decDigits_length n
  rw [e] at this
  unfold Lib.nDigits at this
  split at this <;> simp at this
theorem four_len {a b c d : Nat} (ha : a < 18446744073709551616) (hb : b < 18446744073709551616) (hc : c < 18446744073709551616) (hd : d < 18446744073709551616) : (four a b c d).length ≤ 83 := by
  have : (dg a).length ≤ 20 := dec_len ha
  have : (dg b).length ≤ 20 := dec_len hb
  have : (dg c).length ≤ 20 := dec_len hc
  have : (dg d).length ≤ 20 := dec_len hd
  simp only [four, List.length_append, List.length_singleton]
  omega
theorem quad {W : List Nat} (h : W.length = 16) (i : Nat) (hi : i ≤ 12) : ∃ a b c d, (W.drop i).take 4 = [a, b, c, d] := by
  have : ((W.drop i).take 4).length = 4 := by rw [List.length_take, List.length_drop]; omega
  match (W.drop i).take 4, this with
  | [a, b, c, d], _ => exact ⟨a, b, c, d, rfl⟩
theorem quad_lt {W : List Nat} (hw : ∀ x ∈ W, x < 18446744073709551616) {i a b c d : Nat} (h : (W.drop i).take 4 = [a, b, c, d]) : a < 18446744073709551616 ∧ b < 18446744073709551616 ∧ c < 18446744073709551616 ∧ d < 18446744073709551616 := by
  have k : ∀ x ∈ [a, b, c, d], x < 18446744073709551616 := fun x hx => by
    rw [← h] at hx
    exact hw x (List.mem_of_mem_drop (List.mem_of_mem_take hx))
  exact ⟨k a (by simp), k b (by simp), k c (by simp), k d (by simp)⟩
theorem quad_cs {o : Oc} {i a b c d : Nat} (h : (o.W.drop i).take 4 = [a, b, c, d]) : (o.cs.drop i).take 4 = [uv a, uv b, uv c, uv d] := by
  unfold Oc.cs
  rw [← List.map_drop, ← List.map_take, h]
  rfl
theorem showT_len {W : List Nat} (h : W.length = 16) (hw : ∀ x ∈ W, x < 18446744073709551616) : ∀ n, n ≤ 3 → (showT W n).length ≤ 83 + n * 86
  | 0, _ => by
    obtain ⟨a, b, c, d, e⟩ := quad h 0 (by decide)
    obtain ⟨h1, h2, h3, h4⟩ := quad_lt hw e
    rw [List.drop_zero] at e
    rw [showT_zero, e]
    exact four_len h1 h2 h3 h4
  | n + 1, hn => by
    have ih := showT_len h hw n (by omega)
    obtain ⟨a, b, c, d, e⟩ := quad h (4 + n * 4) (by omega)
    obtain ⟨h1, h2, h3, h4⟩ := quad_lt hw e
    have := four_len h1 h2 h3 h4
    rw [showT_succ, e]
    simp only [List.length_append, List.length_cons, List.length_nil, four4]
    omega
section
set_option maxHeartbeats 8000000
set_option maxRecDepth 10000
variable {h : Hp} {K : Value → Hp → Prop}
theorem showc_x {k : Hp} (hp : Pow k) (b : Nat) (l : Str) (a0 a1 a2 a3 : Nat) (h0 : a0 < 18446744073709551616) (h1 : a1 < 18446744073709551616) (h2 : a2 < 18446744073709551616) (h3 : a3 < 18446744073709551616) (hB : Bds 54 k h b l) (hl : l.length ≤ 2 ^ 20)
    (hk : ∀ h', Bds 54 k h' b (l ++ four a0 a1 a2 a3) → K (.tuple #[]) h') : X Tryz.prog 34 #[.agg #[uv a0, uv a1, uv a2, uv a3], .pointer (some ⟨b, 0, none⟩)] h K := by
  have g0 : (dg a0).length ≤ 20 := dec_len h0
  have g0' := dec_len h0
  have g1 : (dg a1).length ≤ 20 := dec_len h1
  have g1' := dec_len h1
  have g2 : (dg a2).length ≤ 20 := dec_len h2
  have g2' := dec_len h2
  have g3 : (dg a3).length ≤ 20 := dec_len h3
  have g3' := dec_len h3
  refine fnv (args := _) mixed [(2, 2)] [] [] Tryz.func34 rfl (by kernel_rfl) ?_; conv => whnf
  refine loop_step ?_; conv => whnf
  refine fmtU_x (hp.le hB.le) a0 h0 ?_
  conv => whnf
  refine hB.ws liesB (dg a0) (dg_ne _) (by omega) fun h4 hB => ?_
  conv => whnf
  (first | refine ov_c (by simp only [loK, hiK]; omega) ?_ | refine ov_c (by decide) ?_); conv => whnf
  refine loop_step ?_; conv => whnf
  refine hB.wb liesB 32 (by simp only [List.length_append, List.length_singleton]; omega) fun h5 hB => ?_
  conv => whnf
  refine fmtU_x (hp.le hB.le) a1 h1 ?_
  conv => whnf
  refine hB.ws liesB (dg a1) (dg_ne _) (by simp only [List.length_append, List.length_singleton]; omega) fun h6 hB => ?_
  conv => whnf
  (first | refine ov_c (by simp only [loK, hiK]; omega) ?_ | refine ov_c (by decide) ?_); conv => whnf
  refine loop_step ?_; conv => whnf
  refine hB.wb liesB 32 (by simp only [List.length_append, List.length_singleton]; omega) fun h7 hB => ?_
  conv => whnf
  refine fmtU_x (hp.le hB.le) a2 h2 ?_
  conv => whnf
  refine hB.ws liesB (dg a2) (dg_ne _) (by simp only [List.length_append, List.length_singleton]; omega) fun h8 hB => ?_
  conv => whnf
  (first | refine ov_c (by simp only [loK, hiK]; omega) ?_ | refine ov_c (by decide) ?_); conv => whnf
  refine loop_step ?_; conv => whnf
  refine hB.wb liesB 32 (by simp only [List.length_append, List.length_singleton]; omega) fun h9 hB => ?_
  conv => whnf
  refine fmtU_x (hp.le hB.le) a3 h3 ?_
  conv => whnf
  refine hB.ws liesB (dg a3) (dg_ne _) (by simp only [List.length_append, List.length_singleton]; omega) fun h10 hB => ?_
  conv => whnf
  (first | refine ov_c (by simp only [loK, hiK]; omega) ?_ | refine ov_c (by decide) ?_); conv => whnf
  refine loop_step ?_; conv => whnf
  refine hk _ ?_
  simpa [four] using hB
theorem show_x (hp : Pow h) (o : Oc) (hw : ∀ x ∈ o.W, x < 18446744073709551616) (th : Int) (hk : ∀ h', h.le h' → K (.string (bs (showT o.W (min th.toNat 3)))) h') : X Tryz.prog 16 #[.agg o.cs.toArray, zv th] h K := by
  obtain ⟨n, hn⟩ : ∃ n : Nat, n = min th.toNat 3 := ⟨_, rfl⟩
  rw [← hn] at hk
  have hol := ocs_len o
  have hlen := showT_len o.len hw
  refine fnv (args := _) mixed [] [] [] Tryz.func16 rfl (by kernel_rfl) ?_; conv => whnf
  refine new_intro (o := rowO 50 o.cs) (fun bo h1 n_bo le_bo at_bo ot_bo => ?_); conv => whnf
  refine new_intro (o := rowO 54 [.pointer none, .slice none 0 0]) (fun b h2 n_b le_b at_b ot_b => ?_); conv => whnf
  have hB := Bds.of (k := h1) le_b n_b at_b
  have hp1 := hp.le le_bo
  obtain ⟨a0, a1, a2, a3, e0⟩ := quad o.len 0 (by decide)
  obtain ⟨g0, g1, g2, g3⟩ := quad_lt hw e0
  have s0 := showT_zero o.W
  have c0 := quad_cs e0
  rw [List.drop_zero] at e0
  rw [e0] at s0
  have at2 := le_b _ _ at_bo
  clear ot_b at_b le_b n_b
  conv => whnf
  refine ⟨_, loadP (k := 0) agg4 siz4 at2 c0 rfl, ?_⟩; conv => whnf
  refine showc_x hp1 b [] a0 a1 a2 a3 g0 g1 g2 g3 hB (by decide) fun h3 hB3 => ?_
  rw [List.nil_append, show four a0 a1 a2 a3 = showT o.W 0 from s0.symm] at hB3
  conv => whnf
  refine loop_at [16] [] (fun r vs _ h' => ∃ i : Nat, i ≤ n ∧ r = n - i ∧ vs = [.v (zv i)] ∧ Bds 54 h1 h' b (showT o.W i)) n ⟨0, by omega, by omega, rfl, hB3⟩ ?_
  clear hB hB3 e0 c0 s0 g0 g1 g2 g3
  rintro r vs cs mm bx h4 ⟨i, hi, rfl, rfl, hB4⟩
  have hl := hlen i (by omega)
  conv => whnf
  refine bsel_intro (fun q1 => ?_) (fun q1 => ?_) <;> try simp only [bsL] at q1
  · have hin : i < n := by
      rw [hn]
      omega
    have hi3 : i < 3 := by omega
    have hsc := showT_succ o.W i
    obtain ⟨a0, a1, a2, a3, e0⟩ := quad o.len (4 + i * 4) (by omega)
    obtain ⟨g0, g1, g2, g3⟩ := quad_lt hw e0
    have c0 := quad_cs e0
    rw [e0] at hsc
    conv => whnf
    refine hB4.ws liesB [32, 124, 32] (by simp) (by simp; omega) fun h5 hB5 => ?_
    have at5 := hB5.le _ _ at_bo
    conv => whnf
    (first | refine need_intro (⟨by omega, by omega⟩) ?_ | refine must.mk (⟨by omega, by omega⟩) ?_); conv => whnf
    refine ⟨_, loadPA (k := 4 + i * 4) (show ((⟨bo, 0, none⟩ : Addr).add 4).add (((i : Nat) : Int).toNat * 4) = ⟨bo, 4 + i * 4, none⟩ by simp [addr_add]) agg4 siz4 at5 c0 rfl, ?_⟩; conv => whnf
    refine showc_x hp1 b _ a0 a1 a2 a3 g0 g1 g2 g3 hB5 (by simp; omega) fun h6 hB6 => ?_
    have hB6 : Bds 54 h1 h6 b (showT o.W (i + 1)) := by
      rw [hsc, ← List.append_assoc]; exact hB6
    conv => whnf
    (first | refine ov_c (by simp only [loK, hiK]; omega) ?_ | refine ov_c (by decide) ?_); conv => whnf
    exact ⟨n - (i + 1), by omega, i + 1, by omega, rfl, rfl, hB6⟩
  · have hin : i = n := by
      rw [hn] at hi ⊢
      omega
    subst hin
    conv => whnf
    refine hB4.str (by omega) fun h7 hle => ?_
    conv => whnf
    exact hk _ (Hp.le_trans le_bo hle)
end
end Go.Proofs.YtciagjfemgfhgaaGreatDoor
/-! The chapter's example. -/
namespace Go.Proofs.YtciagjfemgfhgaaGreatDoor
set_option linter.unusedSimpArgs false
set_option linter.unusedVariables false
open Go Go.Mid Go.RowKit
attribute [local irreducible] mid
abbrev bd1 : Dd := ⟨1, 0, 0, 1⟩
abbrev bd2 : Dd := ⟨2, 0, 1, 0⟩
abbrev bd3 : Dd := ⟨1, 0, 1, 1⟩
abbrev bd4 : Dd := ⟨2, 0, 0, 0⟩
abbrev bufT : List (List Dd) := [[bd1, bd2], [bd3, bd4]]
abbrev bO1 : Oc := ⟨[1, 1, 0, 0, 0, 0, 0, 0, 1, 0, 0, 0, 0, 0, 0, 0], rfl⟩
abbrev bO2 : Oc := ⟨[1, 1, 0, 0, 1, 0, 0, 0, 0, 0, 0, 0, 0, 0, 0, 0], rfl⟩
abbrev bO3 : Oc := ⟨[1, 1, 0, 0, 1, 0, 0, 0, 1, 0, 0, 0, 0, 0, 0, 0], rfl⟩
theorem buf_runs : runs bufT 4 S0 = [bO1.W, bO3.W, bO3.W, bO3.W, bO3.W, bO2.W] := by decide +kernel
theorem buf_ris : Ris [bO1, bO2, bO3] := by
  unfold Ris
  decide +kernel
theorem buf_mem (o : Oc) : o ∈ [bO1, bO2, bO3] ↔ OutS bufT S0 o := by
  unfold OutS
  rw [runs_ok (n := 4) (by decide) (fun _ _ _ => by decide) rfl (by decide) (by decide) o.W, buf_runs]
  have e : ∀ p : Oc, o = p ↔ o.W = p.W := fun p => ⟨fun h => by rw [h], Oc.ext⟩
  simp only [List.mem_cons, List.not_mem_nil, or_false, e]
  constructor
  · rintro (h | h | h)
    · exact .inl h
    · exact .inr (.inr (.inr (.inr (.inr h))))
    · exact .inr (.inl h)
  · rintro (h | h | h | h | h | h)
    · exact .inl h
    · exact .inr (.inr h)
    · exact .inr (.inr h)
    · exact .inr (.inr h)
    · exact .inr (.inr h)
    · exact .inr (.inl h)
theorem buf_chk : chk bufT = 0 := by decide +kernel
theorem buf_text : showT bO1.W 2 = [49, 32, 49, 32, 48, 32, 48, 32, 124, 32, 48, 32, 48, 32, 48, 32, 48, 32, 124, 32, 49, 32, 48, 32, 48, 32, 48] := by decide +kernel
theorem buf_lt : ∀ x ∈ bO1.W, x < 18446744073709551616 := by decide
section
set_option maxHeartbeats 8000000
set_option maxRecDepth 10000
variable {h : Hp} {K : Value → Hp → Prop}
theorem aggDd : isAggT Tryz.prog 56 = some true := by kernel_rfl
theorem sizDd : sizeT Tryz.prog 56 = some 4 := by kernel_rfl
theorem buffering_x (hk : ∀ (v : Value) (Ts : List Th) (h' : Hp), h.le h' → Ts.map (·.L) = bufT → RdP h' v Ts → K (.agg #[v]) h') : X Tryz.prog 15 #[] h K := by
  refine fnv (args := _) mixed [(0, 0)] [] [] Tryz.func15 rfl (by kernel_rfl) ?_; conv => whnf
  refine new_intro (o := rowO 56 [zv 1, zv 0, zv 0, zv 1, zv 2, zv 0, zv 1, zv 0]) (fun b1 h1 n_b1 le_b1 at_b1 ot_b1 => ?_); conv => whnf
  refine new_intro (o := rowO 56 [zv 1, zv 0, zv 1, zv 1, zv 2, zv 0, zv 0, zv 0]) (fun b2 h2 n_b2 le_b2 at_b2 ot_b2 => ?_); conv => whnf
  refine new_intro (o := rowO 41 [.slice (some ⟨b1, 0, none⟩) 2 2, .slice (some ⟨b2, 0, none⟩) 2 2]) (fun b3 h3 n_b3 le_b3 at_b3 ot_b3 => ?_); conv => whnf
  have a1 := le_b3 _ _ (le_b2 _ _ at_b1)
  have a2 := le_b3 _ _ at_b2
  refine hk _ [⟨some ⟨b1, 0, none⟩, 2, [bd1, bd2]⟩, ⟨some ⟨b2, 0, none⟩, 2, [bd3, bd4]⟩] h3 (Hp.le_trans le_b1 (Hp.le_trans le_b2 le_b3)) rfl ⟨some ⟨b3, 0, none⟩, 2, rfl, fun i p hp => ⟨_, rfl, ?_⟩, fun p hp j d hd => ?_⟩
  · rw [Int.toNat_natCast]
    match i, hp with
    | 0, hp => cases hp; exact loadC1 aggDl at_b3 rfl
    | 1, hp => cases hp; exact loadC1 aggDl at_b3 rfl
  · rcases List.mem_cons.1 hp with rfl | hp
    · refine ⟨_, rfl, ?_⟩
      rw [Int.toNat_natCast]
      match j, hd with
      | 0, hd => cases hd; exact loadP (k := 0) aggDd sizDd a1 rfl rfl
      | 1, hd => cases hd; exact loadP (k := 4) aggDd sizDd a1 rfl rfl
    · rcases List.mem_cons.1 hp with rfl | hp
      · refine ⟨_, rfl, ?_⟩
        rw [Int.toNat_natCast]
        match j, hd with
        | 0, hd => cases hd; exact loadP (k := 0) aggDd sizDd a2 rfl rfl
        | 1, hd => cases hd; exact loadP (k := 4) aggDd sizDd a2 rfl rfl
      · cases hp
theorem live_x (hp : Pow h) (hk : K (.bool true) h) : X Tryz.prog 5 #[] h K := by
  refine X.forget ?_
  refine fnv (args := _) mixed [] [] [] Tryz.func5 rfl (by kernel_rfl) ?_; conv => whnf
  refine buffering_x fun v Ts h1 le1 hTs hr => ?_
  conv => whnf
  refine outcomes_x v Ts hr (fun h' hle hc => absurd (by rw [hTs]; exact buf_chk) hc) fun L' s' h2 hc hris hmem le2 hlen hrd => ?_
  have hL : L' = [bO1, bO2, bO3] := ris_eq hris buf_ris fun o => by rw [hmem, hTs, buf_mem]
  subst hL
  obtain ⟨base, cap, rfl, f⟩ := hrd
  obtain ⟨a, rfl, l1⟩ := f 0 _ rfl
  conv => whnf
  refine ⟨_, l1, ?_⟩; conv => whnf
  refine show_x (hp.le (Hp.le_trans le1 le2)) bO1 buf_lt 2 fun h3 le3 => ?_
  conv => whnf
  refine seq_true (buf_text) ?_; conv => whnf
  exact ⟨h, Hp.le_trans le1 (Hp.le_trans le2 le3), hk⟩
end
end Go.Proofs.YtciagjfemgfhgaaGreatDoor
