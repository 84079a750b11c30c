/-
  A deed of a text: the document's.
-/
import Derived.Test.YtciagjfemgfhgaaGreatDoorLte
namespace Go.Proofs.YtciagjfemgfhgaaGreatDoor
set_option linter.unusedSimpArgs false
set_option linter.unusedVariables false
open Go Go.Mid Go.RowKit
abbrev rfXLtAb0 : Go.Mid.RF := [(2, 2), (5, 5), (24, 5), (25, 5), (33, 5), (51, 5), (69, 5), (72, 5), (103, 5)]
attribute [local irreducible] mid
section
set_option maxHeartbeats 8000000
set_option maxRecDepth 10000
variable {h : Hp} {K : Value → Hp → Prop}
theorem rread0_x (s w0 : Str) (hs : s.length ≤ 1000) (hW : sp [32] s = w0 :: ([])) (hk : ∀ h', h.le h' → K (.tuple #[.agg (readS s).1.cs.toArray, zv (readS s).2]) h') : X Tryz.prog 46 #[sv s] h K := by
  have hR : readS s = readL (whatN w0) ([]) := by unfold readS; rw [hW]; rfl
  have hwl : ∀ x ∈ w0 :: ([]), x.length ≤ 1000 := fun x hx => Nat.le_trans (sp_mem_len (hW ▸ hx)) hs
  have hll : (w0 :: ([])).length ≤ 2 ^ 29 := by
    rw [← hW, sp_len [32] s (by simp)]
    have := Lib.countB_le (bs [32]) (by decide) _ (bs s) (Nat.le_refl _)
    rw [bs_size] at this; omega
  rw [hR] at hk
  have hkle := whatN_le w0
  have hwi := what_iff w0
  refine fnv (args := _) mixed rfXLtAb0 [] [21] Tryz.func46 rfl (by kernel_rfl) ?_; conv => whnf
  refine rsplit_x s (by omega) fun sl h1 hO => ?_
  rw [hW] at hO
  obtain ⟨bw, cap, rest, rfl, hcap, hbw, _⟩ := hO.row (by simp)
  have le1 := hO.le
  have hlen1 : 0 < (w0 :: ([])).length := by simp
  clear hO
  generalize whatN w0 = k at *
  conv => whnf
  refine loop_at [6] [2, 5] (fun r vs cs h' => h1 = h' ∧ ∃ j : Nat, 1 ≤ j ∧ j ≤ 7 ∧ r = 7 - j ∧ vs = [.v (zv j)] ∧ cs = [some [zv 0, zv 0, zv 0, zv 0], some [zv (if k < j then k else 0 : Nat), zv 0, zv 0, zv 0]]) 6 ⟨rfl, 1, by omega, by omega, rfl, rfl, by
    have : (if k < 1 then k else 0) = 0 := by split <;> omega
    rw [this]; rfl⟩ ?_
  rintro r vs cs mm bx _ ⟨rfl, j, hj1, hj7, rfl, rfl, rfl⟩
  conv => whnf
  refine bsel_intro (fun q1 => ?_) (fun q1 => ?_) <;> try simp only [bsL] at q1
  · have hj6 : j ≤ 6 := by omega
    have hjk := hwi j hj1 hj6
    conv => whnf
    refine ⟨fun h' => h' bw = some (rowO 9 ((w0 :: ([])).map sv ++ rest)), hbw, ?_⟩
    conv => whnf
    refine rname_x j (by omega) ?_
    refine ⟨hbw, ?_⟩
    conv => whnf
    try (first | refine need_intro (⟨by omega, by omega⟩) ?_ | refine must.mk (⟨by omega, by omega⟩) ?_)
    try (conv => whnf)
    refine ⟨_, fun _ hh => loadI (j := 0) aggStr hh rfl rfl, ?_⟩
    conv => whnf
    by_cases hnm : nm j = w0
    · have hk9 := hjk.1 hnm
      refine seq_true (hnm) ?_; conv => whnf
      (first | refine ov_c (by simp only [loK, hiK]; omega) ?_ | refine ov_c (by decide) ?_); conv => whnf
      refine ⟨7 - (j + 1), by omega, rfl, j + 1, by omega, by omega, rfl, rfl, ?_⟩
      rw [if_pos (show k < j + 1 by omega), hk9]
      rfl
    · have hk9 : k ≠ j := fun e => hnm (hjk.2 e)
      refine seq_false (hnm) ?_; conv => whnf
      (first | refine ov_c (by simp only [loK, hiK]; omega) ?_ | refine ov_c (by decide) ?_); conv => whnf
      refine ⟨7 - (j + 1), by omega, rfl, j + 1, by omega, by omega, rfl, rfl, ?_⟩
      rw [show (if k < j + 1 then k else 0) = (if k < j then k else 0) by (repeat' split) <;> omega]
      rfl
  have hj : j = 7 := by omega
  subst hj
  rw [if_pos (show k < 7 by omega)]
  clear hwi q1
  have hbad : ∀ h', h.le h' → readL k ([]) = (dZ, 2) → K (.tuple #[.agg #[zv 0, zv 0, zv 0, zv 0], zv 2]) h' := fun h' hle e => by
    have := hk h' hle
    rw [e] at this
    exact this
  have hgo : ∀ h' (D : Dd) (e : Int), h.le h' → readL k ([]) = (D, e) → K (.tuple #[.agg D.cs.toArray, zv e]) h' := fun h' D e hle he => by
    have := hk h' hle
    rw [he] at this
    exact this
  clear hk
  conv => whnf
  refine bsel_intro (fun q2 => ?_) (fun q2 => ?_) <;> try simp only [bsL] at q2
  · have hk0 : k = 0 := by omega
    conv => whnf
    exact hbad _ le1 (by unfold readL; rw [if_pos hk0])
  have hk0 : k ≠ 0 := by omega
  clear q2
  conv => whnf
  try (first | refine need_intro (⟨by omega, by omega⟩) ?_ | refine must.mk (⟨by omega, by omega⟩) ?_)
  try (conv => whnf)
  refine bsel_intro (fun qc => ?_) (fun qc => ?_)
  · clear qc
    conv => whnf
    refine Owns.appN (z := .string ⟨#[]⟩) (news := []) (bytes := 16) (by kernel_rfl) infS (by kernel_rfl) (by kernel_rfl) (by kernel_rfl) rfl (by decide) rfl rfl rfl (Owns.nil (Hp.le_refl _)) rfl (fun j v hj => by simp at hj) (fun e => by cases e) rfl (by show 0 + ([w0].length - 1) ≤ 2 ^ 31; simp) fun sL h2 hO => ?_
    have hO : Owns h1 h2 9 1 sL 0 [] := hO
    obtain ⟨sa, sc, rfl⟩ := hO.shape
    have le2 := Hp.le_trans le1 hO.le
    conv => whnf
    refine reg_x (k : Int) ?_
    by_cases hk1 : k = 1
    · rw [decide_eq_false (by omega)]
      have hrd : readL k [] = readV k 0 [] := readL_one hk1
      conv => whnf
      try (refine bsel_true ?_ ?_; · (simp <;> omega); try (conv => whnf))
      exact hbad _ le2 (by rw [hrd]; rfl)
    · rw [decide_eq_true (by omega)]
      conv => whnf
      try (refine bsel_true ?_ ?_; · (simp <;> omega); try (conv => whnf))
      exact hbad _ le2 (by unfold readL; rw [if_neg hk0, if_neg hk1])
  · clear qc
    conv => whnf
    refine Owns.appN (z := .string ⟨#[]⟩) (news := []) (bytes := 16) (by kernel_rfl) infS (by kernel_rfl) (by kernel_rfl) (by kernel_rfl) rfl (by decide) rfl rfl rfl (Owns.nil (Hp.le_refl _)) rfl (fun j v hj => by simp at hj) (fun e => by cases e) rfl (by show 0 + ([w0].length - 1) ≤ 2 ^ 31; simp) fun sL h2 hO => ?_
    have hO : Owns h1 h2 9 1 sL 0 [] := hO
    obtain ⟨sa, sc, rfl⟩ := hO.shape
    have le2 := Hp.le_trans le1 hO.le
    conv => whnf
    refine reg_x (k : Int) ?_
    by_cases hk1 : k = 1
    · rw [decide_eq_false (by omega)]
      have hrd : readL k [] = readV k 0 [] := readL_one hk1
      conv => whnf
      try (refine bsel_true ?_ ?_; · (simp <;> omega); try (conv => whnf))
      exact hbad _ le2 (by rw [hrd]; rfl)
    · rw [decide_eq_true (by omega)]
      conv => whnf
      try (refine bsel_true ?_ ?_; · (simp <;> omega); try (conv => whnf))
      exact hbad _ le2 (by unfold readL; rw [if_neg hk0, if_neg hk1])
theorem rread1_x (s w0 a : Str) (hs : s.length ≤ 1000) (hW : sp [32] s = w0 :: ([a])) (hk : ∀ h', h.le h' → K (.tuple #[.agg (readS s).1.cs.toArray, zv (readS s).2]) h') : X Tryz.prog 46 #[sv s] h K := by
  have hR : readS s = readL (whatN w0) ([a]) := by unfold readS; rw [hW]; rfl
  have hwl : ∀ x ∈ w0 :: ([a]), x.length ≤ 1000 := fun x hx => Nat.le_trans (sp_mem_len (hW ▸ hx)) hs
  have hll : (w0 :: ([a])).length ≤ 2 ^ 29 := by
    rw [← hW, sp_len [32] s (by simp)]
    have := Lib.countB_le (bs [32]) (by decide) _ (bs s) (Nat.le_refl _)
    rw [bs_size] at this; omega
  rw [hR] at hk
  have hkle := whatN_le w0
  have hwi := what_iff w0
  refine fnv (args := _) mixed rfXLtAb0 [] [21] Tryz.func46 rfl (by kernel_rfl) ?_; conv => whnf
  refine rsplit_x s (by omega) fun sl h1 hO => ?_
  rw [hW] at hO
  obtain ⟨bw, cap, rest, rfl, hcap, hbw, _⟩ := hO.row (by simp)
  have le1 := hO.le
  have hlen1 : 0 < (w0 :: ([a])).length := by simp
  clear hO
  generalize whatN w0 = k at *
  conv => whnf
  refine loop_at [6] [2, 5] (fun r vs cs h' => h1 = h' ∧ ∃ j : Nat, 1 ≤ j ∧ j ≤ 7 ∧ r = 7 - j ∧ vs = [.v (zv j)] ∧ cs = [some [zv 0, zv 0, zv 0, zv 0], some [zv (if k < j then k else 0 : Nat), zv 0, zv 0, zv 0]]) 6 ⟨rfl, 1, by omega, by omega, rfl, rfl, by
    have : (if k < 1 then k else 0) = 0 := by split <;> omega
    rw [this]; rfl⟩ ?_
  rintro r vs cs mm bx _ ⟨rfl, j, hj1, hj7, rfl, rfl, rfl⟩
  conv => whnf
  refine bsel_intro (fun q1 => ?_) (fun q1 => ?_) <;> try simp only [bsL] at q1
  · have hj6 : j ≤ 6 := by omega
    have hjk := hwi j hj1 hj6
    conv => whnf
    refine ⟨fun h' => h' bw = some (rowO 9 ((w0 :: ([a])).map sv ++ rest)), hbw, ?_⟩
    conv => whnf
    refine rname_x j (by omega) ?_
    refine ⟨hbw, ?_⟩
    conv => whnf
    try (first | refine need_intro (⟨by omega, by omega⟩) ?_ | refine must.mk (⟨by omega, by omega⟩) ?_)
    try (conv => whnf)
    refine ⟨_, fun _ hh => loadI (j := 0) aggStr hh rfl rfl, ?_⟩
    conv => whnf
    by_cases hnm : nm j = w0
    · have hk9 := hjk.1 hnm
      refine seq_true (hnm) ?_; conv => whnf
      (first | refine ov_c (by simp only [loK, hiK]; omega) ?_ | refine ov_c (by decide) ?_); conv => whnf
      refine ⟨7 - (j + 1), by omega, rfl, j + 1, by omega, by omega, rfl, rfl, ?_⟩
      rw [if_pos (show k < j + 1 by omega), hk9]
      rfl
    · have hk9 : k ≠ j := fun e => hnm (hjk.2 e)
      refine seq_false (hnm) ?_; conv => whnf
      (first | refine ov_c (by simp only [loK, hiK]; omega) ?_ | refine ov_c (by decide) ?_); conv => whnf
      refine ⟨7 - (j + 1), by omega, rfl, j + 1, by omega, by omega, rfl, rfl, ?_⟩
      rw [show (if k < j + 1 then k else 0) = (if k < j then k else 0) by (repeat' split) <;> omega]
      rfl
  have hj : j = 7 := by omega
  subst hj
  rw [if_pos (show k < 7 by omega)]
  clear hwi q1
  have hbad : ∀ h', h.le h' → readL k ([a]) = (dZ, 2) → K (.tuple #[.agg #[zv 0, zv 0, zv 0, zv 0], zv 2]) h' := fun h' hle e => by
    have := hk h' hle
    rw [e] at this
    exact this
  have hgo : ∀ h' (D : Dd) (e : Int), h.le h' → readL k ([a]) = (D, e) → K (.tuple #[.agg D.cs.toArray, zv e]) h' := fun h' D e hle he => by
    have := hk h' hle
    rw [he] at this
    exact this
  clear hk
  conv => whnf
  refine bsel_intro (fun q2 => ?_) (fun q2 => ?_) <;> try simp only [bsL] at q2
  · have hk0 : k = 0 := by omega
    conv => whnf
    exact hbad _ le1 (by unfold readL; rw [if_pos hk0])
  have hk0 : k ≠ 0 := by omega
  clear q2
  conv => whnf
  try (first | refine need_intro (⟨by omega, by omega⟩) ?_ | refine must.mk (⟨by omega, by omega⟩) ?_)
  try (conv => whnf)
  have hcells : ∀ (u : Nat) (v : Value), (([a]).map sv)[u]? = some v → h1.cell? ⟨bw, 1 + u, none⟩ = some v := fun u v hv => by
    refine cell_row hbw ?_
    rw [List.getElem?_append_left (by have := (List.getElem?_eq_some_iff.1 hv).1; rw [List.length_map] at this ⊢; simp; simp at this; omega), List.map_cons, show 1 + u = u + 1 by omega, List.getElem?_cons_succ]
    exact hv
  refine bsel_intro (fun qc => ?_) (fun qc => ?_)
  · exfalso
    have := of_decide_eq_true qc
    simp at hcap this
    omega
  · clear qc
    conv => whnf
    refine Owns.appN (z := .string ⟨#[]⟩) (news := ([a]).map sv) (bytes := 16) (by kernel_rfl) infS (by kernel_rfl) (by kernel_rfl) (by kernel_rfl) rfl (by decide) rfl rfl rfl (Owns.nil (Hp.le_refl _)) (by rw [List.length_map]; exact (Nat.mul_one _).symm) (fun j v hj => ⟨_, rfl, ?_⟩) (fun e => by cases e) (by simp [Value.oneCell']) (by have h9 := hll; show 0 + ((w0 :: ([a])).length - 1) ≤ 2 ^ 31; omega) fun sL h2 hO => ?_
    · show h1.cell? (((⟨bw, 0, none⟩ : Addr).add (1 * 1)).add j) = _
      rw [addr_add, addr_add]
      simpa using hcells j v hj
    have hO : Owns h1 h2 9 1 sL ([a]).length (([a]).map sv) := by
      have e := hO
      simp only [List.nil_append] at e
      exact e
    obtain ⟨b2, cap2, rest2, e2, hcap2, hb2, _⟩ := hO.row (by simp)
    have le2 := Hp.le_trans le1 hO.le
    cases e2
    conv => whnf
    refine reg_x (k : Int) ?_
    by_cases hk1 : k = 1
    · rw [decide_eq_false (by omega)]
      have hrd : readL k [a] = readV k 0 [a] := readL_one hk1
      conv => whnf
      try (refine bsel_false ?_ ?_; · (simp <;> omega); try (conv => whnf))
      try (first | refine need_intro (⟨by omega, by omega⟩) ?_ | refine must.mk (⟨by omega, by omega⟩) ?_)
      try (conv => whnf)
      refine ⟨_, loadCA (show _ = (⟨b2, 0, none⟩ : Addr) by first | (simp [addr_add]; done) | (simp [addr_add]; kernel_rfl)) aggStr hb2 rfl, ?_⟩; conv => whnf
      refine find_x xyzt a (by decide) ?_
      unfold letN
      cases hB : letF xyzt a with
      | none =>
        conv => whnf
        exact hbad _ le2 (by rw [hrd]; simp only [readV, hB])
      | some v =>
        simp only []
        conv => whnf
        try (refine bsel_false ?_ ?_; · (simp <;> omega); try (conv => whnf))
        try (first | refine need_intro (⟨by omega, by omega⟩) ?_ | refine must.mk (⟨by omega, by omega⟩) ?_)
        try (conv => whnf)
        refine ⟨_, loadCA (show _ = (⟨b2, 0, none⟩ : Addr) by first | (simp [addr_add]; done) | (simp [addr_add]; kernel_rfl)) aggStr hb2 rfl, ?_⟩; conv => whnf
        refine find_x xyzt a (by decide) ?_
        unfold letN
        rw [hB]
        simp only []
        conv => whnf
        try (first | refine need_intro (⟨by omega, by omega⟩) ?_ | refine must.mk (⟨by omega, by omega⟩) ?_)
        try (conv => whnf)
        refine bsel_intro (fun qd => ?_) (fun qd => ?_)
        · clear qd
          conv => whnf
          have hnb : numB (k : Int) = true := by rw [hk1]; rfl
          refine num_x (k : Int) ?_
          rw [hnb]
          conv => whnf
          try (refine bsel_true ?_ ?_; · (simp <;> omega); try (conv => whnf))
          exact hbad _ le2 (by rw [hrd]; simp only [readV, hB, hnb]; rfl)
        · clear qd
          conv => whnf
          have hnb : numB (k : Int) = true := by rw [hk1]; rfl
          refine num_x (k : Int) ?_
          rw [hnb]
          conv => whnf
          try (refine bsel_true ?_ ?_; · (simp <;> omega); try (conv => whnf))
          exact hbad _ le2 (by rw [hrd]; simp only [readV, hB, hnb]; rfl)
    · rw [decide_eq_true (by omega)]
      conv => whnf
      try (refine bsel_false ?_ ?_; · (simp <;> omega); try (conv => whnf))
      try (first | refine need_intro (⟨by omega, by omega⟩) ?_ | refine must.mk (⟨by omega, by omega⟩) ?_)
      try (conv => whnf)
      refine ⟨_, loadCA (show _ = (⟨b2, 0, none⟩ : Addr) by first | (simp [addr_add]; done) | (simp [addr_add]; kernel_rfl)) aggStr hb2 rfl, ?_⟩; conv => whnf
      refine find_x abcd a (by decide) ?_
      unfold letN
      cases hA : letF abcd a with
      | none =>
        conv => whnf
        exact hbad _ le2 (by rw [readL_reg hk0 hk1, hA])
      | some r =>
        have hrd : readL k [a] = readV k r [] := by rw [readL_reg hk0 hk1, hA]
        simp only []
        conv => whnf
        try (refine bsel_false ?_ ?_; · (simp <;> omega); try (conv => whnf))
        try (first | refine need_intro (⟨by omega, by omega⟩) ?_ | refine must.mk (⟨by omega, by omega⟩) ?_)
        try (conv => whnf)
        refine ⟨_, loadCA (show _ = (⟨b2, 0, none⟩ : Addr) by first | (simp [addr_add]; done) | (simp [addr_add]; kernel_rfl)) aggStr hb2 rfl, ?_⟩; conv => whnf
        refine find_x abcd a (by decide) ?_
        unfold letN
        rw [hA]
        simp only []
        conv => whnf
        try (first | refine need_intro (⟨by omega, by omega⟩) ?_ | refine must.mk (⟨by omega, by omega⟩) ?_)
        try (conv => whnf)
        refine bsel_intro (fun qd => ?_) (fun qd => ?_)
        · clear qd
          conv => whnf
          try (refine bsel_true ?_ ?_; · (simp <;> omega); try (conv => whnf))
          exact hbad _ le2 (by rw [hrd]; rfl)
        · clear qd
          conv => whnf
          try (refine bsel_true ?_ ?_; · (simp <;> omega); try (conv => whnf))
          exact hbad _ le2 (by rw [hrd]; rfl)
theorem rread2_x (s w0 a b : Str) (hs : s.length ≤ 1000) (hW : sp [32] s = w0 :: ([a, b])) (hk : ∀ h', h.le h' → K (.tuple #[.agg (readS s).1.cs.toArray, zv (readS s).2]) h') : X Tryz.prog 46 #[sv s] h K := by
  have hR : readS s = readL (whatN w0) ([a, b]) := by unfold readS; rw [hW]; rfl
  have hwl : ∀ x ∈ w0 :: ([a, b]), x.length ≤ 1000 := fun x hx => Nat.le_trans (sp_mem_len (hW ▸ hx)) hs
  have hll : (w0 :: ([a, b])).length ≤ 2 ^ 29 := by
    rw [← hW, sp_len [32] s (by simp)]
    have := Lib.countB_le (bs [32]) (by decide) _ (bs s) (Nat.le_refl _)
    rw [bs_size] at this; omega
  rw [hR] at hk
  have hkle := whatN_le w0
  have hwi := what_iff w0
  refine fnv (args := _) mixed rfXLtAb0 [] [21] Tryz.func46 rfl (by kernel_rfl) ?_; conv => whnf
  refine rsplit_x s (by omega) fun sl h1 hO => ?_
  rw [hW] at hO
  obtain ⟨bw, cap, rest, rfl, hcap, hbw, _⟩ := hO.row (by simp)
  have le1 := hO.le
  have hlen1 : 0 < (w0 :: ([a, b])).length := by simp
  clear hO
  generalize whatN w0 = k at *
  conv => whnf
  refine loop_at [6] [2, 5] (fun r vs cs h' => h1 = h' ∧ ∃ j : Nat, 1 ≤ j ∧ j ≤ 7 ∧ r = 7 - j ∧ vs = [.v (zv j)] ∧ cs = [some [zv 0, zv 0, zv 0, zv 0], some [zv (if k < j then k else 0 : Nat), zv 0, zv 0, zv 0]]) 6 ⟨rfl, 1, by omega, by omega, rfl, rfl, by
    have : (if k < 1 then k else 0) = 0 := by split <;> omega
    rw [this]; rfl⟩ ?_
  rintro r vs cs mm bx _ ⟨rfl, j, hj1, hj7, rfl, rfl, rfl⟩
  conv => whnf
  refine bsel_intro (fun q1 => ?_) (fun q1 => ?_) <;> try simp only [bsL] at q1
  · have hj6 : j ≤ 6 := by omega
    have hjk := hwi j hj1 hj6
    conv => whnf
    refine ⟨fun h' => h' bw = some (rowO 9 ((w0 :: ([a, b])).map sv ++ rest)), hbw, ?_⟩
    conv => whnf
    refine rname_x j (by omega) ?_
    refine ⟨hbw, ?_⟩
    conv => whnf
    try (first | refine need_intro (⟨by omega, by omega⟩) ?_ | refine must.mk (⟨by omega, by omega⟩) ?_)
    try (conv => whnf)
    refine ⟨_, fun _ hh => loadI (j := 0) aggStr hh rfl rfl, ?_⟩
    conv => whnf
    by_cases hnm : nm j = w0
    · have hk9 := hjk.1 hnm
      refine seq_true (hnm) ?_; conv => whnf
      (first | refine ov_c (by simp only [loK, hiK]; omega) ?_ | refine ov_c (by decide) ?_); conv => whnf
      refine ⟨7 - (j + 1), by omega, rfl, j + 1, by omega, by omega, rfl, rfl, ?_⟩
      rw [if_pos (show k < j + 1 by omega), hk9]
      rfl
    · have hk9 : k ≠ j := fun e => hnm (hjk.2 e)
      refine seq_false (hnm) ?_; conv => whnf
      (first | refine ov_c (by simp only [loK, hiK]; omega) ?_ | refine ov_c (by decide) ?_); conv => whnf
      refine ⟨7 - (j + 1), by omega, rfl, j + 1, by omega, by omega, rfl, rfl, ?_⟩
      rw [show (if k < j + 1 then k else 0) = (if k < j then k else 0) by (repeat' split) <;> omega]
      rfl
  have hj : j = 7 := by omega
  subst hj
  rw [if_pos (show k < 7 by omega)]
  clear hwi q1
  have hbad : ∀ h', h.le h' → readL k ([a, b]) = (dZ, 2) → K (.tuple #[.agg #[zv 0, zv 0, zv 0, zv 0], zv 2]) h' := fun h' hle e => by
    have := hk h' hle
    rw [e] at this
    exact this
  have hgo : ∀ h' (D : Dd) (e : Int), h.le h' → readL k ([a, b]) = (D, e) → K (.tuple #[.agg D.cs.toArray, zv e]) h' := fun h' D e hle he => by
    have := hk h' hle
    rw [he] at this
    exact this
  clear hk
  conv => whnf
  refine bsel_intro (fun q2 => ?_) (fun q2 => ?_) <;> try simp only [bsL] at q2
  · have hk0 : k = 0 := by omega
    conv => whnf
    exact hbad _ le1 (by unfold readL; rw [if_pos hk0])
  have hk0 : k ≠ 0 := by omega
  clear q2
  conv => whnf
  try (first | refine need_intro (⟨by omega, by omega⟩) ?_ | refine must.mk (⟨by omega, by omega⟩) ?_)
  try (conv => whnf)
  have hcells : ∀ (u : Nat) (v : Value), (([a, b]).map sv)[u]? = some v → h1.cell? ⟨bw, 1 + u, none⟩ = some v := fun u v hv => by
    refine cell_row hbw ?_
    rw [List.getElem?_append_left (by have := (List.getElem?_eq_some_iff.1 hv).1; rw [List.length_map] at this ⊢; simp; simp at this; omega), List.map_cons, show 1 + u = u + 1 by omega, List.getElem?_cons_succ]
    exact hv
  refine bsel_intro (fun qc => ?_) (fun qc => ?_)
  · exfalso
    have := of_decide_eq_true qc
    simp at hcap this
    omega
  · clear qc
    conv => whnf
    refine Owns.appN (z := .string ⟨#[]⟩) (news := ([a, b]).map sv) (bytes := 16) (by kernel_rfl) infS (by kernel_rfl) (by kernel_rfl) (by kernel_rfl) rfl (by decide) rfl rfl rfl (Owns.nil (Hp.le_refl _)) (by rw [List.length_map]; exact (Nat.mul_one _).symm) (fun j v hj => ⟨_, rfl, ?_⟩) (fun e => by cases e) (by simp [Value.oneCell']) (by have h9 := hll; show 0 + ((w0 :: ([a, b])).length - 1) ≤ 2 ^ 31; omega) fun sL h2 hO => ?_
    · show h1.cell? (((⟨bw, 0, none⟩ : Addr).add (1 * 1)).add j) = _
      rw [addr_add, addr_add]
      simpa using hcells j v hj
    have hO : Owns h1 h2 9 1 sL ([a, b]).length (([a, b]).map sv) := by
      have e := hO
      simp only [List.nil_append] at e
      exact e
    obtain ⟨b2, cap2, rest2, e2, hcap2, hb2, _⟩ := hO.row (by simp)
    have le2 := Hp.le_trans le1 hO.le
    cases e2
    conv => whnf
    refine reg_x (k : Int) ?_
    by_cases hk1 : k = 1
    · rw [decide_eq_false (by omega)]
      have hrd : readL k [a, b] = readV k 0 [a, b] := readL_one hk1
      conv => whnf
      try (refine bsel_false ?_ ?_; · (simp <;> omega); try (conv => whnf))
      try (first | refine need_intro (⟨by omega, by omega⟩) ?_ | refine must.mk (⟨by omega, by omega⟩) ?_)
      try (conv => whnf)
      refine ⟨_, loadCA (show _ = (⟨b2, 0, none⟩ : Addr) by first | (simp [addr_add]; done) | (simp [addr_add]; kernel_rfl)) aggStr hb2 rfl, ?_⟩; conv => whnf
      refine find_x xyzt a (by decide) ?_
      unfold letN
      cases hB : letF xyzt a with
      | none =>
        conv => whnf
        exact hbad _ le2 (by rw [hrd]; simp only [readV, hB])
      | some v =>
        simp only []
        conv => whnf
        try (refine bsel_false ?_ ?_; · (simp <;> omega); try (conv => whnf))
        try (first | refine need_intro (⟨by omega, by omega⟩) ?_ | refine must.mk (⟨by omega, by omega⟩) ?_)
        try (conv => whnf)
        refine ⟨_, loadCA (show _ = (⟨b2, 0, none⟩ : Addr) by first | (simp [addr_add]; done) | (simp [addr_add]; kernel_rfl)) aggStr hb2 rfl, ?_⟩; conv => whnf
        refine find_x xyzt a (by decide) ?_
        unfold letN
        rw [hB]
        simp only []
        conv => whnf
        try (first | refine need_intro (⟨by omega, by omega⟩) ?_ | refine must.mk (⟨by omega, by omega⟩) ?_)
        try (conv => whnf)
        refine bsel_intro (fun qd => ?_) (fun qd => ?_)
        · exfalso
          have := of_decide_eq_true qd
          simp at hcap2 this
          omega
        · clear qd
          conv => whnf
          have hnb : numB (k : Int) = true := by rw [hk1]; rfl
          refine num_x (k : Int) ?_
          rw [hnb]
          conv => whnf
          try (refine bsel_false ?_ ?_; · (simp <;> omega); try (conv => whnf))
          try (first | refine need_intro (⟨by omega, by omega⟩) ?_ | refine must.mk (⟨by omega, by omega⟩) ?_)
          try (conv => whnf)
          refine ⟨_, loadCA (show _ = (⟨b2, 1, none⟩ : Addr) by first | (simp [addr_add]; done) | (simp [addr_add]; kernel_rfl)) aggStr hb2 rfl, ?_⟩; conv => whnf
          refine number_x b (Nat.le_trans (hwl b (by simp)) (by decide)) fun kk ok hNum => ?_
          have hnat := natS_num hNum
          have hv : readL k [a, b] = match natS b with
                | none => (dZ, 2)
                | some n => if 255 < n then (dZ, 3) else (⟨k, 0, v, n⟩, 0) := by rw [hrd]; simp only [readV, hB, hnb, if_true]; rfl
          cases ok with
          | false =>
            rw [hnat.2 (.inl rfl)] at hv
            conv => whnf
            exact hbad _ le2 hv
          | true =>
            conv => whnf
            refine bsel_intro (fun q7 => ?_) (fun q7 => ?_) <;> try simp only [bsL] at q7
            · rw [hnat.2 (.inr q7)] at hv
              conv => whnf
              exact hbad _ le2 hv
            rw [hnat.1 rfl (by omega)] at hv
            simp only [] at hv
            conv => whnf
            refine bsel_intro (fun q8 => ?_) (fun q8 => ?_) <;> try simp only [bsL] at q8
            · rw [if_pos (by omega)] at hv
              conv => whnf
              exact hgo _ dZ 3 le2 hv
            · rw [if_neg (by omega)] at hv
              have hvt : ((kk.toNat : Nat) : Int) = kk := Int.toNat_of_nonneg (by omega)
              have hk9 := hgo _ _ _ le2 hv
              have hcs : (Dd.mk k 0 v (kk.toNat : Nat)).cs = [zv k, zv (0 : Nat), zv v, zv kk] := by rw [hvt]; rfl
              rw [hcs] at hk9
              conv => whnf
              exact hk9
    · rw [decide_eq_true (by omega)]
      conv => whnf
      try (refine bsel_false ?_ ?_; · (simp <;> omega); try (conv => whnf))
      try (first | refine need_intro (⟨by omega, by omega⟩) ?_ | refine must.mk (⟨by omega, by omega⟩) ?_)
      try (conv => whnf)
      refine ⟨_, loadCA (show _ = (⟨b2, 0, none⟩ : Addr) by first | (simp [addr_add]; done) | (simp [addr_add]; kernel_rfl)) aggStr hb2 rfl, ?_⟩; conv => whnf
      refine find_x abcd a (by decide) ?_
      unfold letN
      cases hA : letF abcd a with
      | none =>
        conv => whnf
        exact hbad _ le2 (by rw [readL_reg hk0 hk1, hA])
      | some r =>
        have hrd : readL k [a, b] = readV k r [b] := by rw [readL_reg hk0 hk1, hA]
        simp only []
        conv => whnf
        try (refine bsel_false ?_ ?_; · (simp <;> omega); try (conv => whnf))
        try (first | refine need_intro (⟨by omega, by omega⟩) ?_ | refine must.mk (⟨by omega, by omega⟩) ?_)
        try (conv => whnf)
        refine ⟨_, loadCA (show _ = (⟨b2, 0, none⟩ : Addr) by first | (simp [addr_add]; done) | (simp [addr_add]; kernel_rfl)) aggStr hb2 rfl, ?_⟩; conv => whnf
        refine find_x abcd a (by decide) ?_
        unfold letN
        rw [hA]
        simp only []
        conv => whnf
        try (first | refine need_intro (⟨by omega, by omega⟩) ?_ | refine must.mk (⟨by omega, by omega⟩) ?_)
        try (conv => whnf)
        refine bsel_intro (fun qd => ?_) (fun qd => ?_)
        · exfalso
          have := of_decide_eq_true qd
          simp at hcap2 this
          omega
        · clear qd
          conv => whnf
          try (refine bsel_false ?_ ?_; · (simp <;> omega); try (conv => whnf))
          try (first | refine need_intro (⟨by omega, by omega⟩) ?_ | refine must.mk (⟨by omega, by omega⟩) ?_)
          try (conv => whnf)
          refine ⟨_, loadCA (show _ = (⟨b2, 1, none⟩ : Addr) by first | (simp [addr_add]; done) | (simp [addr_add]; kernel_rfl)) aggStr hb2 rfl, ?_⟩; conv => whnf
          refine find_x xyzt b (by decide) ?_
          unfold letN
          cases hB : letF xyzt b with
          | none =>
            conv => whnf
            exact hbad _ le2 (by rw [hrd]; simp only [readV, hB])
          | some v =>
            simp only []
            conv => whnf
            try (refine bsel_false ?_ ?_; · (simp <;> omega); try (conv => whnf))
            try (first | refine need_intro (⟨by omega, by omega⟩) ?_ | refine must.mk (⟨by omega, by omega⟩) ?_)
            try (conv => whnf)
            refine ⟨_, loadCA (show _ = (⟨b2, 1, none⟩ : Addr) by first | (simp [addr_add]; done) | (simp [addr_add]; kernel_rfl)) aggStr hb2 rfl, ?_⟩; conv => whnf
            refine find_x xyzt b (by decide) ?_
            unfold letN
            rw [hB]
            simp only []
            conv => whnf
            try (first | refine need_intro (⟨by omega, by omega⟩) ?_ | refine must.mk (⟨by omega, by omega⟩) ?_)
            try (conv => whnf)
            refine bsel_intro (fun qd => ?_) (fun qd => ?_)
            · clear qd
              conv => whnf
              refine num_x (k : Int) ?_
              cases hnb : numB (k : Int) with
              | true =>
                conv => whnf
                try (refine bsel_true ?_ ?_; · (simp <;> omega); try (conv => whnf))
                exact hbad _ le2 (by rw [hrd]; simp only [readV, hB, hnb]; rfl)
              | false =>
                conv => whnf
                try (refine bsel_false ?_ ?_; · (simp <;> omega); try (conv => whnf))
                exact hgo _ ⟨k, r, v, 0⟩ 0 le2 (by rw [hrd]; simp only [readV, hB, hnb]; rfl)
            · clear qd
              conv => whnf
              refine num_x (k : Int) ?_
              cases hnb : numB (k : Int) with
              | true =>
                conv => whnf
                try (refine bsel_true ?_ ?_; · (simp <;> omega); try (conv => whnf))
                exact hbad _ le2 (by rw [hrd]; simp only [readV, hB, hnb]; rfl)
              | false =>
                conv => whnf
                try (refine bsel_false ?_ ?_; · (simp <;> omega); try (conv => whnf))
                exact hgo _ ⟨k, r, v, 0⟩ 0 le2 (by rw [hrd]; simp only [readV, hB, hnb]; rfl)
theorem rread3_x (s w0 a b c : Str) (hs : s.length ≤ 1000) (hW : sp [32] s = w0 :: ([a, b, c])) (hk : ∀ h', h.le h' → K (.tuple #[.agg (readS s).1.cs.toArray, zv (readS s).2]) h') : X Tryz.prog 46 #[sv s] h K := by
  have hR : readS s = readL (whatN w0) ([a, b, c]) := by unfold readS; rw [hW]; rfl
  have hwl : ∀ x ∈ w0 :: ([a, b, c]), x.length ≤ 1000 := fun x hx => Nat.le_trans (sp_mem_len (hW ▸ hx)) hs
  have hll : (w0 :: ([a, b, c])).length ≤ 2 ^ 29 := by
    rw [← hW, sp_len [32] s (by simp)]
    have := Lib.countB_le (bs [32]) (by decide) _ (bs s) (Nat.le_refl _)
    rw [bs_size] at this; omega
  rw [hR] at hk
  have hkle := whatN_le w0
  have hwi := what_iff w0
  refine fnv (args := _) mixed rfXLtAb0 [] [21] Tryz.func46 rfl (by kernel_rfl) ?_; conv => whnf
  refine rsplit_x s (by omega) fun sl h1 hO => ?_
  rw [hW] at hO
  obtain ⟨bw, cap, rest, rfl, hcap, hbw, _⟩ := hO.row (by simp)
  have le1 := hO.le
  have hlen1 : 0 < (w0 :: ([a, b, c])).length := by simp
  clear hO
  generalize whatN w0 = k at *
  conv => whnf
  refine loop_at [6] [2, 5] (fun r vs cs h' => h1 = h' ∧ ∃ j : Nat, 1 ≤ j ∧ j ≤ 7 ∧ r = 7 - j ∧ vs = [.v (zv j)] ∧ cs = [some [zv 0, zv 0, zv 0, zv 0], some [zv (if k < j then k else 0 : Nat), zv 0, zv 0, zv 0]]) 6 ⟨rfl, 1, by omega, by omega, rfl, rfl, by
    have : (if k < 1 then k else 0) = 0 := by split <;> omega
    rw [this]; rfl⟩ ?_
  rintro r vs cs mm bx _ ⟨rfl, j, hj1, hj7, rfl, rfl, rfl⟩
  conv => whnf
  refine bsel_intro (fun q1 => ?_) (fun q1 => ?_) <;> try simp only [bsL] at q1
  · have hj6 : j ≤ 6 := by omega
    have hjk := hwi j hj1 hj6
    conv => whnf
    refine ⟨fun h' => h' bw = some (rowO 9 ((w0 :: ([a, b, c])).map sv ++ rest)), hbw, ?_⟩
    conv => whnf
    refine rname_x j (by omega) ?_
    refine ⟨hbw, ?_⟩
    conv => whnf
    try (first | refine need_intro (⟨by omega, by omega⟩) ?_ | refine must.mk (⟨by omega, by omega⟩) ?_)
    try (conv => whnf)
    refine ⟨_, fun _ hh => loadI (j := 0) aggStr hh rfl rfl, ?_⟩
    conv => whnf
    by_cases hnm : nm j = w0
    · have hk9 := hjk.1 hnm
      refine seq_true (hnm) ?_; conv => whnf
      (first | refine ov_c (by simp only [loK, hiK]; omega) ?_ | refine ov_c (by decide) ?_); conv => whnf
      refine ⟨7 - (j + 1), by omega, rfl, j + 1, by omega, by omega, rfl, rfl, ?_⟩
      rw [if_pos (show k < j + 1 by omega), hk9]
      rfl
    · have hk9 : k ≠ j := fun e => hnm (hjk.2 e)
      refine seq_false (hnm) ?_; conv => whnf
      (first | refine ov_c (by simp only [loK, hiK]; omega) ?_ | refine ov_c (by decide) ?_); conv => whnf
      refine ⟨7 - (j + 1), by omega, rfl, j + 1, by omega, by omega, rfl, rfl, ?_⟩
      rw [show (if k < j + 1 then k else 0) = (if k < j then k else 0) by (repeat' split) <;> omega]
      rfl
  have hj : j = 7 := by omega
  subst hj
  rw [if_pos (show k < 7 by omega)]
  clear hwi q1
  have hbad : ∀ h', h.le h' → readL k ([a, b, c]) = (dZ, 2) → K (.tuple #[.agg #[zv 0, zv 0, zv 0, zv 0], zv 2]) h' := fun h' hle e => by
    have := hk h' hle
    rw [e] at this
    exact this
  have hgo : ∀ h' (D : Dd) (e : Int), h.le h' → readL k ([a, b, c]) = (D, e) → K (.tuple #[.agg D.cs.toArray, zv e]) h' := fun h' D e hle he => by
    have := hk h' hle
    rw [he] at this
    exact this
  clear hk
  conv => whnf
  refine bsel_intro (fun q2 => ?_) (fun q2 => ?_) <;> try simp only [bsL] at q2
  · have hk0 : k = 0 := by omega
    conv => whnf
    exact hbad _ le1 (by unfold readL; rw [if_pos hk0])
  have hk0 : k ≠ 0 := by omega
  clear q2
  conv => whnf
  try (first | refine need_intro (⟨by omega, by omega⟩) ?_ | refine must.mk (⟨by omega, by omega⟩) ?_)
  try (conv => whnf)
  have hcells : ∀ (u : Nat) (v : Value), (([a, b, c]).map sv)[u]? = some v → h1.cell? ⟨bw, 1 + u, none⟩ = some v := fun u v hv => by
    refine cell_row hbw ?_
    rw [List.getElem?_append_left (by have := (List.getElem?_eq_some_iff.1 hv).1; rw [List.length_map] at this ⊢; simp; simp at this; omega), List.map_cons, show 1 + u = u + 1 by omega, List.getElem?_cons_succ]
    exact hv
  refine bsel_intro (fun qc => ?_) (fun qc => ?_)
  · exfalso
    have := of_decide_eq_true qc
    simp at hcap this
    omega
  · clear qc
    conv => whnf
    refine Owns.appN (z := .string ⟨#[]⟩) (news := ([a, b, c]).map sv) (bytes := 16) (by kernel_rfl) infS (by kernel_rfl) (by kernel_rfl) (by kernel_rfl) rfl (by decide) rfl rfl rfl (Owns.nil (Hp.le_refl _)) (by rw [List.length_map]; exact (Nat.mul_one _).symm) (fun j v hj => ⟨_, rfl, ?_⟩) (fun e => by cases e) (by simp [Value.oneCell']) (by have h9 := hll; show 0 + ((w0 :: ([a, b, c])).length - 1) ≤ 2 ^ 31; omega) fun sL h2 hO => ?_
    · show h1.cell? (((⟨bw, 0, none⟩ : Addr).add (1 * 1)).add j) = _
      rw [addr_add, addr_add]
      simpa using hcells j v hj
    have hO : Owns h1 h2 9 1 sL ([a, b, c]).length (([a, b, c]).map sv) := by
      have e := hO
      simp only [List.nil_append] at e
      exact e
    obtain ⟨b2, cap2, rest2, e2, hcap2, hb2, _⟩ := hO.row (by simp)
    have le2 := Hp.le_trans le1 hO.le
    cases e2
    conv => whnf
    refine reg_x (k : Int) ?_
    by_cases hk1 : k = 1
    · rw [decide_eq_false (by omega)]
      have hrd : readL k [a, b, c] = readV k 0 [a, b, c] := readL_one hk1
      conv => whnf
      try (refine bsel_false ?_ ?_; · (simp <;> omega); try (conv => whnf))
      try (first | refine need_intro (⟨by omega, by omega⟩) ?_ | refine must.mk (⟨by omega, by omega⟩) ?_)
      try (conv => whnf)
      refine ⟨_, loadCA (show _ = (⟨b2, 0, none⟩ : Addr) by first | (simp [addr_add]; done) | (simp [addr_add]; kernel_rfl)) aggStr hb2 rfl, ?_⟩; conv => whnf
      refine find_x xyzt a (by decide) ?_
      unfold letN
      cases hB : letF xyzt a with
      | none =>
        conv => whnf
        exact hbad _ le2 (by rw [hrd]; simp only [readV, hB])
      | some v =>
        simp only []
        conv => whnf
        try (refine bsel_false ?_ ?_; · (simp <;> omega); try (conv => whnf))
        try (first | refine need_intro (⟨by omega, by omega⟩) ?_ | refine must.mk (⟨by omega, by omega⟩) ?_)
        try (conv => whnf)
        refine ⟨_, loadCA (show _ = (⟨b2, 0, none⟩ : Addr) by first | (simp [addr_add]; done) | (simp [addr_add]; kernel_rfl)) aggStr hb2 rfl, ?_⟩; conv => whnf
        refine find_x xyzt a (by decide) ?_
        unfold letN
        rw [hB]
        simp only []
        conv => whnf
        try (first | refine need_intro (⟨by omega, by omega⟩) ?_ | refine must.mk (⟨by omega, by omega⟩) ?_)
        try (conv => whnf)
        refine bsel_intro (fun qd => ?_) (fun qd => ?_)
        · exfalso
          have := of_decide_eq_true qd
          simp at hcap2 this
          omega
        · clear qd
          conv => whnf
          have hnb : numB (k : Int) = true := by rw [hk1]; rfl
          refine num_x (k : Int) ?_
          rw [hnb]
          conv => whnf
          try (refine bsel_true ?_ ?_; · (simp <;> omega); try (conv => whnf))
          exact hbad _ le2 (by rw [hrd]; simp only [readV, hB, hnb]; rfl)
    · rw [decide_eq_true (by omega)]
      conv => whnf
      try (refine bsel_false ?_ ?_; · (simp <;> omega); try (conv => whnf))
      try (first | refine need_intro (⟨by omega, by omega⟩) ?_ | refine must.mk (⟨by omega, by omega⟩) ?_)
      try (conv => whnf)
      refine ⟨_, loadCA (show _ = (⟨b2, 0, none⟩ : Addr) by first | (simp [addr_add]; done) | (simp [addr_add]; kernel_rfl)) aggStr hb2 rfl, ?_⟩; conv => whnf
      refine find_x abcd a (by decide) ?_
      unfold letN
      cases hA : letF abcd a with
      | none =>
        conv => whnf
        exact hbad _ le2 (by rw [readL_reg hk0 hk1, hA])
      | some r =>
        have hrd : readL k [a, b, c] = readV k r [b, c] := by rw [readL_reg hk0 hk1, hA]
        simp only []
        conv => whnf
        try (refine bsel_false ?_ ?_; · (simp <;> omega); try (conv => whnf))
        try (first | refine need_intro (⟨by omega, by omega⟩) ?_ | refine must.mk (⟨by omega, by omega⟩) ?_)
        try (conv => whnf)
        refine ⟨_, loadCA (show _ = (⟨b2, 0, none⟩ : Addr) by first | (simp [addr_add]; done) | (simp [addr_add]; kernel_rfl)) aggStr hb2 rfl, ?_⟩; conv => whnf
        refine find_x abcd a (by decide) ?_
        unfold letN
        rw [hA]
        simp only []
        conv => whnf
        try (first | refine need_intro (⟨by omega, by omega⟩) ?_ | refine must.mk (⟨by omega, by omega⟩) ?_)
        try (conv => whnf)
        refine bsel_intro (fun qd => ?_) (fun qd => ?_)
        · exfalso
          have := of_decide_eq_true qd
          simp at hcap2 this
          omega
        · clear qd
          conv => whnf
          try (refine bsel_false ?_ ?_; · (simp <;> omega); try (conv => whnf))
          try (first | refine need_intro (⟨by omega, by omega⟩) ?_ | refine must.mk (⟨by omega, by omega⟩) ?_)
          try (conv => whnf)
          refine ⟨_, loadCA (show _ = (⟨b2, 1, none⟩ : Addr) by first | (simp [addr_add]; done) | (simp [addr_add]; kernel_rfl)) aggStr hb2 rfl, ?_⟩; conv => whnf
          refine find_x xyzt b (by decide) ?_
          unfold letN
          cases hB : letF xyzt b with
          | none =>
            conv => whnf
            exact hbad _ le2 (by rw [hrd]; simp only [readV, hB])
          | some v =>
            simp only []
            conv => whnf
            try (refine bsel_false ?_ ?_; · (simp <;> omega); try (conv => whnf))
            try (first | refine need_intro (⟨by omega, by omega⟩) ?_ | refine must.mk (⟨by omega, by omega⟩) ?_)
            try (conv => whnf)
            refine ⟨_, loadCA (show _ = (⟨b2, 1, none⟩ : Addr) by first | (simp [addr_add]; done) | (simp [addr_add]; kernel_rfl)) aggStr hb2 rfl, ?_⟩; conv => whnf
            refine find_x xyzt b (by decide) ?_
            unfold letN
            rw [hB]
            simp only []
            conv => whnf
            try (first | refine need_intro (⟨by omega, by omega⟩) ?_ | refine must.mk (⟨by omega, by omega⟩) ?_)
            try (conv => whnf)
            refine bsel_intro (fun qd => ?_) (fun qd => ?_)
            · exfalso
              have := of_decide_eq_true qd
              simp at hcap2 this
              omega
            · clear qd
              conv => whnf
              refine num_x (k : Int) ?_
              cases hnb : numB (k : Int) with
              | true =>
                conv => whnf
                try (refine bsel_false ?_ ?_; · (simp <;> omega); try (conv => whnf))
                try (first | refine need_intro (⟨by omega, by omega⟩) ?_ | refine must.mk (⟨by omega, by omega⟩) ?_)
                try (conv => whnf)
                refine ⟨_, loadCA (show _ = (⟨b2, 2, none⟩ : Addr) by first | (simp [addr_add]; done) | (simp [addr_add]; kernel_rfl)) aggStr hb2 rfl, ?_⟩; conv => whnf
                refine number_x c (Nat.le_trans (hwl c (by simp)) (by decide)) fun kk ok hNum => ?_
                have hnat := natS_num hNum
                have hv : readL k [a, b, c] = match natS c with
                      | none => (dZ, 2)
                      | some n => if 255 < n then (dZ, 3) else (⟨k, r, v, n⟩, 0) := by rw [hrd]; simp only [readV, hB, hnb, if_true]; rfl
                cases ok with
                | false =>
                  rw [hnat.2 (.inl rfl)] at hv
                  conv => whnf
                  exact hbad _ le2 hv
                | true =>
                  conv => whnf
                  refine bsel_intro (fun q7 => ?_) (fun q7 => ?_) <;> try simp only [bsL] at q7
                  · rw [hnat.2 (.inr q7)] at hv
                    conv => whnf
                    exact hbad _ le2 hv
                  rw [hnat.1 rfl (by omega)] at hv
                  simp only [] at hv
                  conv => whnf
                  refine bsel_intro (fun q8 => ?_) (fun q8 => ?_) <;> try simp only [bsL] at q8
                  · rw [if_pos (by omega)] at hv
                    conv => whnf
                    exact hgo _ dZ 3 le2 hv
                  · rw [if_neg (by omega)] at hv
                    have hvt : ((kk.toNat : Nat) : Int) = kk := Int.toNat_of_nonneg (by omega)
                    have hk9 := hgo _ _ _ le2 hv
                    have hcs : (Dd.mk k r v (kk.toNat : Nat)).cs = [zv k, zv (r : Nat), zv v, zv kk] := by rw [hvt]; rfl
                    rw [hcs] at hk9
                    conv => whnf
                    exact hk9
              | false =>
                conv => whnf
                try (refine bsel_true ?_ ?_; · (simp <;> omega); try (conv => whnf))
                exact hbad _ le2 (by rw [hrd]; simp only [readV, hB, hnb]; rfl)
theorem rread4_x (s w0 a b c d : Str) (q : List Str) (hs : s.length ≤ 1000) (hW : sp [32] s = w0 :: ((a :: b :: c :: d :: q))) (hk : ∀ h', h.le h' → K (.tuple #[.agg (readS s).1.cs.toArray, zv (readS s).2]) h') : X Tryz.prog 46 #[sv s] h K := by
  have hR : readS s = readL (whatN w0) ((a :: b :: c :: d :: q)) := by unfold readS; rw [hW]; rfl
  have hwl : ∀ x ∈ w0 :: ((a :: b :: c :: d :: q)), x.length ≤ 1000 := fun x hx => Nat.le_trans (sp_mem_len (hW ▸ hx)) hs
  have hll : (w0 :: ((a :: b :: c :: d :: q))).length ≤ 2 ^ 29 := by
    rw [← hW, sp_len [32] s (by simp)]
    have := Lib.countB_le (bs [32]) (by decide) _ (bs s) (Nat.le_refl _)
    rw [bs_size] at this; omega
  rw [hR] at hk
  have hkle := whatN_le w0
  have hwi := what_iff w0
  refine fnv (args := _) mixed rfXLtAb0 [] [21] Tryz.func46 rfl (by kernel_rfl) ?_; conv => whnf
  refine rsplit_x s (by omega) fun sl h1 hO => ?_
  rw [hW] at hO
  obtain ⟨bw, cap, rest, rfl, hcap, hbw, _⟩ := hO.row (by simp)
  have le1 := hO.le
  have hlen1 : 0 < (w0 :: ((a :: b :: c :: d :: q))).length := by simp
  clear hO
  generalize whatN w0 = k at *
  conv => whnf
  refine loop_at [6] [2, 5] (fun r vs cs h' => h1 = h' ∧ ∃ j : Nat, 1 ≤ j ∧ j ≤ 7 ∧ r = 7 - j ∧ vs = [.v (zv j)] ∧ cs = [some [zv 0, zv 0, zv 0, zv 0], some [zv (if k < j then k else 0 : Nat), zv 0, zv 0, zv 0]]) 6 ⟨rfl, 1, by omega, by omega, rfl, rfl, by
    have : (if k < 1 then k else 0) = 0 := by split <;> omega
    rw [this]; rfl⟩ ?_
  rintro r vs cs mm bx _ ⟨rfl, j, hj1, hj7, rfl, rfl, rfl⟩
  conv => whnf
  refine bsel_intro (fun q1 => ?_) (fun q1 => ?_) <;> try simp only [bsL] at q1
  · have hj6 : j ≤ 6 := by omega
    have hjk := hwi j hj1 hj6
    conv => whnf
    refine ⟨fun h' => h' bw = some (rowO 9 ((w0 :: ((a :: b :: c :: d :: q))).map sv ++ rest)), hbw, ?_⟩
    conv => whnf
    refine rname_x j (by omega) ?_
    refine ⟨hbw, ?_⟩
    conv => whnf
    try (first | refine need_intro (⟨by omega, by omega⟩) ?_ | refine must.mk (⟨by omega, by omega⟩) ?_)
    try (conv => whnf)
    refine ⟨_, fun _ hh => loadI (j := 0) aggStr hh rfl rfl, ?_⟩
    conv => whnf
    by_cases hnm : nm j = w0
    · have hk9 := hjk.1 hnm
      refine seq_true (hnm) ?_; conv => whnf
      (first | refine ov_c (by simp only [loK, hiK]; omega) ?_ | refine ov_c (by decide) ?_); conv => whnf
      refine ⟨7 - (j + 1), by omega, rfl, j + 1, by omega, by omega, rfl, rfl, ?_⟩
      rw [if_pos (show k < j + 1 by omega), hk9]
      rfl
    · have hk9 : k ≠ j := fun e => hnm (hjk.2 e)
      refine seq_false (hnm) ?_; conv => whnf
      (first | refine ov_c (by simp only [loK, hiK]; omega) ?_ | refine ov_c (by decide) ?_); conv => whnf
      refine ⟨7 - (j + 1), by omega, rfl, j + 1, by omega, by omega, rfl, rfl, ?_⟩
      rw [show (if k < j + 1 then k else 0) = (if k < j then k else 0) by (repeat' split) <;> omega]
      rfl
  have hj : j = 7 := by omega
  subst hj
  rw [if_pos (show k < 7 by omega)]
  clear hwi q1
  have hbad : ∀ h', h.le h' → readL k ((a :: b :: c :: d :: q)) = (dZ, 2) → K (.tuple #[.agg #[zv 0, zv 0, zv 0, zv 0], zv 2]) h' := fun h' hle e => by
    have := hk h' hle
    rw [e] at this
    exact this
  have hgo : ∀ h' (D : Dd) (e : Int), h.le h' → readL k ((a :: b :: c :: d :: q)) = (D, e) → K (.tuple #[.agg D.cs.toArray, zv e]) h' := fun h' D e hle he => by
    have := hk h' hle
    rw [he] at this
    exact this
  clear hk
  conv => whnf
  refine bsel_intro (fun q2 => ?_) (fun q2 => ?_) <;> try simp only [bsL] at q2
  · have hk0 : k = 0 := by omega
    conv => whnf
    exact hbad _ le1 (by unfold readL; rw [if_pos hk0])
  have hk0 : k ≠ 0 := by omega
  clear q2
  conv => whnf
  try (first | refine need_intro (⟨by omega, by omega⟩) ?_ | refine must.mk (⟨by omega, by omega⟩) ?_)
  try (conv => whnf)
  have hl4 : (a :: b :: c :: d :: q).length = q.length + 4 := rfl
  have hcells : ∀ (u : Nat) (v : Value), (((a :: b :: c :: d :: q)).map sv)[u]? = some v → h1.cell? ⟨bw, 1 + u, none⟩ = some v := fun u v hv => by
    refine cell_row hbw ?_
    rw [List.getElem?_append_left (by have := (List.getElem?_eq_some_iff.1 hv).1; rw [List.length_map] at this ⊢; simp; simp at this; omega), List.map_cons, show 1 + u = u + 1 by omega, List.getElem?_cons_succ]
    exact hv
  refine bsel_intro (fun qc => ?_) (fun qc => ?_)
  · exfalso
    have := of_decide_eq_true qc
    simp at hcap this
    omega
  · clear qc
    conv => whnf
    refine Owns.appN (z := .string ⟨#[]⟩) (news := ((a :: b :: c :: d :: q)).map sv) (bytes := 16) (by kernel_rfl) infS (by kernel_rfl) (by kernel_rfl) (by kernel_rfl) rfl (by decide) rfl rfl rfl (Owns.nil (Hp.le_refl _)) (by rw [List.length_map]; exact (Nat.mul_one _).symm) (fun j v hj => ⟨_, rfl, ?_⟩) (fun e => by cases e) (by simp [Value.oneCell']) (by have h9 := hll; show 0 + ((w0 :: ((a :: b :: c :: d :: q))).length - 1) ≤ 2 ^ 31; omega) fun sL h2 hO => ?_
    · show h1.cell? (((⟨bw, 0, none⟩ : Addr).add (1 * 1)).add j) = _
      rw [addr_add, addr_add]
      simpa using hcells j v hj
    have hO : Owns h1 h2 9 1 sL ((a :: b :: c :: d :: q)).length (((a :: b :: c :: d :: q)).map sv) := by
      have e := hO
      simp only [List.nil_append] at e
      have e3 : 0 + ((w0 :: ((a :: b :: c :: d :: q))).length - Int.toNat 1) = ((a :: b :: c :: d :: q)).length := by simp
      rw [e3] at e
      exact e
    obtain ⟨b2, cap2, rest2, e2, hcap2, hb2, _⟩ := hO.row (by simp)
    have le2 := Hp.le_trans le1 hO.le
    cases e2
    conv => whnf
    refine reg_x (k : Int) ?_
    by_cases hk1 : k = 1
    · rw [decide_eq_false (by omega)]
      have hrd : readL k (a :: b :: c :: d :: q) = readV k 0 (a :: b :: c :: d :: q) := readL_one hk1
      conv => whnf
      try (refine bsel_false ?_ ?_; · (simp <;> omega); try (conv => whnf))
      try (first | refine need_intro (⟨by omega, by omega⟩) ?_ | refine must.mk (⟨by omega, by omega⟩) ?_)
      try (conv => whnf)
      refine ⟨_, loadCA (show _ = (⟨b2, 0, none⟩ : Addr) by first | (simp [addr_add]; done) | (simp [addr_add]; kernel_rfl)) aggStr hb2 rfl, ?_⟩; conv => whnf
      refine find_x xyzt a (by decide) ?_
      unfold letN
      cases hB : letF xyzt a with
      | none =>
        conv => whnf
        exact hbad _ le2 (by rw [hrd]; simp only [readV, hB])
      | some v =>
        simp only []
        conv => whnf
        try (refine bsel_false ?_ ?_; · (simp <;> omega); try (conv => whnf))
        try (first | refine need_intro (⟨by omega, by omega⟩) ?_ | refine must.mk (⟨by omega, by omega⟩) ?_)
        try (conv => whnf)
        refine ⟨_, loadCA (show _ = (⟨b2, 0, none⟩ : Addr) by first | (simp [addr_add]; done) | (simp [addr_add]; kernel_rfl)) aggStr hb2 rfl, ?_⟩; conv => whnf
        refine find_x xyzt a (by decide) ?_
        unfold letN
        rw [hB]
        simp only []
        conv => whnf
        try (first | refine need_intro (⟨by omega, by omega⟩) ?_ | refine must.mk (⟨by omega, by omega⟩) ?_)
        try (conv => whnf)
        refine bsel_intro (fun qd => ?_) (fun qd => ?_)
        · exfalso
          have := of_decide_eq_true qd
          simp at hcap2 this
          omega
        · clear qd
          conv => whnf
          have hnb : numB (k : Int) = true := by rw [hk1]; rfl
          refine num_x (k : Int) ?_
          rw [hnb]
          conv => whnf
          try (refine bsel_true ?_ ?_; · (simp <;> omega); try (conv => whnf))
          exact hbad _ le2 (by rw [hrd]; simp only [readV, hB, hnb]; rfl)
    · rw [decide_eq_true (by omega)]
      conv => whnf
      try (refine bsel_false ?_ ?_; · (simp <;> omega); try (conv => whnf))
      try (first | refine need_intro (⟨by omega, by omega⟩) ?_ | refine must.mk (⟨by omega, by omega⟩) ?_)
      try (conv => whnf)
      refine ⟨_, loadCA (show _ = (⟨b2, 0, none⟩ : Addr) by first | (simp [addr_add]; done) | (simp [addr_add]; kernel_rfl)) aggStr hb2 rfl, ?_⟩; conv => whnf
      refine find_x abcd a (by decide) ?_
      unfold letN
      cases hA : letF abcd a with
      | none =>
        conv => whnf
        exact hbad _ le2 (by rw [readL_reg hk0 hk1, hA])
      | some r =>
        have hrd : readL k (a :: b :: c :: d :: q) = readV k r (b :: c :: d :: q) := by rw [readL_reg hk0 hk1, hA]
        simp only []
        conv => whnf
        try (refine bsel_false ?_ ?_; · (simp <;> omega); try (conv => whnf))
        try (first | refine need_intro (⟨by omega, by omega⟩) ?_ | refine must.mk (⟨by omega, by omega⟩) ?_)
        try (conv => whnf)
        refine ⟨_, loadCA (show _ = (⟨b2, 0, none⟩ : Addr) by first | (simp [addr_add]; done) | (simp [addr_add]; kernel_rfl)) aggStr hb2 rfl, ?_⟩; conv => whnf
        refine find_x abcd a (by decide) ?_
        unfold letN
        rw [hA]
        simp only []
        conv => whnf
        try (first | refine need_intro (⟨by omega, by omega⟩) ?_ | refine must.mk (⟨by omega, by omega⟩) ?_)
        try (conv => whnf)
        refine bsel_intro (fun qd => ?_) (fun qd => ?_)
        · exfalso
          have := of_decide_eq_true qd
          simp at hcap2 this
          omega
        · clear qd
          conv => whnf
          try (refine bsel_false ?_ ?_; · (simp <;> omega); try (conv => whnf))
          try (first | refine need_intro (⟨by omega, by omega⟩) ?_ | refine must.mk (⟨by omega, by omega⟩) ?_)
          try (conv => whnf)
          refine ⟨_, loadCA (show _ = (⟨b2, 1, none⟩ : Addr) by first | (simp [addr_add]; done) | (simp [addr_add]; kernel_rfl)) aggStr hb2 rfl, ?_⟩; conv => whnf
          refine find_x xyzt b (by decide) ?_
          unfold letN
          cases hB : letF xyzt b with
          | none =>
            conv => whnf
            exact hbad _ le2 (by rw [hrd]; simp only [readV, hB])
          | some v =>
            simp only []
            conv => whnf
            try (refine bsel_false ?_ ?_; · (simp <;> omega); try (conv => whnf))
            try (first | refine need_intro (⟨by omega, by omega⟩) ?_ | refine must.mk (⟨by omega, by omega⟩) ?_)
            try (conv => whnf)
            refine ⟨_, loadCA (show _ = (⟨b2, 1, none⟩ : Addr) by first | (simp [addr_add]; done) | (simp [addr_add]; kernel_rfl)) aggStr hb2 rfl, ?_⟩; conv => whnf
            refine find_x xyzt b (by decide) ?_
            unfold letN
            rw [hB]
            simp only []
            conv => whnf
            try (first | refine need_intro (⟨by omega, by omega⟩) ?_ | refine must.mk (⟨by omega, by omega⟩) ?_)
            try (conv => whnf)
            refine bsel_intro (fun qd => ?_) (fun qd => ?_)
            · exfalso
              have := of_decide_eq_true qd
              simp at hcap2 this
              omega
            · clear qd
              conv => whnf
              refine num_x (k : Int) ?_
              cases hnb : numB (k : Int) with
              | true =>
                conv => whnf
                try (refine bsel_true ?_ ?_; · (simp <;> omega); try (conv => whnf))
                exact hbad _ le2 (by rw [hrd]; simp only [readV, hB, hnb]; rfl)
              | false =>
                conv => whnf
                try (refine bsel_true ?_ ?_; · (simp <;> omega); try (conv => whnf))
                exact hbad _ le2 (by rw [hrd]; simp only [readV, hB, hnb]; rfl)
theorem rread_x (s : Str) (hs : s.length ≤ 1000) (hk : ∀ h', h.le h' → K (.tuple #[.agg (readS s).1.cs.toArray, zv (readS s).2]) h') : X Tryz.prog 46 #[sv s] h K := by
  match hW : sp [32] s with
  | [] => exact absurd hW (sp_ne _ _)
  | [w0] => exact rread0_x s w0 hs hW hk
  | [w0, a] => exact rread1_x s w0 a hs hW hk
  | [w0, a, b] => exact rread2_x s w0 a b hs hW hk
  | [w0, a, b, c] => exact rread3_x s w0 a b c hs hW hk
  | w0 :: a :: b :: c :: d :: q => exact rread4_x s w0 a b c d q hs hW hk
end
end Go.Proofs.YtciagjfemgfhgaaGreatDoor
