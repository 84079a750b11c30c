/-
  Instructions as text: the line of an instruction, the document's (printed by a program).
-/
import Derived.Test.YtlobclgbbhoeiaaGreatDoorAsR
import Derived.Test.YtlobclgbbhoeiaaGreatDoorAsQ
import Derived.Test.YtlobclgbbhoeiaaGreatDoorLibV
namespace Go.Proofs.YtlobclgbbhoeiaaGreatDoor
set_option linter.unusedSimpArgs false
set_option linter.unusedVariables false
open Go Go.Mid Go.RowKit
abbrev rfXAsS0 : Go.Mid.RF := [(1, 1), (15, 1), (19, 1), (22, 1), (27, 1), (31, 1), (35, 1), (56, 1), (65, 1), (74, 1), (82, 1), (89, 1), (97, 1), (104, 1)]
attribute [local irreducible] mid
theorem order_mem : ∀ f : Nat, f < 15 → ∀ c ∈ orderS f, c = 100 ∨ c = 49 ∨ c = 50 ∨ c = 105 ∨ c = 117 ∨ c = 99 ∨ c = 110 := by decide
theorem names0_get {n : Int} (h : 1 ≤ n ∧ n ≤ 98) : (opNames0.map sv)[n.toNat]? = some (sv (opName n)) := by
  obtain ⟨k, rfl⟩ : ∃ k : Nat, n = ((k + 1 : Nat) : Int) := ⟨n.toNat - 1, by omega⟩
  unfold opName opNames0
  rw [if_pos h, List.map_cons, show ((k + 1 : Nat) : Int).toNat = k + 1 by omega, List.getElem?_cons_succ, List.getElem?_map, Nat.add_sub_cancel, List.getD_eq_getElem?_getD, List.getElem?_eq_getElem (by rw [opNames_len]; omega)]
  rfl
section
set_option maxHeartbeats 8000000
set_option maxRecDepth 10000
variable {h : Hp} {K : Value → Hp → Prop}
theorem rtext_x (x : Ins) (m1 : -9223372036854775808 ≤ x.m) (m2 : x.m ≤ 9223372036854775807) (hk : K (.tuple #[.string (bs (textA x)), zv x.chk]) h) : X Tryz.prog 9 #[.agg x.cs.toArray] h K := by
  refine X.forget ?_
  unfold textA at hk
  by_cases hc : x.chk = 0
  rotate_left
  · rw [if_neg hc] at hk
    refine fnv (args := _) mixed rfXAsS0 [] [] Tryz.func9 rfl (by kernel_rfl) ?_; conv => whnf
    refine rcheck_x x.op x.a x.b x.c x.m x.s x.aq x.rl m1 m2 ?_
    rw [show checkF (fmtN x.op) x.a x.b x.c x.m x.s x.aq x.rl = x.chk from rfl]
    generalize x.chk = e at hc hk ⊢
    conv => whnf
    refine bsel_true (by simpa using hc) ?_; conv => whnf
    exact ⟨h, Hp.le_refl _, hk⟩
  rw [if_pos hc] at hk
  obtain ⟨o1, o2, _, ha, hb, hc2, hs, _, _⟩ := chk_ok hc
  rw [hc] at hk
  have hT : opName x.op ++ (bitsS x.aq x.rl ++ fieldsT x (orderS (fmtN x.op))) = lineT x := rfl
  generalize hL : lineT x = L at hT hk
  clear hL
  obtain ⟨n1, n2⟩ := opName_ne ⟨o1, o2⟩
  have hng := names0_get ⟨o1, o2⟩
  have hf15 := fmtN_lt x.op
  have hol := order_lt _ hf15
  have hom := order_mem _ hf15
  have hbl := bitsS_len x.aq x.rl
  generalize hf : fmtN x.op = f at hT hf15 hol hom
  generalize hfs : orderS f = fs at hT hol hom
  generalize hnm : opName x.op = nm at hT n1 n2 hng
  have hbz : (bs fs).size = fs.length := bs_size fs
  cases hq : x.aq with
  | true =>
    cases hr : x.rl with
    | true =>
      refine fnv (args := _) mixed rfXAsS0 [] [] Tryz.func9 rfl (by kernel_rfl) ?_; conv => whnf
      refine rcheck_x x.op x.a x.b x.c x.m x.s x.aq x.rl m1 m2 ?_
      rw [show checkF (fmtN x.op) x.a x.b x.c x.m x.s x.aq x.rl = x.chk from rfl]
      rw [hc]
      conv => whnf
      refine rnames_x fun b1 h1 le1 hb1 => ?_
      refine ⟨trivial, ?_⟩; conv => whnf
      (first | refine need_intro (⟨by omega, by omega⟩) ?_ | refine must.mk (⟨by omega, by omega⟩) ?_); conv => whnf
      refine ⟨_, loadI aggStr hb1 (j := x.op.toNat) (by omega) hng, ?_⟩; conv => whnf
      iterate 2 ((first | rw [hq] | rw [hr]); (conv => whnf))
      refine cat_by (m := nm ++ [46, 97, 113, 114, 108]) (by simp; omega) rfl ?_
      conv => whnf
      refine rfind4_x x.op f hf fun o' mk is h2 le2 => ?_
      conv => whnf
      refine rorder_x f hf15 ?_
      rw [hfs]
      conv => whnf
      refine Rg.names_x h2 _ (fun b3 h3 le3 hb3 => ?_)
      have hle : h.le h3 := Hp.le_trans le1 (Hp.le_trans le2 le3)
      conv => whnf
      refine loop_at [8, 5] [1] (fun r vs cs h' => h3 = h' ∧ cs = [some x.cs] ∧ ∃ (i : Nat) (acc : Str), i ≤ fs.length ∧ r = fs.length - i ∧ vs = [.v (.int .i64 i), .v (sv acc)] ∧ acc.length ≤ 30 + 40 * i ∧ acc ++ fieldsT x (fs.drop i) = L) fs.length
        ⟨rfl, rfl, 0, _, by omega, rfl, rfl, by simp; omega, by rw [← hT]; simp [bitsS, hq, hr]⟩ ?_
      rintro r vs cs mm bx _ ⟨rfl, rfl, i, acc, hi, rfl, rfl, hal, hR⟩
      conv => whnf
      refine bsel_intro (fun q1 => ?_) (fun q1 => ?_) <;> try simp only [bsL] at q1
      · obtain ⟨c, hcc⟩ : ∃ c, fs[i]? = some c := ⟨_, List.getElem?_eq_getElem (by omega)⟩
        have hd : fs.drop i = c :: fs.drop (i + 1) := by
          rw [List.drop_eq_getElem_cons (by omega)]
          congr 1
          exact (List.getElem?_eq_some_iff.1 hcc).2
        have hcm := hom c (List.mem_of_getElem? hcc)
        rw [hd, fieldsT_cons] at hR
        unfold fieldT at hR
        conv => whnf
        refine cat_by (m := acc ++ [32]) (by simp; omega) rfl ?_
        conv => whnf
        refine ch_intro (c) (by omega) (by rw [Int.toNat_natCast]; exact hcc) ?_; conv => whnf
        refine bsel_intro (fun q100 => ?_) (fun q100 => ?_) <;> try simp only [bsL] at q100
        · have hq9 : c = 100 := UInt8.toNat_inj.1 (by have : (100 : UInt8).toNat = 100 := rfl; omega)
          rw [if_pos hq9] at hR
          conv => whnf
          obtain ⟨z1, z2⟩ := nameN_ne x.a.toNat (by omega)
          have hg := Rg.namesL_get (i := x.a.toNat) (by omega)
          generalize Rg.nameN x.a.toNat = tx at hR z1 z2 hg ⊢
          (first | refine need_intro (⟨by omega, by omega⟩) ?_ | refine must.mk (⟨by omega, by omega⟩) ?_); conv => whnf
          refine ⟨_, loadI aggStr hb3 (j := x.a.toNat) (by omega) hg, ?_⟩; conv => whnf
          refine cat_by (m := acc ++ [32] ++ tx) (by simp; omega) rfl ?_
          conv => whnf
          (first | refine ov_c (by simp only [loK, hiK]; omega) ?_ | refine ov_c (by decide) ?_); conv => whnf
          refine ⟨fs.length - (i + 1), by omega, rfl, rfl, i + 1, _, by omega, rfl, rfl, ?_, ?_⟩
          · rw [List.length_append, List.length_append, List.length_singleton]; omega
          · rw [← hR]; simp
        have c100 : c ≠ 100 := fun e => q100 (by rw [e]; rfl)
        conv => whnf
        refine bsel_intro (fun q49 => ?_) (fun q49 => ?_) <;> try simp only [bsL] at q49
        · have hq9 : c = 49 := UInt8.toNat_inj.1 (by have : (49 : UInt8).toNat = 49 := rfl; omega)
          rw [if_neg c100, if_pos hq9] at hR
          conv => whnf
          obtain ⟨z1, z2⟩ := nameN_ne x.b.toNat (by omega)
          have hg := Rg.namesL_get (i := x.b.toNat) (by omega)
          generalize Rg.nameN x.b.toNat = tx at hR z1 z2 hg ⊢
          (first | refine need_intro (⟨by omega, by omega⟩) ?_ | refine must.mk (⟨by omega, by omega⟩) ?_); conv => whnf
          refine ⟨_, loadI aggStr hb3 (j := x.b.toNat) (by omega) hg, ?_⟩; conv => whnf
          refine cat_by (m := acc ++ [32] ++ tx) (by simp; omega) rfl ?_
          conv => whnf
          (first | refine ov_c (by simp only [loK, hiK]; omega) ?_ | refine ov_c (by decide) ?_); conv => whnf
          refine ⟨fs.length - (i + 1), by omega, rfl, rfl, i + 1, _, by omega, rfl, rfl, ?_, ?_⟩
          · rw [List.length_append, List.length_append, List.length_singleton]; omega
          · rw [← hR]; simp
        have c49 : c ≠ 49 := fun e => q49 (by rw [e]; rfl)
        conv => whnf
        refine bsel_intro (fun q50 => ?_) (fun q50 => ?_) <;> try simp only [bsL] at q50
        · have hq9 : c = 50 := UInt8.toNat_inj.1 (by have : (50 : UInt8).toNat = 50 := rfl; omega)
          rw [if_neg c100, if_neg c49, if_pos hq9] at hR
          conv => whnf
          obtain ⟨z1, z2⟩ := nameN_ne x.c.toNat (by omega)
          have hg := Rg.namesL_get (i := x.c.toNat) (by omega)
          generalize Rg.nameN x.c.toNat = tx at hR z1 z2 hg ⊢
          (first | refine need_intro (⟨by omega, by omega⟩) ?_ | refine must.mk (⟨by omega, by omega⟩) ?_); conv => whnf
          refine ⟨_, loadI aggStr hb3 (j := x.c.toNat) (by omega) hg, ?_⟩; conv => whnf
          refine cat_by (m := acc ++ [32] ++ tx) (by simp; omega) rfl ?_
          conv => whnf
          (first | refine ov_c (by simp only [loK, hiK]; omega) ?_ | refine ov_c (by decide) ?_); conv => whnf
          refine ⟨fs.length - (i + 1), by omega, rfl, rfl, i + 1, _, by omega, rfl, rfl, ?_, ?_⟩
          · rw [List.length_append, List.length_append, List.length_singleton]; omega
          · rw [← hR]; simp
        have c50 : c ≠ 50 := fun e => q50 (by rw [e]; rfl)
        conv => whnf
        refine bsel_intro (fun q105 => ?_) (fun q105 => ?_) <;> try simp only [bsL] at q105
        · have hq9 : c = 105 := UInt8.toNat_inj.1 (by have : (105 : UInt8).toNat = 105 := rfl; omega)
          rw [if_neg c100, if_neg c49, if_neg c50, if_pos hq9] at hR
          conv => whnf
          refine rDigits_x x.m m1 m2 ?_
          have z1 := itoa_ne x.m
          have z2 := itoa_len (n := x.m) m1 m2
          generalize Lib.itoa x.m = tx at hR z1 z2 ⊢
          conv => whnf
          refine cat_by (m := acc ++ [32] ++ tx) (by simp; omega) rfl ?_
          conv => whnf
          (first | refine ov_c (by simp only [loK, hiK]; omega) ?_ | refine ov_c (by decide) ?_); conv => whnf
          refine ⟨fs.length - (i + 1), by omega, rfl, rfl, i + 1, _, by omega, rfl, rfl, ?_, ?_⟩
          · rw [List.length_append, List.length_append, List.length_singleton]; omega
          · rw [← hR]; simp
        have c105 : c ≠ 105 := fun e => q105 (by rw [e]; rfl)
        conv => whnf
        refine bsel_intro (fun q117 => ?_) (fun q117 => ?_) <;> try simp only [bsL] at q117
        · have hq9 : c = 117 := UInt8.toNat_inj.1 (by have : (117 : UInt8).toNat = 117 := rfl; omega)
          rw [if_neg c100, if_neg c49, if_neg c50, if_neg c105, if_pos hq9] at hR
          conv => whnf
          have hd1 : -9223372036854775808 ≤ x.m.tdiv 4096 ∧ x.m.tdiv 4096 ≤ 9223372036854775807 := tdiv_rng m1 m2
          refine ov_i64 (hd1) ?_; conv => whnf
          refine rDigits_x (x.m.tdiv 4096) hd1.1 hd1.2 ?_
          have z1 := itoa_ne (x.m.tdiv 4096)
          have z2 := itoa_len (n := (x.m.tdiv 4096)) hd1.1 hd1.2
          generalize Lib.itoa (x.m.tdiv 4096) = tx at hR z1 z2 ⊢
          conv => whnf
          refine cat_by (m := acc ++ [32] ++ tx) (by simp; omega) rfl ?_
          conv => whnf
          (first | refine ov_c (by simp only [loK, hiK]; omega) ?_ | refine ov_c (by decide) ?_); conv => whnf
          refine ⟨fs.length - (i + 1), by omega, rfl, rfl, i + 1, _, by omega, rfl, rfl, ?_, ?_⟩
          · rw [List.length_append, List.length_append, List.length_singleton]; omega
          · rw [← hR]; simp
        have c117 : c ≠ 117 := fun e => q117 (by rw [e]; rfl)
        conv => whnf
        refine bsel_intro (fun q99 => ?_) (fun q99 => ?_) <;> try simp only [bsL] at q99
        · have hq9 : c = 99 := UInt8.toNat_inj.1 (by have : (99 : UInt8).toNat = 99 := rfl; omega)
          rw [if_neg c100, if_neg c49, if_neg c50, if_neg c105, if_neg c117, if_pos hq9] at hR
          conv => whnf
          refine rDigits_x x.s (by omega) (by omega) ?_
          have z1 := itoa_ne x.s
          have z2 := itoa_len (n := x.s) (by omega) (by omega)
          generalize Lib.itoa x.s = tx at hR z1 z2 ⊢
          conv => whnf
          refine cat_by (m := acc ++ [32] ++ tx) (by simp; omega) rfl ?_
          conv => whnf
          (first | refine ov_c (by simp only [loK, hiK]; omega) ?_ | refine ov_c (by decide) ?_); conv => whnf
          refine ⟨fs.length - (i + 1), by omega, rfl, rfl, i + 1, _, by omega, rfl, rfl, ?_, ?_⟩
          · rw [List.length_append, List.length_append, List.length_singleton]; omega
          · rw [← hR]; simp
        have c99 : c ≠ 99 := fun e => q99 (by rw [e]; rfl)
        conv => whnf
        rw [if_neg c100, if_neg c49, if_neg c50, if_neg c105, if_neg c117, if_neg c99] at hR
        have hq9 : c = 110 := by
          rcases hcm with e | e | e | e | e | e | e
          · exact absurd e c100
          · exact absurd e c49
          · exact absurd e c50
          · exact absurd e c105
          · exact absurd e c117
          · exact absurd e c99
          · exact e
        refine bsel_true (by rw [hq9]; rfl) ?_; conv => whnf
        refine rDigits_x x.b (by omega) (by omega) ?_
        have z1 := itoa_ne x.b
        have z2 := itoa_len (n := x.b) (by omega) (by omega)
        generalize Lib.itoa x.b = tx at hR z1 z2 ⊢
        conv => whnf
        refine cat_by (m := acc ++ [32] ++ tx) (by simp; omega) rfl ?_
        conv => whnf
        (first | refine ov_c (by simp only [loK, hiK]; omega) ?_ | refine ov_c (by decide) ?_); conv => whnf
        refine ⟨fs.length - (i + 1), by omega, rfl, rfl, i + 1, _, by omega, rfl, rfl, ?_, ?_⟩
        · rw [List.length_append, List.length_append, List.length_singleton]; omega
        · rw [← hR]; simp
      · obtain rfl : i = fs.length := by omega
        rw [List.drop_length] at hR
        have hR : acc ++ [] = L := hR
        rw [List.append_nil] at hR
        subst hR
        conv => whnf
        exact ⟨h, hle, hk⟩
    | false =>
      refine fnv (args := _) mixed rfXAsS0 [] [] Tryz.func9 rfl (by kernel_rfl) ?_; conv => whnf
      refine rcheck_x x.op x.a x.b x.c x.m x.s x.aq x.rl m1 m2 ?_
      rw [show checkF (fmtN x.op) x.a x.b x.c x.m x.s x.aq x.rl = x.chk from rfl]
      rw [hc]
      conv => whnf
      refine rnames_x fun b1 h1 le1 hb1 => ?_
      refine ⟨trivial, ?_⟩; conv => whnf
      (first | refine need_intro (⟨by omega, by omega⟩) ?_ | refine must.mk (⟨by omega, by omega⟩) ?_); conv => whnf
      refine ⟨_, loadI aggStr hb1 (j := x.op.toNat) (by omega) hng, ?_⟩; conv => whnf
      iterate 3 ((first | rw [hq] | rw [hr]); (conv => whnf))
      refine cat_by (m := nm ++ [46, 97, 113]) (by simp; omega) rfl ?_
      conv => whnf
      refine rfind4_x x.op f hf fun o' mk is h2 le2 => ?_
      conv => whnf
      refine rorder_x f hf15 ?_
      rw [hfs]
      conv => whnf
      refine Rg.names_x h2 _ (fun b3 h3 le3 hb3 => ?_)
      have hle : h.le h3 := Hp.le_trans le1 (Hp.le_trans le2 le3)
      conv => whnf
      refine loop_at [8, 5] [1] (fun r vs cs h' => h3 = h' ∧ cs = [some x.cs] ∧ ∃ (i : Nat) (acc : Str), i ≤ fs.length ∧ r = fs.length - i ∧ vs = [.v (.int .i64 i), .v (sv acc)] ∧ acc.length ≤ 30 + 40 * i ∧ acc ++ fieldsT x (fs.drop i) = L) fs.length
        ⟨rfl, rfl, 0, _, by omega, rfl, rfl, by simp; omega, by rw [← hT]; simp [bitsS, hq, hr]⟩ ?_
      rintro r vs cs mm bx _ ⟨rfl, rfl, i, acc, hi, rfl, rfl, hal, hR⟩
      conv => whnf
      refine bsel_intro (fun q1 => ?_) (fun q1 => ?_) <;> try simp only [bsL] at q1
      · obtain ⟨c, hcc⟩ : ∃ c, fs[i]? = some c := ⟨_, List.getElem?_eq_getElem (by omega)⟩
        have hd : fs.drop i = c :: fs.drop (i + 1) := by
          rw [List.drop_eq_getElem_cons (by omega)]
          congr 1
          exact (List.getElem?_eq_some_iff.1 hcc).2
        have hcm := hom c (List.mem_of_getElem? hcc)
        rw [hd, fieldsT_cons] at hR
        unfold fieldT at hR
        conv => whnf
        refine cat_by (m := acc ++ [32]) (by simp; omega) rfl ?_
        conv => whnf
        refine ch_intro (c) (by omega) (by rw [Int.toNat_natCast]; exact hcc) ?_; conv => whnf
        refine bsel_intro (fun q100 => ?_) (fun q100 => ?_) <;> try simp only [bsL] at q100
        · have hq9 : c = 100 := UInt8.toNat_inj.1 (by have : (100 : UInt8).toNat = 100 := rfl; omega)
          rw [if_pos hq9] at hR
          conv => whnf
          obtain ⟨z1, z2⟩ := nameN_ne x.a.toNat (by omega)
          have hg := Rg.namesL_get (i := x.a.toNat) (by omega)
          generalize Rg.nameN x.a.toNat = tx at hR z1 z2 hg ⊢
          (first | refine need_intro (⟨by omega, by omega⟩) ?_ | refine must.mk (⟨by omega, by omega⟩) ?_); conv => whnf
          refine ⟨_, loadI aggStr hb3 (j := x.a.toNat) (by omega) hg, ?_⟩; conv => whnf
          refine cat_by (m := acc ++ [32] ++ tx) (by simp; omega) rfl ?_
          conv => whnf
          (first | refine ov_c (by simp only [loK, hiK]; omega) ?_ | refine ov_c (by decide) ?_); conv => whnf
          refine ⟨fs.length - (i + 1), by omega, rfl, rfl, i + 1, _, by omega, rfl, rfl, ?_, ?_⟩
          · rw [List.length_append, List.length_append, List.length_singleton]; omega
          · rw [← hR]; simp
        have c100 : c ≠ 100 := fun e => q100 (by rw [e]; rfl)
        conv => whnf
        refine bsel_intro (fun q49 => ?_) (fun q49 => ?_) <;> try simp only [bsL] at q49
        · have hq9 : c = 49 := UInt8.toNat_inj.1 (by have : (49 : UInt8).toNat = 49 := rfl; omega)
          rw [if_neg c100, if_pos hq9] at hR
          conv => whnf
          obtain ⟨z1, z2⟩ := nameN_ne x.b.toNat (by omega)
          have hg := Rg.namesL_get (i := x.b.toNat) (by omega)
          generalize Rg.nameN x.b.toNat = tx at hR z1 z2 hg ⊢
          (first | refine need_intro (⟨by omega, by omega⟩) ?_ | refine must.mk (⟨by omega, by omega⟩) ?_); conv => whnf
          refine ⟨_, loadI aggStr hb3 (j := x.b.toNat) (by omega) hg, ?_⟩; conv => whnf
          refine cat_by (m := acc ++ [32] ++ tx) (by simp; omega) rfl ?_
          conv => whnf
          (first | refine ov_c (by simp only [loK, hiK]; omega) ?_ | refine ov_c (by decide) ?_); conv => whnf
          refine ⟨fs.length - (i + 1), by omega, rfl, rfl, i + 1, _, by omega, rfl, rfl, ?_, ?_⟩
          · rw [List.length_append, List.length_append, List.length_singleton]; omega
          · rw [← hR]; simp
        have c49 : c ≠ 49 := fun e => q49 (by rw [e]; rfl)
        conv => whnf
        refine bsel_intro (fun q50 => ?_) (fun q50 => ?_) <;> try simp only [bsL] at q50
        · have hq9 : c = 50 := UInt8.toNat_inj.1 (by have : (50 : UInt8).toNat = 50 := rfl; omega)
          rw [if_neg c100, if_neg c49, if_pos hq9] at hR
          conv => whnf
          obtain ⟨z1, z2⟩ := nameN_ne x.c.toNat (by omega)
          have hg := Rg.namesL_get (i := x.c.toNat) (by omega)
          generalize Rg.nameN x.c.toNat = tx at hR z1 z2 hg ⊢
          (first | refine need_intro (⟨by omega, by omega⟩) ?_ | refine must.mk (⟨by omega, by omega⟩) ?_); conv => whnf
          refine ⟨_, loadI aggStr hb3 (j := x.c.toNat) (by omega) hg, ?_⟩; conv => whnf
          refine cat_by (m := acc ++ [32] ++ tx) (by simp; omega) rfl ?_
          conv => whnf
          (first | refine ov_c (by simp only [loK, hiK]; omega) ?_ | refine ov_c (by decide) ?_); conv => whnf
          refine ⟨fs.length - (i + 1), by omega, rfl, rfl, i + 1, _, by omega, rfl, rfl, ?_, ?_⟩
          · rw [List.length_append, List.length_append, List.length_singleton]; omega
          · rw [← hR]; simp
        have c50 : c ≠ 50 := fun e => q50 (by rw [e]; rfl)
        conv => whnf
        refine bsel_intro (fun q105 => ?_) (fun q105 => ?_) <;> try simp only [bsL] at q105
        · have hq9 : c = 105 := UInt8.toNat_inj.1 (by have : (105 : UInt8).toNat = 105 := rfl; omega)
          rw [if_neg c100, if_neg c49, if_neg c50, if_pos hq9] at hR
          conv => whnf
          refine rDigits_x x.m m1 m2 ?_
          have z1 := itoa_ne x.m
          have z2 := itoa_len (n := x.m) m1 m2
          generalize Lib.itoa x.m = tx at hR z1 z2 ⊢
          conv => whnf
          refine cat_by (m := acc ++ [32] ++ tx) (by simp; omega) rfl ?_
          conv => whnf
          (first | refine ov_c (by simp only [loK, hiK]; omega) ?_ | refine ov_c (by decide) ?_); conv => whnf
          refine ⟨fs.length - (i + 1), by omega, rfl, rfl, i + 1, _, by omega, rfl, rfl, ?_, ?_⟩
          · rw [List.length_append, List.length_append, List.length_singleton]; omega
          · rw [← hR]; simp
        have c105 : c ≠ 105 := fun e => q105 (by rw [e]; rfl)
        conv => whnf
        refine bsel_intro (fun q117 => ?_) (fun q117 => ?_) <;> try simp only [bsL] at q117
        · have hq9 : c = 117 := UInt8.toNat_inj.1 (by have : (117 : UInt8).toNat = 117 := rfl; omega)
          rw [if_neg c100, if_neg c49, if_neg c50, if_neg c105, if_pos hq9] at hR
          conv => whnf
          have hd1 : -9223372036854775808 ≤ x.m.tdiv 4096 ∧ x.m.tdiv 4096 ≤ 9223372036854775807 := tdiv_rng m1 m2
          refine ov_i64 (hd1) ?_; conv => whnf
          refine rDigits_x (x.m.tdiv 4096) hd1.1 hd1.2 ?_
          have z1 := itoa_ne (x.m.tdiv 4096)
          have z2 := itoa_len (n := (x.m.tdiv 4096)) hd1.1 hd1.2
          generalize Lib.itoa (x.m.tdiv 4096) = tx at hR z1 z2 ⊢
          conv => whnf
          refine cat_by (m := acc ++ [32] ++ tx) (by simp; omega) rfl ?_
          conv => whnf
          (first | refine ov_c (by simp only [loK, hiK]; omega) ?_ | refine ov_c (by decide) ?_); conv => whnf
          refine ⟨fs.length - (i + 1), by omega, rfl, rfl, i + 1, _, by omega, rfl, rfl, ?_, ?_⟩
          · rw [List.length_append, List.length_append, List.length_singleton]; omega
          · rw [← hR]; simp
        have c117 : c ≠ 117 := fun e => q117 (by rw [e]; rfl)
        conv => whnf
        refine bsel_intro (fun q99 => ?_) (fun q99 => ?_) <;> try simp only [bsL] at q99
        · have hq9 : c = 99 := UInt8.toNat_inj.1 (by have : (99 : UInt8).toNat = 99 := rfl; omega)
          rw [if_neg c100, if_neg c49, if_neg c50, if_neg c105, if_neg c117, if_pos hq9] at hR
          conv => whnf
          refine rDigits_x x.s (by omega) (by omega) ?_
          have z1 := itoa_ne x.s
          have z2 := itoa_len (n := x.s) (by omega) (by omega)
          generalize Lib.itoa x.s = tx at hR z1 z2 ⊢
          conv => whnf
          refine cat_by (m := acc ++ [32] ++ tx) (by simp; omega) rfl ?_
          conv => whnf
          (first | refine ov_c (by simp only [loK, hiK]; omega) ?_ | refine ov_c (by decide) ?_); conv => whnf
          refine ⟨fs.length - (i + 1), by omega, rfl, rfl, i + 1, _, by omega, rfl, rfl, ?_, ?_⟩
          · rw [List.length_append, List.length_append, List.length_singleton]; omega
          · rw [← hR]; simp
        have c99 : c ≠ 99 := fun e => q99 (by rw [e]; rfl)
        conv => whnf
        rw [if_neg c100, if_neg c49, if_neg c50, if_neg c105, if_neg c117, if_neg c99] at hR
        have hq9 : c = 110 := by
          rcases hcm with e | e | e | e | e | e | e
          · exact absurd e c100
          · exact absurd e c49
          · exact absurd e c50
          · exact absurd e c105
          · exact absurd e c117
          · exact absurd e c99
          · exact e
        refine bsel_true (by rw [hq9]; rfl) ?_; conv => whnf
        refine rDigits_x x.b (by omega) (by omega) ?_
        have z1 := itoa_ne x.b
        have z2 := itoa_len (n := x.b) (by omega) (by omega)
        generalize Lib.itoa x.b = tx at hR z1 z2 ⊢
        conv => whnf
        refine cat_by (m := acc ++ [32] ++ tx) (by simp; omega) rfl ?_
        conv => whnf
        (first | refine ov_c (by simp only [loK, hiK]; omega) ?_ | refine ov_c (by decide) ?_); conv => whnf
        refine ⟨fs.length - (i + 1), by omega, rfl, rfl, i + 1, _, by omega, rfl, rfl, ?_, ?_⟩
        · rw [List.length_append, List.length_append, List.length_singleton]; omega
        · rw [← hR]; simp
      · obtain rfl : i = fs.length := by omega
        rw [List.drop_length] at hR
        have hR : acc ++ [] = L := hR
        rw [List.append_nil] at hR
        subst hR
        conv => whnf
        exact ⟨h, hle, hk⟩
  | false =>
    cases hr : x.rl with
    | true =>
      refine fnv (args := _) mixed rfXAsS0 [] [] Tryz.func9 rfl (by kernel_rfl) ?_; conv => whnf
      refine rcheck_x x.op x.a x.b x.c x.m x.s x.aq x.rl m1 m2 ?_
      rw [show checkF (fmtN x.op) x.a x.b x.c x.m x.s x.aq x.rl = x.chk from rfl]
      rw [hc]
      conv => whnf
      refine rnames_x fun b1 h1 le1 hb1 => ?_
      refine ⟨trivial, ?_⟩; conv => whnf
      (first | refine need_intro (⟨by omega, by omega⟩) ?_ | refine must.mk (⟨by omega, by omega⟩) ?_); conv => whnf
      refine ⟨_, loadI aggStr hb1 (j := x.op.toNat) (by omega) hng, ?_⟩; conv => whnf
      iterate 3 ((first | rw [hq] | rw [hr]); (conv => whnf))
      refine cat_by (m := nm ++ [46, 114, 108]) (by simp; omega) rfl ?_
      conv => whnf
      refine rfind4_x x.op f hf fun o' mk is h2 le2 => ?_
      conv => whnf
      refine rorder_x f hf15 ?_
      rw [hfs]
      conv => whnf
      refine Rg.names_x h2 _ (fun b3 h3 le3 hb3 => ?_)
      have hle : h.le h3 := Hp.le_trans le1 (Hp.le_trans le2 le3)
      conv => whnf
      refine loop_at [8, 5] [1] (fun r vs cs h' => h3 = h' ∧ cs = [some x.cs] ∧ ∃ (i : Nat) (acc : Str), i ≤ fs.length ∧ r = fs.length - i ∧ vs = [.v (.int .i64 i), .v (sv acc)] ∧ acc.length ≤ 30 + 40 * i ∧ acc ++ fieldsT x (fs.drop i) = L) fs.length
        ⟨rfl, rfl, 0, _, by omega, rfl, rfl, by simp; omega, by rw [← hT]; simp [bitsS, hq, hr]⟩ ?_
      rintro r vs cs mm bx _ ⟨rfl, rfl, i, acc, hi, rfl, rfl, hal, hR⟩
      conv => whnf
      refine bsel_intro (fun q1 => ?_) (fun q1 => ?_) <;> try simp only [bsL] at q1
      · obtain ⟨c, hcc⟩ : ∃ c, fs[i]? = some c := ⟨_, List.getElem?_eq_getElem (by omega)⟩
        have hd : fs.drop i = c :: fs.drop (i + 1) := by
          rw [List.drop_eq_getElem_cons (by omega)]
          congr 1
          exact (List.getElem?_eq_some_iff.1 hcc).2
        have hcm := hom c (List.mem_of_getElem? hcc)
        rw [hd, fieldsT_cons] at hR
        unfold fieldT at hR
        conv => whnf
        refine cat_by (m := acc ++ [32]) (by simp; omega) rfl ?_
        conv => whnf
        refine ch_intro (c) (by omega) (by rw [Int.toNat_natCast]; exact hcc) ?_; conv => whnf
        refine bsel_intro (fun q100 => ?_) (fun q100 => ?_) <;> try simp only [bsL] at q100
        · have hq9 : c = 100 := UInt8.toNat_inj.1 (by have : (100 : UInt8).toNat = 100 := rfl; omega)
          rw [if_pos hq9] at hR
          conv => whnf
          obtain ⟨z1, z2⟩ := nameN_ne x.a.toNat (by omega)
          have hg := Rg.namesL_get (i := x.a.toNat) (by omega)
          generalize Rg.nameN x.a.toNat = tx at hR z1 z2 hg ⊢
          (first | refine need_intro (⟨by omega, by omega⟩) ?_ | refine must.mk (⟨by omega, by omega⟩) ?_); conv => whnf
          refine ⟨_, loadI aggStr hb3 (j := x.a.toNat) (by omega) hg, ?_⟩; conv => whnf
          refine cat_by (m := acc ++ [32] ++ tx) (by simp; omega) rfl ?_
          conv => whnf
          (first | refine ov_c (by simp only [loK, hiK]; omega) ?_ | refine ov_c (by decide) ?_); conv => whnf
          refine ⟨fs.length - (i + 1), by omega, rfl, rfl, i + 1, _, by omega, rfl, rfl, ?_, ?_⟩
          · rw [List.length_append, List.length_append, List.length_singleton]; omega
          · rw [← hR]; simp
        have c100 : c ≠ 100 := fun e => q100 (by rw [e]; rfl)
        conv => whnf
        refine bsel_intro (fun q49 => ?_) (fun q49 => ?_) <;> try simp only [bsL] at q49
        · have hq9 : c = 49 := UInt8.toNat_inj.1 (by have : (49 : UInt8).toNat = 49 := rfl; omega)
          rw [if_neg c100, if_pos hq9] at hR
          conv => whnf
          obtain ⟨z1, z2⟩ := nameN_ne x.b.toNat (by omega)
          have hg := Rg.namesL_get (i := x.b.toNat) (by omega)
          generalize Rg.nameN x.b.toNat = tx at hR z1 z2 hg ⊢
          (first | refine need_intro (⟨by omega, by omega⟩) ?_ | refine must.mk (⟨by omega, by omega⟩) ?_); conv => whnf
          refine ⟨_, loadI aggStr hb3 (j := x.b.toNat) (by omega) hg, ?_⟩; conv => whnf
          refine cat_by (m := acc ++ [32] ++ tx) (by simp; omega) rfl ?_
          conv => whnf
          (first | refine ov_c (by simp only [loK, hiK]; omega) ?_ | refine ov_c (by decide) ?_); conv => whnf
          refine ⟨fs.length - (i + 1), by omega, rfl, rfl, i + 1, _, by omega, rfl, rfl, ?_, ?_⟩
          · rw [List.length_append, List.length_append, List.length_singleton]; omega
          · rw [← hR]; simp
        have c49 : c ≠ 49 := fun e => q49 (by rw [e]; rfl)
        conv => whnf
        refine bsel_intro (fun q50 => ?_) (fun q50 => ?_) <;> try simp only [bsL] at q50
        · have hq9 : c = 50 := UInt8.toNat_inj.1 (by have : (50 : UInt8).toNat = 50 := rfl; omega)
          rw [if_neg c100, if_neg c49, if_pos hq9] at hR
          conv => whnf
          obtain ⟨z1, z2⟩ := nameN_ne x.c.toNat (by omega)
          have hg := Rg.namesL_get (i := x.c.toNat) (by omega)
          generalize Rg.nameN x.c.toNat = tx at hR z1 z2 hg ⊢
          (first | refine need_intro (⟨by omega, by omega⟩) ?_ | refine must.mk (⟨by omega, by omega⟩) ?_); conv => whnf
          refine ⟨_, loadI aggStr hb3 (j := x.c.toNat) (by omega) hg, ?_⟩; conv => whnf
          refine cat_by (m := acc ++ [32] ++ tx) (by simp; omega) rfl ?_
          conv => whnf
          (first | refine ov_c (by simp only [loK, hiK]; omega) ?_ | refine ov_c (by decide) ?_); conv => whnf
          refine ⟨fs.length - (i + 1), by omega, rfl, rfl, i + 1, _, by omega, rfl, rfl, ?_, ?_⟩
          · rw [List.length_append, List.length_append, List.length_singleton]; omega
          · rw [← hR]; simp
        have c50 : c ≠ 50 := fun e => q50 (by rw [e]; rfl)
        conv => whnf
        refine bsel_intro (fun q105 => ?_) (fun q105 => ?_) <;> try simp only [bsL] at q105
        · have hq9 : c = 105 := UInt8.toNat_inj.1 (by have : (105 : UInt8).toNat = 105 := rfl; omega)
          rw [if_neg c100, if_neg c49, if_neg c50, if_pos hq9] at hR
          conv => whnf
          refine rDigits_x x.m m1 m2 ?_
          have z1 := itoa_ne x.m
          have z2 := itoa_len (n := x.m) m1 m2
          generalize Lib.itoa x.m = tx at hR z1 z2 ⊢
          conv => whnf
          refine cat_by (m := acc ++ [32] ++ tx) (by simp; omega) rfl ?_
          conv => whnf
          (first | refine ov_c (by simp only [loK, hiK]; omega) ?_ | refine ov_c (by decide) ?_); conv => whnf
          refine ⟨fs.length - (i + 1), by omega, rfl, rfl, i + 1, _, by omega, rfl, rfl, ?_, ?_⟩
          · rw [List.length_append, List.length_append, List.length_singleton]; omega
          · rw [← hR]; simp
        have c105 : c ≠ 105 := fun e => q105 (by rw [e]; rfl)
        conv => whnf
        refine bsel_intro (fun q117 => ?_) (fun q117 => ?_) <;> try simp only [bsL] at q117
        · have hq9 : c = 117 := UInt8.toNat_inj.1 (by have : (117 : UInt8).toNat = 117 := rfl; omega)
          rw [if_neg c100, if_neg c49, if_neg c50, if_neg c105, if_pos hq9] at hR
          conv => whnf
          have hd1 : -9223372036854775808 ≤ x.m.tdiv 4096 ∧ x.m.tdiv 4096 ≤ 9223372036854775807 := tdiv_rng m1 m2
          refine ov_i64 (hd1) ?_; conv => whnf
          refine rDigits_x (x.m.tdiv 4096) hd1.1 hd1.2 ?_
          have z1 := itoa_ne (x.m.tdiv 4096)
          have z2 := itoa_len (n := (x.m.tdiv 4096)) hd1.1 hd1.2
          generalize Lib.itoa (x.m.tdiv 4096) = tx at hR z1 z2 ⊢
          conv => whnf
          refine cat_by (m := acc ++ [32] ++ tx) (by simp; omega) rfl ?_
          conv => whnf
          (first | refine ov_c (by simp only [loK, hiK]; omega) ?_ | refine ov_c (by decide) ?_); conv => whnf
          refine ⟨fs.length - (i + 1), by omega, rfl, rfl, i + 1, _, by omega, rfl, rfl, ?_, ?_⟩
          · rw [List.length_append, List.length_append, List.length_singleton]; omega
          · rw [← hR]; simp
        have c117 : c ≠ 117 := fun e => q117 (by rw [e]; rfl)
        conv => whnf
        refine bsel_intro (fun q99 => ?_) (fun q99 => ?_) <;> try simp only [bsL] at q99
        · have hq9 : c = 99 := UInt8.toNat_inj.1 (by have : (99 : UInt8).toNat = 99 := rfl; omega)
          rw [if_neg c100, if_neg c49, if_neg c50, if_neg c105, if_neg c117, if_pos hq9] at hR
          conv => whnf
          refine rDigits_x x.s (by omega) (by omega) ?_
          have z1 := itoa_ne x.s
          have z2 := itoa_len (n := x.s) (by omega) (by omega)
          generalize Lib.itoa x.s = tx at hR z1 z2 ⊢
          conv => whnf
          refine cat_by (m := acc ++ [32] ++ tx) (by simp; omega) rfl ?_
          conv => whnf
          (first | refine ov_c (by simp only [loK, hiK]; omega) ?_ | refine ov_c (by decide) ?_); conv => whnf
          refine ⟨fs.length - (i + 1), by omega, rfl, rfl, i + 1, _, by omega, rfl, rfl, ?_, ?_⟩
          · rw [List.length_append, List.length_append, List.length_singleton]; omega
          · rw [← hR]; simp
        have c99 : c ≠ 99 := fun e => q99 (by rw [e]; rfl)
        conv => whnf
        rw [if_neg c100, if_neg c49, if_neg c50, if_neg c105, if_neg c117, if_neg c99] at hR
        have hq9 : c = 110 := by
          rcases hcm with e | e | e | e | e | e | e
          · exact absurd e c100
          · exact absurd e c49
          · exact absurd e c50
          · exact absurd e c105
          · exact absurd e c117
          · exact absurd e c99
          · exact e
        refine bsel_true (by rw [hq9]; rfl) ?_; conv => whnf
        refine rDigits_x x.b (by omega) (by omega) ?_
        have z1 := itoa_ne x.b
        have z2 := itoa_len (n := x.b) (by omega) (by omega)
        generalize Lib.itoa x.b = tx at hR z1 z2 ⊢
        conv => whnf
        refine cat_by (m := acc ++ [32] ++ tx) (by simp; omega) rfl ?_
        conv => whnf
        (first | refine ov_c (by simp only [loK, hiK]; omega) ?_ | refine ov_c (by decide) ?_); conv => whnf
        refine ⟨fs.length - (i + 1), by omega, rfl, rfl, i + 1, _, by omega, rfl, rfl, ?_, ?_⟩
        · rw [List.length_append, List.length_append, List.length_singleton]; omega
        · rw [← hR]; simp
      · obtain rfl : i = fs.length := by omega
        rw [List.drop_length] at hR
        have hR : acc ++ [] = L := hR
        rw [List.append_nil] at hR
        subst hR
        conv => whnf
        exact ⟨h, hle, hk⟩
    | false =>
      refine fnv (args := _) mixed rfXAsS0 [] [] Tryz.func9 rfl (by kernel_rfl) ?_; conv => whnf
      refine rcheck_x x.op x.a x.b x.c x.m x.s x.aq x.rl m1 m2 ?_
      rw [show checkF (fmtN x.op) x.a x.b x.c x.m x.s x.aq x.rl = x.chk from rfl]
      rw [hc]
      conv => whnf
      refine rnames_x fun b1 h1 le1 hb1 => ?_
      refine ⟨trivial, ?_⟩; conv => whnf
      (first | refine need_intro (⟨by omega, by omega⟩) ?_ | refine must.mk (⟨by omega, by omega⟩) ?_); conv => whnf
      refine ⟨_, loadI aggStr hb1 (j := x.op.toNat) (by omega) hng, ?_⟩; conv => whnf
      iterate 3 ((first | rw [hq] | rw [hr]); (conv => whnf))
      refine rfind4_x x.op f hf fun o' mk is h2 le2 => ?_
      conv => whnf
      refine rorder_x f hf15 ?_
      rw [hfs]
      conv => whnf
      refine Rg.names_x h2 _ (fun b3 h3 le3 hb3 => ?_)
      have hle : h.le h3 := Hp.le_trans le1 (Hp.le_trans le2 le3)
      conv => whnf
      refine loop_at [8, 5] [1] (fun r vs cs h' => h3 = h' ∧ cs = [some x.cs] ∧ ∃ (i : Nat) (acc : Str), i ≤ fs.length ∧ r = fs.length - i ∧ vs = [.v (.int .i64 i), .v (sv acc)] ∧ acc.length ≤ 30 + 40 * i ∧ acc ++ fieldsT x (fs.drop i) = L) fs.length
        ⟨rfl, rfl, 0, _, by omega, rfl, rfl, by omega, by rw [← hT]; simp [bitsS, hq, hr]⟩ ?_
      rintro r vs cs mm bx _ ⟨rfl, rfl, i, acc, hi, rfl, rfl, hal, hR⟩
      conv => whnf
      refine bsel_intro (fun q1 => ?_) (fun q1 => ?_) <;> try simp only [bsL] at q1
      · obtain ⟨c, hcc⟩ : ∃ c, fs[i]? = some c := ⟨_, List.getElem?_eq_getElem (by omega)⟩
        have hd : fs.drop i = c :: fs.drop (i + 1) := by
          rw [List.drop_eq_getElem_cons (by omega)]
          congr 1
          exact (List.getElem?_eq_some_iff.1 hcc).2
        have hcm := hom c (List.mem_of_getElem? hcc)
        rw [hd, fieldsT_cons] at hR
        unfold fieldT at hR
        conv => whnf
        refine cat_by (m := acc ++ [32]) (by simp; omega) rfl ?_
        conv => whnf
        refine ch_intro (c) (by omega) (by rw [Int.toNat_natCast]; exact hcc) ?_; conv => whnf
        refine bsel_intro (fun q100 => ?_) (fun q100 => ?_) <;> try simp only [bsL] at q100
        · have hq9 : c = 100 := UInt8.toNat_inj.1 (by have : (100 : UInt8).toNat = 100 := rfl; omega)
          rw [if_pos hq9] at hR
          conv => whnf
          obtain ⟨z1, z2⟩ := nameN_ne x.a.toNat (by omega)
          have hg := Rg.namesL_get (i := x.a.toNat) (by omega)
          generalize Rg.nameN x.a.toNat = tx at hR z1 z2 hg ⊢
          (first | refine need_intro (⟨by omega, by omega⟩) ?_ | refine must.mk (⟨by omega, by omega⟩) ?_); conv => whnf
          refine ⟨_, loadI aggStr hb3 (j := x.a.toNat) (by omega) hg, ?_⟩; conv => whnf
          refine cat_by (m := acc ++ [32] ++ tx) (by simp; omega) rfl ?_
          conv => whnf
          (first | refine ov_c (by simp only [loK, hiK]; omega) ?_ | refine ov_c (by decide) ?_); conv => whnf
          refine ⟨fs.length - (i + 1), by omega, rfl, rfl, i + 1, _, by omega, rfl, rfl, ?_, ?_⟩
          · rw [List.length_append, List.length_append, List.length_singleton]; omega
          · rw [← hR]; simp
        have c100 : c ≠ 100 := fun e => q100 (by rw [e]; rfl)
        conv => whnf
        refine bsel_intro (fun q49 => ?_) (fun q49 => ?_) <;> try simp only [bsL] at q49
        · have hq9 : c = 49 := UInt8.toNat_inj.1 (by have : (49 : UInt8).toNat = 49 := rfl; omega)
          rw [if_neg c100, if_pos hq9] at hR
          conv => whnf
          obtain ⟨z1, z2⟩ := nameN_ne x.b.toNat (by omega)
          have hg := Rg.namesL_get (i := x.b.toNat) (by omega)
          generalize Rg.nameN x.b.toNat = tx at hR z1 z2 hg ⊢
          (first | refine need_intro (⟨by omega, by omega⟩) ?_ | refine must.mk (⟨by omega, by omega⟩) ?_); conv => whnf
          refine ⟨_, loadI aggStr hb3 (j := x.b.toNat) (by omega) hg, ?_⟩; conv => whnf
          refine cat_by (m := acc ++ [32] ++ tx) (by simp; omega) rfl ?_
          conv => whnf
          (first | refine ov_c (by simp only [loK, hiK]; omega) ?_ | refine ov_c (by decide) ?_); conv => whnf
          refine ⟨fs.length - (i + 1), by omega, rfl, rfl, i + 1, _, by omega, rfl, rfl, ?_, ?_⟩
          · rw [List.length_append, List.length_append, List.length_singleton]; omega
          · rw [← hR]; simp
        have c49 : c ≠ 49 := fun e => q49 (by rw [e]; rfl)
        conv => whnf
        refine bsel_intro (fun q50 => ?_) (fun q50 => ?_) <;> try simp only [bsL] at q50
        · have hq9 : c = 50 := UInt8.toNat_inj.1 (by have : (50 : UInt8).toNat = 50 := rfl; omega)
          rw [if_neg c100, if_neg c49, if_pos hq9] at hR
          conv => whnf
          obtain ⟨z1, z2⟩ := nameN_ne x.c.toNat (by omega)
          have hg := Rg.namesL_get (i := x.c.toNat) (by omega)
          generalize Rg.nameN x.c.toNat = tx at hR z1 z2 hg ⊢
          (first | refine need_intro (⟨by omega, by omega⟩) ?_ | refine must.mk (⟨by omega, by omega⟩) ?_); conv => whnf
          refine ⟨_, loadI aggStr hb3 (j := x.c.toNat) (by omega) hg, ?_⟩; conv => whnf
          refine cat_by (m := acc ++ [32] ++ tx) (by simp; omega) rfl ?_
          conv => whnf
          (first | refine ov_c (by simp only [loK, hiK]; omega) ?_ | refine ov_c (by decide) ?_); conv => whnf
          refine ⟨fs.length - (i + 1), by omega, rfl, rfl, i + 1, _, by omega, rfl, rfl, ?_, ?_⟩
          · rw [List.length_append, List.length_append, List.length_singleton]; omega
          · rw [← hR]; simp
        have c50 : c ≠ 50 := fun e => q50 (by rw [e]; rfl)
        conv => whnf
        refine bsel_intro (fun q105 => ?_) (fun q105 => ?_) <;> try simp only [bsL] at q105
        · have hq9 : c = 105 := UInt8.toNat_inj.1 (by have : (105 : UInt8).toNat = 105 := rfl; omega)
          rw [if_neg c100, if_neg c49, if_neg c50, if_pos hq9] at hR
          conv => whnf
          refine rDigits_x x.m m1 m2 ?_
          have z1 := itoa_ne x.m
          have z2 := itoa_len (n := x.m) m1 m2
          generalize Lib.itoa x.m = tx at hR z1 z2 ⊢
          conv => whnf
          refine cat_by (m := acc ++ [32] ++ tx) (by simp; omega) rfl ?_
          conv => whnf
          (first | refine ov_c (by simp only [loK, hiK]; omega) ?_ | refine ov_c (by decide) ?_); conv => whnf
          refine ⟨fs.length - (i + 1), by omega, rfl, rfl, i + 1, _, by omega, rfl, rfl, ?_, ?_⟩
          · rw [List.length_append, List.length_append, List.length_singleton]; omega
          · rw [← hR]; simp
        have c105 : c ≠ 105 := fun e => q105 (by rw [e]; rfl)
        conv => whnf
        refine bsel_intro (fun q117 => ?_) (fun q117 => ?_) <;> try simp only [bsL] at q117
        · have hq9 : c = 117 := UInt8.toNat_inj.1 (by have : (117 : UInt8).toNat = 117 := rfl; omega)
          rw [if_neg c100, if_neg c49, if_neg c50, if_neg c105, if_pos hq9] at hR
          conv => whnf
          have hd1 : -9223372036854775808 ≤ x.m.tdiv 4096 ∧ x.m.tdiv 4096 ≤ 9223372036854775807 := tdiv_rng m1 m2
          refine ov_i64 (hd1) ?_; conv => whnf
          refine rDigits_x (x.m.tdiv 4096) hd1.1 hd1.2 ?_
          have z1 := itoa_ne (x.m.tdiv 4096)
          have z2 := itoa_len (n := (x.m.tdiv 4096)) hd1.1 hd1.2
          generalize Lib.itoa (x.m.tdiv 4096) = tx at hR z1 z2 ⊢
          conv => whnf
          refine cat_by (m := acc ++ [32] ++ tx) (by simp; omega) rfl ?_
          conv => whnf
          (first | refine ov_c (by simp only [loK, hiK]; omega) ?_ | refine ov_c (by decide) ?_); conv => whnf
          refine ⟨fs.length - (i + 1), by omega, rfl, rfl, i + 1, _, by omega, rfl, rfl, ?_, ?_⟩
          · rw [List.length_append, List.length_append, List.length_singleton]; omega
          · rw [← hR]; simp
        have c117 : c ≠ 117 := fun e => q117 (by rw [e]; rfl)
        conv => whnf
        refine bsel_intro (fun q99 => ?_) (fun q99 => ?_) <;> try simp only [bsL] at q99
        · have hq9 : c = 99 := UInt8.toNat_inj.1 (by have : (99 : UInt8).toNat = 99 := rfl; omega)
          rw [if_neg c100, if_neg c49, if_neg c50, if_neg c105, if_neg c117, if_pos hq9] at hR
          conv => whnf
          refine rDigits_x x.s (by omega) (by omega) ?_
          have z1 := itoa_ne x.s
          have z2 := itoa_len (n := x.s) (by omega) (by omega)
          generalize Lib.itoa x.s = tx at hR z1 z2 ⊢
          conv => whnf
          refine cat_by (m := acc ++ [32] ++ tx) (by simp; omega) rfl ?_
          conv => whnf
          (first | refine ov_c (by simp only [loK, hiK]; omega) ?_ | refine ov_c (by decide) ?_); conv => whnf
          refine ⟨fs.length - (i + 1), by omega, rfl, rfl, i + 1, _, by omega, rfl, rfl, ?_, ?_⟩
          · rw [List.length_append, List.length_append, List.length_singleton]; omega
          · rw [← hR]; simp
        have c99 : c ≠ 99 := fun e => q99 (by rw [e]; rfl)
        conv => whnf
        rw [if_neg c100, if_neg c49, if_neg c50, if_neg c105, if_neg c117, if_neg c99] at hR
        have hq9 : c = 110 := by
          rcases hcm with e | e | e | e | e | e | e
          · exact absurd e c100
          · exact absurd e c49
          · exact absurd e c50
          · exact absurd e c105
          · exact absurd e c117
          · exact absurd e c99
          · exact e
        refine bsel_true (by rw [hq9]; rfl) ?_; conv => whnf
        refine rDigits_x x.b (by omega) (by omega) ?_
        have z1 := itoa_ne x.b
        have z2 := itoa_len (n := x.b) (by omega) (by omega)
        generalize Lib.itoa x.b = tx at hR z1 z2 ⊢
        conv => whnf
        refine cat_by (m := acc ++ [32] ++ tx) (by simp; omega) rfl ?_
        conv => whnf
        (first | refine ov_c (by simp only [loK, hiK]; omega) ?_ | refine ov_c (by decide) ?_); conv => whnf
        refine ⟨fs.length - (i + 1), by omega, rfl, rfl, i + 1, _, by omega, rfl, rfl, ?_, ?_⟩
        · rw [List.length_append, List.length_append, List.length_singleton]; omega
        · rw [← hR]; simp
      · obtain rfl : i = fs.length := by omega
        rw [List.drop_length] at hR
        have hR : acc ++ [] = L := hR
        rw [List.append_nil] at hR
        subst hR
        conv => whnf
        exact ⟨h, hle, hk⟩
end
end Go.Proofs.YtlobclgbbhoeiaaGreatDoor
