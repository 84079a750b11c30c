/-
  Instructions as text: the line of an instruction.
-/
import Derived.Test.YtlobclgbbhoeiaaGreatDoorAsP
import Derived.Test.YtlobclgbbhoeiaaGreatDoorLibU
import Derived.Test.YtlobclgbbhoeiaaGreatDoorRgX
namespace Go.Proofs.YtlobclgbbhoeiaaGreatDoor
set_option linter.unusedSimpArgs false
set_option linter.unusedVariables false
open Go Go.Mid Go.RowKit
abbrev rfXAsR0 : Go.Mid.RF := [(1, 1), (13, 1), (20, 1), (36, 1), (42, 1), (48, 1), (54, 1), (60, 1), (67, 1), (30, 1)]
attribute [local irreducible] mid
/-- A field's text. -/
def fieldT (x : Ins) (f : UInt8) : Str :=
  if f = 100 then Rg.nameN x.a.toNat else if f = 49 then Rg.nameN x.b.toNat else if f = 50 then Rg.nameN x.c.toNat else if f = 105 then Lib.itoa x.m else if f = 117 then Lib.itoa (x.m.tdiv 4096) else if f = 99 then Lib.itoa x.s else Lib.itoa x.b
def fieldsT (x : Ins) (fs : Str) : Str := fs.flatMap fun f => 32 :: fieldT x f
/-- The line of an instruction. -/
def lineT (x : Ins) : Str := opName x.op ++ (bitsS x.aq x.rl ++ fieldsT x (orderS (fmtN x.op)))
def textA (x : Ins) : Str := if x.chk = 0 then lineT x else []
/-- What a check that is passed tells. -/
theorem chk_ok {x : Ins} (h : x.chk = 0) : 1 ≤ x.op ∧ x.op ≤ 98 ∧ fmtN x.op ≠ 0 ∧ (0 ≤ x.a ∧ x.a ≤ 31) ∧ (0 ≤ x.b ∧ x.b ≤ 31) ∧ (0 ≤ x.c ∧ x.c ≤ 31) ∧ (0 ≤ x.s ∧ x.s ≤ 4095) ∧ fitsN (fmtN x.op) x.m = true ∧ ¬ badF (fieldsL.getD (fmtN x.op) []) x.a x.b x.c x.m x.s x.aq x.rl := by
  unfold Ins.chk checkF at h
  by_cases h0 : fmtN x.op = 0
  · rw [if_pos h0] at h; cases h
  rw [if_neg h0] at h
  by_cases hb : badF (fieldsL.getD (fmtN x.op) []) x.a x.b x.c x.m x.s x.aq x.rl
  · rw [if_pos hb] at h; cases h
  rw [if_neg hb] at h
  by_cases hr : x.a < 0 ∨ 31 < x.a ∨ x.b < 0 ∨ 31 < x.b ∨ x.c < 0 ∨ 31 < x.c
  · rw [if_pos hr] at h; cases h
  rw [if_neg hr] at h
  by_cases hs : x.s < 0 ∨ 4095 < x.s ∨ fitsN (fmtN x.op) x.m = false
  · rw [if_pos hs] at h; cases h
  have hf : fitsN (fmtN x.op) x.m = true := by
    cases hq : fitsN (fmtN x.op) x.m with
    | true => rfl
    | false => exact absurd (.inr (.inr hq)) hs
  have hop : 1 ≤ x.op ∧ x.op ≤ 98 := by
    unfold fmtN at h0
    split at h0
    · rename_i h2
      refine ⟨?_, by omega⟩
      by_cases hz : x.op = 0
      · rw [hz] at h0; exact absurd (by decide) h0
      · omega
    · exact absurd rfl h0
  exact ⟨hop.1, hop.2, h0, by omega, by omega, by omega, by omega, hf, hb⟩
theorem nameN_ne : ∀ i : Nat, i < 32 → Rg.nameN i ≠ [] ∧ (Rg.nameN i).length ≤ 4 := by decide +kernel
theorem opNames_ne : ∀ n ∈ opNames, n ≠ [] ∧ n.length ≤ 20 := by decide +kernel
theorem opName_ne {n : Int} (h : 1 ≤ n ∧ n ≤ 98) : opName n ≠ [] ∧ (opName n).length ≤ 20 := by
  unfold opName
  rw [if_pos h]
  have hi : n.toNat - 1 < opNames.length := by rw [opNames_len]; omega
  rw [List.getD_eq_getElem?_getD, List.getElem?_eq_getElem hi]
  exact opNames_ne _ (List.getElem_mem hi)
theorem bitsS_len (aq rl : Bool) : (bitsS aq rl).length ≤ 5 := by cases aq <;> cases rl <;> decide
theorem order_ascii : ∀ f : Nat, f < 15 → ∀ c ∈ orderS f, c.toNat < 128 := by decide
theorem fieldsT_cons (x : Ins) (f : UInt8) (fs : Str) : fieldsT x (f :: fs) = 32 :: (fieldT x f ++ fieldsT x fs) := by
  unfold fieldsT; rw [List.flatMap_cons]; rfl
theorem tdiv_rng {m : Int} (h1 : -9223372036854775808 ≤ m) (h2 : m ≤ 9223372036854775807) : -9223372036854775808 ≤ m.tdiv 4096 ∧ m.tdiv 4096 ≤ 9223372036854775807 := by
  rcases Int.le_total 0 m with h | h
  · rw [Int.tdiv_eq_ediv_of_nonneg h]; omega
  · obtain ⟨k, rfl⟩ : ∃ k : Int, m = -k := ⟨-m, by omega⟩
    rw [Int.neg_tdiv, Int.tdiv_eq_ediv_of_nonneg (by omega)]; omega
theorem Bds.setI {el : TypeId} {k h : Hp} {b m p : Nat} {l : Str} {t : ByteArray} {o : Obj} (w : Bds el k h b l) (hm : h m = some (.stringIter t p)) (hk : k m = none) : Bds el k (h.set m o) b l := by
  obtain ⟨ob, ⟨u, s, e1, e2, e3⟩, h2, h3, h4, h5⟩ := w
  have hbm : b ≠ m := fun e => by subst e; rw [hm] at e1; cases e1
  exact ⟨ob, ⟨u, s, by rw [Hp.set_other _ _ hbm]; exact e1, e2.set (e2.off hm (fun el l e => by cases e)), e3⟩, Hp.le_keep h2 hk, h3, h4, h5⟩
theorem Bds.knowI {el : TypeId} {k h : Hp} {b m p : Nat} {l : Str} {t : ByteArray} (w : Bds el k h b l) (hm : h m = some (.stringIter t p)) : Bds el (k.set m (.stringIter t p)) h b l := by
  obtain ⟨ob, ⟨u, s, e1, e2, e3⟩, h2, h3, h4, h5⟩ := w
  have hbm : b ≠ m := fun e => by subst e; rw [hm] at e1; cases e1
  refine ⟨ob, ⟨u, s, e1, e2, e3⟩, Hp.set_le h2 hm, by rw [Hp.set_other _ _ hbm]; exact h3, fun d hd => ?_, h5⟩
  rw [Hp.set_other _ _ (e2.off hm (fun el l e => by cases e) d hd)]
  exact h4 d hd
section
set_option maxHeartbeats 8000000
set_option maxRecDepth 10000
variable {h : Hp} {K : Value → Hp → Prop}
theorem Bds.wsN {el : TypeId} {k : Hp} {b : Nat} {l : Str} (hv0 : liesAt Tryz.prog Tryz.prog.depth el (2 / Tryz.prog.cellsOf el) 0 53 1 = true) (w : Bds el k h b l) (x : Str) (hx : l ≠ [] ∨ x ≠ []) (hlen : l.length + x.length ≤ 2 ^ 30)
    (hk : ∀ h', Bds el k h' b (l ++ x) → K (.tuple #[.int .i64 x.length, .nilIface]) h') : X Tryz.prog 20 #[.pointer (some ⟨b, 0, none⟩), .string (bs x)] h K := by
  obtain ⟨ob, h1, h2, h3, h4, h5⟩ := w
  refine writeString_x hv0 b l x ob h1 hlen fun h' ob' hB ht => ?_
  have := ht.le h2 h3 h4
  exact hk h' ⟨ob', hB, this.1, h3, this.2, fun e => by have := List.append_eq_nil_iff.1 e; exact absurd this.2 (hx.resolve_left (fun hn => hn this.1))⟩
theorem rname_x (i : Int) (hi : 0 ≤ i ∧ i ≤ 31) (hk : K (.string (bs (Rg.nameN i.toNat))) h) : X Tryz.prog 26 #[.int .i64 i] h K := by
  obtain ⟨j, rfl⟩ : ∃ j : Nat, i = j := ⟨i.toNat, by omega⟩
  exact Rg.name_x j (by omega) hk
theorem text_x (hp : Pow h) (x : Ins) (m1 : -9223372036854775808 ≤ x.m) (m2 : x.m ≤ 9223372036854775807) (hk : ∀ h', h.le h' → K (.tuple #[.string (bs (textA x)), zv x.chk]) h') : X Tryz.prog 8 #[.agg x.cs.toArray] h K := by
  unfold textA at hk
  refine fnv (args := _) mixed rfXAsR0 [] [] Tryz.func8 rfl (by kernel_rfl) ?_; conv => whnf
  refine check_x x.op x.a x.b x.c x.m x.s x.aq x.rl m1 m2 ?_
  rw [show checkF (fmtN x.op) x.a x.b x.c x.m x.s x.aq x.rl = x.chk from rfl]
  by_cases hc : x.chk = 0
  rotate_left
  · rw [if_neg hc] at hk
    generalize x.chk = e at hc hk ⊢
    conv => whnf
    refine bsel_true (by simpa using hc) ?_; conv => whnf
    exact hk h (Hp.le_refl _)
  rw [if_pos hc] at hk
  obtain ⟨o1, o2, _, ha, hb, hc2, hs, _, _⟩ := chk_ok hc
  rw [hc] at hk ⊢
  have hT : opName x.op ++ (bitsS x.aq x.rl ++ fieldsT x (orderS (fmtN x.op))) = lineT x := rfl
  generalize hL : lineT x = L at hT hk
  clear hL
  obtain ⟨n1, n2⟩ := opName_ne ⟨o1, o2⟩
  have hf15 := fmtN_lt x.op
  have hol := order_lt _ hf15
  have hoa := order_ascii _ hf15
  have hbl := bitsS_len x.aq x.rl
  generalize hf : fmtN x.op = f at hT hf15 hol hoa
  generalize hfs : orderS f = fs at hT hol hoa
  generalize hnm : opName x.op = nm at hT n1 n2
  generalize hbt : bitsS x.aq x.rl = bt at hT hbl
  conv => whnf
  refine new_intro (o := rowO 53 [.pointer none, .slice none 0 0]) (fun bb h1 n_bb le_bb at_bb ot_bb => ?_); conv => whnf
  have w1 : Bds 53 h h1 bb [] := Bds.of le_bb n_bb at_bb
  refine kname_x x.op ?_
  rw [hnm]
  conv => whnf
  refine w1.wsN liesB nm (.inr n1) (by simp; omega) fun h2 w2 => ?_
  rw [List.nil_append] at w2
  conv => whnf
  refine bits_x x.op x.a x.b x.c x.m x.s x.aq x.rl ?_
  rw [hbt]
  conv => whnf
  refine w2.wsN liesB bt (.inl n1) (by omega) fun h3 w3 => ?_
  conv => whnf
  refine fmt_x x.op ?_
  rw [hf]
  conv => whnf
  refine order_x f hf15 ?_
  rw [hfs]
  conv => whnf
  intro it hit
  have nit : h it = none := Hp.none_le w3.le hit
  have w4 : Bds 53 h (h3.set it (.stringIter (bs fs) 0)) bb (nm ++ bt) := w3.up (Hp.le_set hit)
  have hI0 : (h3.set it (.stringIter (bs fs) 0)) it = some (.stringIter (bs fs) 0) := Hp.set_same _ _ _
  generalize h3.set it (.stringIter (bs fs) 0) = h4 at w4 hI0 ⊢
  refine loop_at [] [1] (fun r vs cs h' => cs = [some x.cs] ∧ ∃ (i : Nat) (acc : Str), i ≤ fs.length ∧ r = fs.length - i ∧ h' it = some (.stringIter (bs fs) i) ∧ Bds 53 h h' bb acc ∧ acc ≠ [] ∧ acc.length ≤ 30 + 40 * i ∧ acc ++ fieldsT x (fs.drop i) = L) fs.length
    ⟨rfl, 0, _, by omega, rfl, hI0, w4, by simp [n1], by rw [List.length_append]; omega, by rw [List.append_assoc]; exact hT⟩ ?_
  rintro r vs cs mm bx h5 ⟨rfl, i, acc, hi, rfl, hI, w5, hne, hal, hR⟩
  by_cases hil : i = fs.length
  · subst hil
    rw [List.drop_length] at hR
    have hR : acc ++ [] = L := hR
    rw [List.append_nil] at hR
    subst hR
    conv => whnf
    refine io_none (nextE hI) ?_
    conv => whnf
    refine w5.str (by omega) fun h6 le6 => ?_
    conv => whnf
    exact hk h6 le6
  · obtain ⟨c, hcc⟩ : ∃ c, fs[i]? = some c := ⟨_, List.getElem?_eq_getElem (by omega)⟩
    have hd : fs.drop i = c :: fs.drop (i + 1) := by
      rw [List.drop_eq_getElem_cons (by omega)]
      congr 1
      exact (List.getElem?_eq_some_iff.1 hcc).2
    have hca := hoa c (List.mem_of_getElem? hcc)
    rw [hd, fieldsT_cons] at hR
    conv => whnf
    refine io_intro (by exact nextW hI hcc hca) (fun h6 at_h6 ot_h6 => ?_)
    try (conv => whnf)
    have w6 : Bds 53 h h6 bb acc := by rw [Hp.eq_set at_h6 ot_h6]; exact w5.setI hI nit
    have w7 := w6.knowI at_h6
    conv => whnf
    refine w7.wb liesB 32 (by omega) fun h7 w8 => ?_
    unfold fieldT at hR
    conv => whnf
    refine bsel_intro (fun q100 => ?_) (fun q100 => ?_) <;> try simp only [bsL] at q100
    · have hq : c = 100 := UInt8.toNat_inj.1 (by have : (100 : UInt8).toNat = 100 := rfl; omega)
      rw [if_pos hq] at hR
      conv => whnf
      refine rname_x x.a ha ?_
      obtain ⟨z1, z2⟩ := nameN_ne x.a.toNat (by omega)
      generalize Rg.nameN x.a.toNat = tx at hR z1 z2 ⊢
      conv => whnf
      refine w8.wsN liesB tx (.inr z1) (by rw [List.length_append, List.length_singleton]; omega) fun h8 w9 => ?_
      conv => whnf
      refine ⟨fs.length - (i + 1), by omega, rfl, i + 1, _, by omega, rfl, w9.le _ _ (Hp.set_same _ _ _), w9.weak (Hp.le_set' nit), by simp, ?_, ?_⟩
      · rw [List.length_append, List.length_append, List.length_singleton]; omega
      · rw [← hR]; simp
    have c100 : c ≠ 100 := fun e => q100 (by rw [e]; rfl)
    conv => whnf
    refine bsel_intro (fun q49 => ?_) (fun q49 => ?_) <;> try simp only [bsL] at q49
    · have hq : c = 49 := UInt8.toNat_inj.1 (by have : (49 : UInt8).toNat = 49 := rfl; omega)
      rw [if_neg c100, if_pos hq] at hR
      conv => whnf
      refine rname_x x.b hb ?_
      obtain ⟨z1, z2⟩ := nameN_ne x.b.toNat (by omega)
      generalize Rg.nameN x.b.toNat = tx at hR z1 z2 ⊢
      conv => whnf
      refine w8.wsN liesB tx (.inr z1) (by rw [List.length_append, List.length_singleton]; omega) fun h8 w9 => ?_
      conv => whnf
      refine ⟨fs.length - (i + 1), by omega, rfl, i + 1, _, by omega, rfl, w9.le _ _ (Hp.set_same _ _ _), w9.weak (Hp.le_set' nit), by simp, ?_, ?_⟩
      · rw [List.length_append, List.length_append, List.length_singleton]; omega
      · rw [← hR]; simp
    have c49 : c ≠ 49 := fun e => q49 (by rw [e]; rfl)
    conv => whnf
    refine bsel_intro (fun q50 => ?_) (fun q50 => ?_) <;> try simp only [bsL] at q50
    · have hq : c = 50 := UInt8.toNat_inj.1 (by have : (50 : UInt8).toNat = 50 := rfl; omega)
      rw [if_neg c100, if_neg c49, if_pos hq] at hR
      conv => whnf
      refine rname_x x.c hc2 ?_
      obtain ⟨z1, z2⟩ := nameN_ne x.c.toNat (by omega)
      generalize Rg.nameN x.c.toNat = tx at hR z1 z2 ⊢
      conv => whnf
      refine w8.wsN liesB tx (.inr z1) (by rw [List.length_append, List.length_singleton]; omega) fun h8 w9 => ?_
      conv => whnf
      refine ⟨fs.length - (i + 1), by omega, rfl, i + 1, _, by omega, rfl, w9.le _ _ (Hp.set_same _ _ _), w9.weak (Hp.le_set' nit), by simp, ?_, ?_⟩
      · rw [List.length_append, List.length_append, List.length_singleton]; omega
      · rw [← hR]; simp
    have c50 : c ≠ 50 := fun e => q50 (by rw [e]; rfl)
    conv => whnf
    refine bsel_intro (fun q105 => ?_) (fun q105 => ?_) <;> try simp only [bsL] at q105
    · have hq : c = 105 := UInt8.toNat_inj.1 (by have : (105 : UInt8).toNat = 105 := rfl; omega)
      rw [if_neg c100, if_neg c49, if_neg c50, if_pos hq] at hR
      conv => whnf
      refine formatA_x (hp.le (Hp.le_trans (Hp.le_set' nit) w8.le)) x.m m1 m2 ?_
      have z1 := itoa_ne x.m
      have z2 := itoa_len (n := x.m) m1 m2
      generalize Lib.itoa x.m = tx at hR z1 z2 ⊢
      conv => whnf
      refine w8.wsN liesB tx (.inr z1) (by rw [List.length_append, List.length_singleton]; omega) fun h8 w9 => ?_
      conv => whnf
      refine ⟨fs.length - (i + 1), by omega, rfl, i + 1, _, by omega, rfl, w9.le _ _ (Hp.set_same _ _ _), w9.weak (Hp.le_set' nit), by simp, ?_, ?_⟩
      · rw [List.length_append, List.length_append, List.length_singleton]; omega
      · rw [← hR]; simp
    have c105 : c ≠ 105 := fun e => q105 (by rw [e]; rfl)
    conv => whnf
    refine bsel_intro (fun q117 => ?_) (fun q117 => ?_) <;> try simp only [bsL] at q117
    · have hq : c = 117 := UInt8.toNat_inj.1 (by have : (117 : UInt8).toNat = 117 := rfl; omega)
      rw [if_neg c100, if_neg c49, if_neg c50, if_neg c105, if_pos hq] at hR
      conv => whnf
      have hd1 : -9223372036854775808 ≤ x.m.tdiv 4096 ∧ x.m.tdiv 4096 ≤ 9223372036854775807 := tdiv_rng m1 m2
      refine ov_i64 (hd1) ?_; conv => whnf
      refine formatA_x (hp.le (Hp.le_trans (Hp.le_set' nit) w8.le)) (x.m.tdiv 4096) hd1.1 hd1.2 ?_
      have z1 := itoa_ne (x.m.tdiv 4096)
      have z2 := itoa_len (n := (x.m.tdiv 4096)) hd1.1 hd1.2
      generalize Lib.itoa (x.m.tdiv 4096) = tx at hR z1 z2 ⊢
      conv => whnf
      refine w8.wsN liesB tx (.inr z1) (by rw [List.length_append, List.length_singleton]; omega) fun h8 w9 => ?_
      conv => whnf
      refine ⟨fs.length - (i + 1), by omega, rfl, i + 1, _, by omega, rfl, w9.le _ _ (Hp.set_same _ _ _), w9.weak (Hp.le_set' nit), by simp, ?_, ?_⟩
      · rw [List.length_append, List.length_append, List.length_singleton]; omega
      · rw [← hR]; simp
    have c117 : c ≠ 117 := fun e => q117 (by rw [e]; rfl)
    conv => whnf
    refine bsel_intro (fun q99 => ?_) (fun q99 => ?_) <;> try simp only [bsL] at q99
    · have hq : c = 99 := UInt8.toNat_inj.1 (by have : (99 : UInt8).toNat = 99 := rfl; omega)
      rw [if_neg c100, if_neg c49, if_neg c50, if_neg c105, if_neg c117, if_pos hq] at hR
      conv => whnf
      refine itoaA_x (hp.le (Hp.le_trans (Hp.le_set' nit) w8.le)) x.s (by omega) (by omega) ?_
      have z1 := itoa_ne x.s
      have z2 := itoa_len (n := x.s) (by omega) (by omega)
      generalize Lib.itoa x.s = tx at hR z1 z2 ⊢
      conv => whnf
      refine w8.wsN liesB tx (.inr z1) (by rw [List.length_append, List.length_singleton]; omega) fun h8 w9 => ?_
      conv => whnf
      refine ⟨fs.length - (i + 1), by omega, rfl, i + 1, _, by omega, rfl, w9.le _ _ (Hp.set_same _ _ _), w9.weak (Hp.le_set' nit), by simp, ?_, ?_⟩
      · rw [List.length_append, List.length_append, List.length_singleton]; omega
      · rw [← hR]; simp
    have c99 : c ≠ 99 := fun e => q99 (by rw [e]; rfl)
    conv => whnf
    rw [if_neg c100, if_neg c49, if_neg c50, if_neg c105, if_neg c117, if_neg c99] at hR
    refine itoaA_x (hp.le (Hp.le_trans (Hp.le_set' nit) w8.le)) x.b (by omega) (by omega) ?_
    have z1 := itoa_ne x.b
    have z2 := itoa_len (n := x.b) (by omega) (by omega)
    generalize Lib.itoa x.b = tx at hR z1 z2 ⊢
    conv => whnf
    refine w8.wsN liesB tx (.inr z1) (by rw [List.length_append, List.length_singleton]; omega) fun h8 w9 => ?_
    conv => whnf
    refine ⟨fs.length - (i + 1), by omega, rfl, i + 1, _, by omega, rfl, w9.le _ _ (Hp.set_same _ _ _), w9.weak (Hp.le_set' nit), by simp, ?_, ?_⟩
    · rw [List.length_append, List.length_append, List.length_singleton]; omega
    · rw [← hR]; simp
end
end Go.Proofs.YtlobclgbbhoeiaaGreatDoor
