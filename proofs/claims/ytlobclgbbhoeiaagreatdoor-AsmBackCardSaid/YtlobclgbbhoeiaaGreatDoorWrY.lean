/-
  Texts' words, and words' listings: the law, walked.
-/
import Derived.Test.YtlobclgbbhoeiaaGreatDoorWrX
import Derived.Test.YtlobclgbbhoeiaaGreatDoorAsZd
/-! Texts' words, and words' listings: the law, walked. -/
namespace Go.Proofs.YtlobclgbbhoeiaaGreatDoor
set_option linter.unusedSimpArgs false
set_option linter.unusedVariables false
open Go Go.Mid Go.RowKit Go.Bits
attribute [local irreducible] mid
section
set_option maxHeartbeats 8000000
set_option maxRecDepth 10000
variable {h : Hp} {K : Value → Hp → Prop}
theorem asmWords_x (hm : Mx h) (her : Er h) (hp : Pow h) (text : Str) (ws : List Nat) (a : Option Addr) (cap : Nat) (hW : InW h a ws) (hk : ∀ h', h.le h' → K (.bool true) h') : X Tryz.prog 5 #[.string (bs text), .slice a ws.length cap] h K := by
  refine fnv (args := _) mixed [] [] [] Tryz.func5 rfl (by kernel_rfl) ?_; conv => whnf
  refine bsel_intro (fun q1 => ?_) (fun q1 => ?_) <;> try simp only [bsL] at q1
  · conv => whnf
    refine live06_x hm her hp ?_
    conv => whnf
    exact hk h (Hp.le_refl _)
  conv => whnf
  refine bsel_intro (fun q2 => ?_) (fun q2 => ?_) <;> try simp only [bsL] at q2
  · conv => whnf
    refine live06_x hm her hp ?_
    conv => whnf
    exact hk h (Hp.le_refl _)
  have hl1 : text.length ≤ 3000 := by omega
  have hl2 : ws.length ≤ 100 := by omega
  conv => whnf
  refine words_x hm her hp text (by omega) fun v h1 hV => ?_
  have hob_ := hV
  obtain ⟨sl, rfl, hO⟩ := hob_
  obtain ⟨sa, sc, rfl⟩ := hO.shape
  have hle1 := hO.le
  conv => whnf
  refine rwords_x text (by omega) fun v2 h2 hV2 => ?_
  have hob_ := hV2
  obtain ⟨sl2, rfl, hO2⟩ := hob_
  obtain ⟨ra, rc, rfl⟩ := hO2.shape
  have hle2 := hO2.le
  have hO1 := hO.up hle2
  have hlt : ∀ w ∈ (wordsP (linesA text) 1 []).1, w < 2 ^ 32 := words_lt _ _ _ (by simp)
  have hcn := words_count (linesA text) 1 []
  have hln := linesA_len text
  generalize wordsP (linesA text) 1 [] = t at hO hO1 hO2 hlt hcn ⊢
  have hcn2 : t.1.length ≤ 3001 := by simp at hcn; omega
  clear hO
  have hle := Hp.le_trans hle1 hle2
  conv => whnf
  refine bsel_false (by simp) ?_; conv => whnf
  refine bsel_false (by simp) ?_; conv => whnf
  refine bsel_false (by simp) ?_; conv => whnf
  refine loop_at [11] [] (fun r vs _ h' => h2 = h' ∧ ∃ i : Nat, i ≤ t.1.length ∧ r = t.1.length - i ∧ vs = [.v (.int .i64 i)]) t.1.length ⟨rfl, 0, by omega, by omega, rfl⟩ ?_
  rintro r vs cs mm bx _ ⟨rfl, i, hi, rfl, rfl⟩
  conv => whnf
  refine bsel_intro (fun q3 => ?_) (fun q3 => ?_) <;> try simp only [bsL] at q3
  · have hi2 : i < t.1.length := by omega
    obtain ⟨w, hx⟩ : ∃ w, t.1[i]? = some w := ⟨_, List.getElem?_eq_getElem hi2⟩
    have hw := hlt w (List.mem_of_getElem? hx)
    obtain ⟨b, cap1, rest, e0, hc, hb, _⟩ := hO1.row (by omega)
    obtain ⟨rfl, rfl⟩ : sa = some ⟨b, 0, none⟩ ∧ sc = cap1 := by injection e0 with e1 e2 e3; exact ⟨e1, e3⟩
    obtain ⟨b2, cap2, rest2, e0, hc2, hb2, _⟩ := hO2.row (by omega)
    obtain ⟨rfl, rfl⟩ : ra = some ⟨b2, 0, none⟩ ∧ rc = cap2 := by injection e0 with e1 e2 e3; exact ⟨e1, e3⟩
    have g1 : (t.1.map wx ++ rest)[i]? = some (wx w) := by
      rw [List.getElem?_append_left (by simpa using hi2), List.getElem?_map, hx]; rfl
    have g2 : (t.1.map uv ++ rest2)[i]? = some (uv w) := by
      rw [List.getElem?_append_left (by simpa using hi2), List.getElem?_map, hx]; rfl
    conv => whnf
    (first | refine need_intro (⟨by omega, by omega⟩) ?_ | refine must.mk (⟨by omega, by omega⟩) ?_); conv => whnf
    refine ⟨_, loadI agg32 hb (j := i) rfl g1, ?_⟩; conv => whnf
    refine ov_u64 (by omega) ?_; conv => whnf
    (first | refine need_intro (⟨by omega, by omega⟩) ?_ | refine must.mk (⟨by omega, by omega⟩) ?_); conv => whnf
    refine ⟨_, loadI aggU64 hb2 (j := i) rfl g2, ?_⟩; conv => whnf
    refine bsel_false (by simp) ?_; conv => whnf
    (first | refine ov_c (by simp only [loK, hiK]; omega) ?_ | refine ov_c (by decide) ?_); conv => whnf
    exact ⟨t.1.length - (i + 1), by omega, rfl, i + 1, by omega, rfl, rfl⟩
  · conv => whnf
    refine listing_x (hp.le hle) ws a cap (hW.le hle) (by omega) fun h3 le3 => ?_
    have hle3 := Hp.le_trans hle le3
    conv => whnf
    refine rlisting_x ws a cap (hW.le hle3) (by omega) ?_
    conv => whnf
    refine seq_true (rfl) ?_; conv => whnf
    refine live06_x (hm.le hle3) (her.le hle3) (hp.le hle3) ?_
    conv => whnf
    exact hk h3 hle3
end
end Go.Proofs.YtlobclgbbhoeiaaGreatDoor
/-! Instructions as text: what is written is read as it was: plain laws. -/
namespace Go.Proofs.YtlobclgbbhoeiaaGreatDoor
set_option linter.unusedSimpArgs false
set_option linter.unusedVariables false
open Go Go.Mid Go.RowKit Go.Bits
/-- A text of one word. -/
def oneW (w : Str) : Prop := (32 : UInt8) ∉ w ∧ (10 : UInt8) ∉ w ∧ w ≠ []
theorem one_dec (n : Nat) : oneW (Lib.decDigits n) := by
  have hd := (dec_dv n).2
  exact ⟨fun h => by have := (hd 32 h).1; exact absurd this (by decide), fun h => by have := (hd 10 h).1; exact absurd this (by decide), dec_ne n⟩
theorem one_itoa (n : Int) : oneW (Lib.itoa n) := by
  rcases Int.lt_or_le n 0 with h | h
  · obtain ⟨u, rfl⟩ : ∃ u : Nat, n = -(u : Int) := ⟨n.natAbs, by omega⟩
    rw [Lib.itoa_neg u (by omega)]
    obtain ⟨h1, h2, _⟩ := one_dec u
    exact ⟨fun hm => by rcases List.mem_cons.1 hm with hm | hm; exact absurd hm (by decide); exact h1 hm, fun hm => by rcases List.mem_cons.1 hm with hm | hm; exact absurd hm (by decide); exact h2 hm, by simp⟩
  · obtain ⟨u, rfl⟩ : ∃ u : Nat, n = u := ⟨n.toNat, by omega⟩
    rw [Lib.itoa_nonneg]; exact one_dec u
theorem one_names : ∀ i : Nat, i < 32 → (32 : UInt8) ∉ Rg.nameN i ∧ (10 : UInt8) ∉ Rg.nameN i ∧ Rg.nameN i ≠ [] := by decide +kernel
theorem one_ops : ∀ i : Nat, i < 98 → ∀ k : Nat, k < 4 → (32 : UInt8) ∉ wordK i k ∧ (10 : UInt8) ∉ wordK i k ∧ wordK i k ≠ [] ∧ (wordK i k)[0]? ≠ some 35 := by decide +kernel
theorem one_field {x : Ins} (h : x.chk = 0) (c : UInt8) : oneW (fieldT x c) := by
  obtain ⟨_, _, _, ha, hb, hc, hs, _, _⟩ := chk_ok h
  unfold fieldT
  split
  · exact one_names x.a.toNat (by omega)
  split
  · exact one_names x.b.toNat (by omega)
  split
  · exact one_names x.c.toNat (by omega)
  split
  · exact one_itoa _
  split
  · exact one_itoa _
  split
  · exact one_itoa _
  · exact one_itoa _
/-- Which marks there are. -/
def markK (x : Ins) : Nat := if x.aq then (if x.rl then 3 else 1) else (if x.rl then 2 else 0)
theorem mark_word {x : Ins} {i : Nat} (hi : x.op = ((i + 1 : Nat) : Int)) (hil : i < 98) : opName x.op ++ bitsS x.aq x.rl = wordK i (markK x) := by
  unfold opName wordK markK
  rw [if_pos (by omega), show x.op.toNat - 1 = i by omega]
  cases x.aq <;> cases x.rl <;> rfl
theorem marks_class : ∀ i : Nat, i < 98 → ((flds i).getD 5 false = true ↔ classN ((i + 1 : Nat) : Int) = 7) := by decide +kernel
theorem sp_fields {x : Ins} (h : x.chk = 0) : ∀ (w : Str) (fs : Str), (32 : UInt8) ∉ w → sp [32] (w ++ fieldsT x fs) = w :: fs.map (fieldT x)
  | w, [], hw => by
    show sp [32] (w ++ []) = _
    rw [List.append_nil, sp_end hw]; rfl
  | w, c :: fs, hw => by
    rw [fieldsT_cons, sp_one hw, sp_fields h (fieldT x c) fs (one_field h c).1]; rfl
/-- What a field's text tells. -/
theorem find_name {i : Int} (h : 0 ≤ i ∧ i ≤ 31) : Rg.findI (Rg.nameN i.toNat) = some i := by
  have key := Rg.findKeys i.toNat (by omega) (Rg.nameN i.toNat) (by unfold Rg.keys; simp)
  rw [key]; congr 1; omega
theorem up_back {m : Int} (h1 : -2147483648 ≤ m) (h2 : m ≤ 2147483647) (h3 : m % 4096 = 0) : upN (m.tdiv 4096) = m := by
  obtain ⟨k, rfl⟩ : ∃ k : Int, m = k * 4096 := ⟨m / 4096, by omega⟩
  rw [Int.mul_tdiv_cancel k (by decide)]
  unfold upN
  rw [if_neg (by omega)]
theorem small_back {n : Int} (h : 0 ≤ n ∧ n ≤ 4095) : smallN n = n := by unfold smallN; rw [if_neg (by omega)]
def setF (y x : Ins) (c : UInt8) : Ins := if c = 100 then { y with a := x.a } else if c = 49 then { y with b := x.b } else if c = 50 then { y with c := x.c } else if c = 105 then { y with m := x.m } else if c = 117 then { y with m := x.m } else if c = 99 then { y with s := x.s } else { y with b := x.b }
theorem field_back {x : Ins} (h : x.chk = 0) (y : Ins) (c : UInt8) (hu : c = 117 → fmtN x.op = 5) : fieldP y c (fieldT x c) = .ok (setF y x c) := by
  obtain ⟨_, _, _, ha, hb, hc, hs, hfit, _⟩ := chk_ok h
  obtain ⟨m1, m2⟩ := chk_rng h
  unfold fieldP fieldT setF
  by_cases c1 : c = 100
  · rw [if_pos c1, if_pos c1, if_pos c1, find_name ha]
  rw [if_neg c1, if_neg c1, if_neg c1]
  by_cases c2 : c = 49
  · rw [if_pos c2, if_pos c2, if_pos c2, find_name hb]
  rw [if_neg c2, if_neg c2, if_neg c2]
  by_cases c3 : c = 50
  · rw [if_pos c3, if_pos c3, if_pos c3, find_name hc]
  rw [if_neg c3, if_neg c3, if_neg c3]
  by_cases c4 : c = 105
  · rw [if_pos c4, if_pos c4, if_pos c4, numA_itoa m1 m2]
  rw [if_neg c4, if_neg c4, if_neg c4]
  by_cases c5 : c = 117
  · rw [if_pos c5, if_pos c5, if_pos c5]
    obtain ⟨d1, d2⟩ := tdiv_rng m1 m2
    rw [numA_itoa d1 d2]
    have hf := hu c5
    rw [hf] at hfit
    have hfit := of_decide_eq_true (show decide (-2147483648 ≤ x.m ∧ x.m ≤ 2147483647 ∧ x.m % 4096 = 0) = true from hfit)
    show Except.ok _ = _
    rw [up_back hfit.1 hfit.2.1 hfit.2.2]
  rw [if_neg c5, if_neg c5, if_neg c5]
  by_cases c6 : c = 99
  · rw [if_pos c6, if_pos c6, if_pos c6, numA_itoa (by omega) (by omega)]
    show Except.ok _ = _
    rw [small_back hs]
  rw [if_neg c6, if_neg c6, if_neg c6, numA_itoa (by omega) (by omega)]
  show Except.ok _ = _
  rw [small_back ⟨hb.1, by omega⟩]
theorem fields_back {x : Ins} (h : x.chk = 0) : ∀ (fs : Str) (y : Ins), (∀ c ∈ fs, c = 117 → fmtN x.op = 5) → fieldsP y fs (fs.map (fieldT x)) = .ok (fs.foldl (fun y c => setF y x c) y)
  | [], y, _ => rfl
  | c :: fs, y, hu => by
    show fieldsP y (c :: fs) (fieldT x c :: fs.map (fieldT x)) = _
    rw [fieldsP_cons, field_back h y c (hu c (by simp))]
    exact fields_back h fs _ fun d hd => hu d (by simp [hd])
theorem order_u : ∀ f : Nat, f < 15 → ∀ c ∈ orderS f, c = 117 → f = 5 := by decide
theorem set_all {x : Ins} {f : Nat} (hf : f < 15) (h0 : f ≠ 0) (hz : ((fieldsL.getD f []).getD 0 false = false → x.a = 0) ∧ ((fieldsL.getD f []).getD 1 false = false → x.b = 0) ∧ ((fieldsL.getD f []).getD 2 false = false → x.c = 0) ∧ ((fieldsL.getD f []).getD 3 false = false → x.m = 0) ∧ ((fieldsL.getD f []).getD 4 false = false → x.s = 0)) :
    (orderS f).foldl (fun y c => setF y x c) ⟨x.op, 0, 0, 0, 0, 0, x.aq, x.rl⟩ = x := by
  obtain ⟨op, a, b, c, m, s, aq, rl⟩ := x
  obtain ⟨z0, z1, z2, z3, z4⟩ := hz
  match f, hf, h0 with
  | 0, _, h0 => exact absurd rfl h0
  | 1, _, _ => obtain rfl : m = 0 := z3 rfl; obtain rfl : s = 0 := z4 rfl; rfl
  | 2, _, _ => obtain rfl : c = 0 := z2 rfl; obtain rfl : s = 0 := z4 rfl; rfl
  | 3, _, _ => obtain rfl : a = 0 := z0 rfl; obtain rfl : s = 0 := z4 rfl; rfl
  | 4, _, _ => obtain rfl : a = 0 := z0 rfl; obtain rfl : s = 0 := z4 rfl; rfl
  | 5, _, _ => obtain rfl : b = 0 := z1 rfl; obtain rfl : c = 0 := z2 rfl; obtain rfl : s = 0 := z4 rfl; rfl
  | 6, _, _ => obtain rfl : b = 0 := z1 rfl; obtain rfl : c = 0 := z2 rfl; obtain rfl : s = 0 := z4 rfl; rfl
  | 7, _, _ => obtain rfl : c = 0 := z2 rfl; obtain rfl : s = 0 := z4 rfl; rfl
  | 8, _, _ => obtain rfl : c = 0 := z2 rfl; obtain rfl : s = 0 := z4 rfl; rfl
  | 9, _, _ => obtain rfl : c = 0 := z2 rfl; obtain rfl : m = 0 := z3 rfl; rfl
  | 10, _, _ => obtain rfl : c = 0 := z2 rfl; obtain rfl : m = 0 := z3 rfl; rfl
  | 11, _, _ => obtain rfl : m = 0 := z3 rfl; obtain rfl : s = 0 := z4 rfl; rfl
  | 12, _, _ => obtain rfl : c = 0 := z2 rfl; obtain rfl : m = 0 := z3 rfl; obtain rfl : s = 0 := z4 rfl; rfl
  | 13, _, _ => obtain rfl : a = 0 := z0 rfl; obtain rfl : b = 0 := z1 rfl; obtain rfl : c = 0 := z2 rfl; obtain rfl : m = 0 := z3 rfl; obtain rfl : s = 0 := z4 rfl; rfl
  | 14, _, _ => obtain rfl : a = 0 := z0 rfl; obtain rfl : m = 0 := z3 rfl; obtain rfl : s = 0 := z4 rfl; rfl
  | f + 15, hf, _ => exact absurd hf (by omega)
/-- **What is written is read as it was.** -/
theorem parse_line {x : Ins} (h : x.chk = 0) : parseA (lineT x) = .ok x := by
  obtain ⟨o1, o2, h0, _, _, _, _, _, hbad⟩ := chk_ok h
  obtain ⟨i, hi⟩ : ∃ i : Nat, x.op = ((i + 1 : Nat) : Int) := ⟨x.op.toNat - 1, by omega⟩
  have hil : i < 98 := by omega
  have hf15 := fmtN_lt x.op
  have hz := bad_fld hbad (flds_len _ hf15)
  have hmk : markK x < 4 := by unfold markK; split <;> split <;> decide
  obtain ⟨w1, w2, w3, w4⟩ := one_ops i hil _ hmk
  obtain ⟨l1, l2⟩ := lineT_len h
  have hline : lineT x = wordK i (markK x) ++ fieldsT x (orderS (fmtN x.op)) := by
    unfold lineT
    rw [← List.append_assoc, mark_word hi hil]
  have hsp : sp [32] (lineT x) = wordK i (markK x) :: (orderS (fmtN x.op)).map (fieldT x) := by
    rw [hline]; exact sp_fields h _ _ w1
  have hok : okK i (markK x) := by
    unfold okK
    by_cases hq : (flds i).getD 5 false = true
    · exact .inr ((marks_class i hil).1 hq)
    · have hfl : flds i = fieldsL.getD (fmtN x.op) [] := by unfold flds; rw [hi]
      have := hz.2.2.2.2.2 (by rw [← hfl]; simpa using hq)
      left
      unfold markK
      rw [this.1, this.2]; rfl
  have hop := opA_word i hil _ hmk hok
  unfold parseA
  rw [if_neg (by omega), if_neg l2, hsp, if_neg]
  · show lineP _ _ = _
    unfold lineP
    rw [hop]
    have hm : (decide (markK x = 1 ∨ markK x = 3), decide (1 < markK x)) = (x.aq, x.rl) := by
      unfold markK
      cases x.aq <;> cases x.rl <;> rfl
    have hm1 : decide (markK x = 1 ∨ markK x = 3) = x.aq := congrArg Prod.fst hm
    have hm2 : decide (1 < markK x) = x.rl := congrArg Prod.snd hm
    show (if ((orderS (fmtN x.op)).map (fieldT x)).length ≠ (orderS (fmtN ((i + 1 : Nat) : Int))).length then _ else _) = _
    rw [← hi, if_neg (by simp), hm1, hm2, fields_back h _ _ (fun c hc e => order_u _ hf15 c hc e)]
    have hall := set_all (x := x) hf15 h0 ⟨hz.1, hz.2.1, hz.2.2.1, hz.2.2.2.1, hz.2.2.2.2.1⟩
    rw [hall]
    show (if x.chk = 0 then _ else _) = _
    rw [if_pos h]
  · rw [List.any_eq_true]
    rintro ⟨w, hw, he⟩
    have he : w = [] := by simpa using he
    rcases List.mem_cons.1 hw with hw | hw
    · exact w3 (hw ▸ he)
    · obtain ⟨c, _, rfl⟩ := List.mem_map.1 hw
      exact (one_field h c).2.2 he
theorem line_no10 {x : Ins} (h : x.chk = 0) : (10 : UInt8) ∉ lineT x ∧ ¬ emptyL (lineT x) := by
  obtain ⟨o1, o2, h0, _, _, _, _, _, hbad⟩ := chk_ok h
  obtain ⟨i, hi⟩ : ∃ i : Nat, x.op = ((i + 1 : Nat) : Int) := ⟨x.op.toNat - 1, by omega⟩
  have hil : i < 98 := by omega
  have hmk : markK x < 4 := by unfold markK; split <;> split <;> decide
  obtain ⟨w1, w2, w3, w4⟩ := one_ops i hil _ hmk
  have hline : lineT x = wordK i (markK x) ++ fieldsT x (orderS (fmtN x.op)) := by
    unfold lineT
    rw [← List.append_assoc, mark_word hi hil]
  have hfs : ∀ fs : Str, (10 : UInt8) ∉ fieldsT x fs := fun fs => by
    induction fs with
    | nil => simp [fieldsT]
    | cons c fs ih =>
      rw [fieldsT_cons]
      intro hm
      rcases List.mem_cons.1 hm with hm | hm
      · exact absurd hm (by decide)
      · rcases List.mem_append.1 hm with hm | hm
        · exact (one_field h c).2.1 hm
        · exact ih hm
  rw [hline]
  refine ⟨fun hm => (List.mem_append.1 hm).elim w2 (hfs _), ?_⟩
  unfold emptyL
  rintro (he | he)
  · exact w3 (List.append_eq_nil_iff.1 he).1
  · rw [List.getElem?_append_left (List.length_pos_iff.2 w3)] at he
    exact w4 he
/-- **The listing of words that are instructions is read as it was.** -/
theorem list_back : ∀ (ws : List Nat) (n : Nat) (out : List Nat), (∀ w ∈ ws, w < 2 ^ 32 ∧ opOf w ≠ none) → wordsP (linesA (listT ws)) n out = (out ++ ws, 0, 0)
  | [], n, out, _ => by
    show wordsP (linesA []) n out = _
    rw [linesA_nil, List.append_nil]; rfl
  | w :: ws, n, out, h => by
    obtain ⟨hw, ho⟩ := h w (by simp)
    obtain ⟨i, hi⟩ := Option.ne_none_iff_exists'.1 ho
    have hh := opOf_hit hi
    obtain ⟨e1, e2, _⟩ := enc_dec hw hh
    have ht : wordT w = lineT (decI w i) := by unfold wordT; rw [hi]
    obtain ⟨l1, l2⟩ := line_no10 e1
    rw [listT_cons, ht, linesA_cons l1]
    show (if emptyL (lineT (decI w i)) then _ else match parseA (lineT (decI w i)) with
      | .error e => _
      | .ok x => wordsP (linesA (listT ws)) (n + 1) (out ++ [encW x])) = _
    rw [if_neg l2, parse_line e1]
    show wordsP (linesA (listT ws)) (n + 1) (out ++ [encW (decI w i)]) = _
    rw [e2, list_back ws _ _ (fun v hv => h v (by simp [hv]))]
    simp
end Go.Proofs.YtlobclgbbhoeiaaGreatDoor
/-! Instructions as text: what is written is read as it was: the law, walked. -/
namespace Go.Proofs.YtlobclgbbhoeiaaGreatDoor
set_option linter.unusedSimpArgs false
set_option linter.unusedVariables false
open Go Go.Mid Go.RowKit Go.Bits
attribute [local irreducible] mid
section
set_option maxHeartbeats 8000000
set_option maxRecDepth 10000
variable {h : Hp} {K : Value → Hp → Prop}
def isW (w : Nat) : Bool := (opOf w).isSome
theorem filt_lt {ws : List Nat} (h : ∀ w ∈ ws, w < 2 ^ 32) : ∀ w ∈ ws.filter isW, w < 2 ^ 32 ∧ opOf w ≠ none := fun w hw => by
  obtain ⟨h1, h2⟩ := List.mem_filter.1 hw
  refine ⟨h w h1, fun e => ?_⟩
  unfold isW at h2
  rw [e] at h2; cases h2
theorem decV_ok (w : Nat) : ∃ y : Ins, decV w = .tuple #[.agg y.cs.toArray, .bool (isW w)] := by
  unfold decV isW
  cases opOf w with
  | none => exact ⟨in0, rfl⟩
  | some i => exact ⟨decI w i, rfl⟩
theorem asmBack_x (hm : Mx h) (her : Er h) (hp : Pow h) (x : Ins) (m1 : -9223372036854775808 ≤ x.m) (m2 : x.m ≤ 9223372036854775807) (ws : List Nat) (a : Option Addr) (cap : Nat) (hW : InW h a ws) (hk : ∀ h', h.le h' → K (.bool true) h') : X Tryz.prog 6 #[.agg x.cs.toArray, .slice a ws.length cap] h K := by
  refine fnv (args := _) mixed [(2, 2), (7, 7), (11, 11)] [] [] Tryz.func6 rfl (by kernel_rfl) ?_; conv => whnf
  refine bsel_intro (fun q1 => ?_) (fun q1 => ?_) <;> try simp only [bsL] at q1
  · conv => whnf
    refine live06_x hm her hp ?_
    conv => whnf
    exact hk h (Hp.le_refl _)
  have hl : ws.length ≤ 60 := by omega
  conv => whnf
  refine text_x hp x m1 m2 fun h1 le1 => ?_
  by_cases hc : x.chk = 0
  · rw [hc, show textA x = lineT x by unfold textA; rw [if_pos hc]]
    obtain ⟨l1, l2⟩ := lineT_len hc
    conv => whnf
    refine XE.noE (parse_x (hm.le le1) (her.le le1) (hp.le le1) (lineT x) (by omega) fun h2 le2 => ?_)
    rw [parse_line hc]
    have LE0 := Hp.le_trans le1 le2
    rw [show parsedV (.ok x) = .tuple #[.agg x.cs.toArray, .int .i64 0] from rfl]
    conv => whnf
    refine must_via (b := true) (by kernel_rfl) (eqIns_self x) ?_
    conv => whnf
    refine loop_at [10, 9] [] (fun r vs _ h' => ∃ (i : Nat) (sl : Value), i ≤ ws.length ∧ r = ws.length - i ∧ vs = [.v (.int .i64 i), .v sl] ∧ Owns h2 h' 42 1 sl ((ws.take i).filter isW).length (((ws.take i).filter isW).map wx)) ws.length
      ⟨0, .slice none 0 0, by omega, by omega, rfl, by simpa using Owns.nil (Hp.le_refl _)⟩ ?_
    rintro r vs cs mm bx h3 ⟨i, sl, hi, rfl, rfl, hO⟩
    obtain ⟨sa, sc, rfl⟩ := hO.shape
    have hle3 := Hp.le_trans LE0 hO.le
    have hcnt : ((ws.take i).filter isW).length ≤ ws.length := Nat.le_trans (List.length_filter_le _ _) (by rw [List.length_take]; omega)
    conv => whnf
    refine bsel_intro (fun q3 => ?_) (fun q3 => ?_) <;> try simp only [bsL] at q3
    · have hi2 : i < ws.length := by omega
      obtain ⟨w, hx⟩ : ∃ w, ws[i]? = some w := ⟨_, List.getElem?_eq_getElem hi2⟩
      obtain ⟨ba, rfl, hld⟩ := (hW.le hle3).2 i w hx
      have hw := hW.1 w (List.mem_of_getElem? hx)
      have htk : ws.take (i + 1) = ws.take i ++ [w] := by rw [List.take_add_one, hx]; rfl
      obtain ⟨dy, ed⟩ := decV_ok w
      conv => whnf
      (first | refine need_intro (⟨by omega, by omega⟩) ?_ | refine must.mk (⟨by omega, by omega⟩) ?_); conv => whnf
      refine ⟨_, hld, ?_⟩; conv => whnf
      refine ov_u64 (by omega) ?_; conv => whnf
      refine rdecode_x w hw ?_
      rw [ed]
      cases hiw : isW w with
      | true =>
        conv => whnf
        (first | refine need_intro (⟨by omega, by omega⟩) ?_ | refine must.mk (⟨by omega, by omega⟩) ?_); conv => whnf
        refine ⟨_, hld, ?_⟩; conv => whnf
        refine new_intro (o := rowO 42 [wx w]) (fun y h4 n_y le_y at_y ot_y => ?_); conv => whnf
        refine Owns.app1 (z := .int .u32 0) (by kernel_rfl) inf32 (by kernel_rfl) (by kernel_rfl) (by kernel_rfl) rfl (bytes := 4) (by decide) rfl rfl rfl (hO.up le_y) at_y rfl rfl (by omega) fun s3 h5 hO3 => ?_
        conv => whnf
        (first | refine ov_c (by simp only [loK, hiK]; omega) ?_ | refine ov_c (by decide) ?_); conv => whnf
        refine ⟨ws.length - (i + 1), by omega, i + 1, s3, by omega, rfl, rfl, ?_⟩
        rw [htk, List.filter_append, List.length_append, List.map_append, show [w].filter isW = [w] by simp [hiw]]
        exact hO3
      | false =>
        conv => whnf
        (first | refine ov_c (by simp only [loK, hiK]; omega) ?_ | refine ov_c (by decide) ?_); conv => whnf
        refine ⟨ws.length - (i + 1), by omega, i + 1, _, by omega, rfl, rfl, ?_⟩
        rw [htk, List.filter_append, show [w].filter isW = [] by simp [hiw], List.append_nil]
        exact hO
    · have hin : i = ws.length := by omega
      rw [hin, List.take_length] at hO hcnt ⊢
      have hfl := filt_lt hW.1
      have hback := list_back (ws.filter isW) 1 [] hfl
      rw [List.nil_append] at hback
      generalize ws.filter isW = l at hO hcnt hfl hback
      have hWl : InW h3 sa l := ⟨fun w hw => (hfl w hw).1, fun j w hx => by
        have hj := (List.getElem?_eq_some_iff.1 hx).1
        obtain ⟨b, cap1, rst, e0, hc, hb, _⟩ := hO.row (by omega)
        obtain ⟨rfl, rfl⟩ : sa = some ⟨b, 0, none⟩ ∧ sc = cap1 := by injection e0 with e1 e2 e3; exact ⟨e1, e3⟩
        exact ⟨_, rfl, loadI agg32 hb (j := j) rfl (by rw [List.getElem?_append_left (by simpa using hj), List.getElem?_map, hx]; rfl)⟩⟩
      conv => whnf
      refine listing_x (hp.le hle3) l sa sc hWl (by omega) fun h4 le4 => ?_
      have hle4 := Hp.le_trans hle3 le4
      have hlt : (listT l).length ≤ 2 ^ 20 := by
        have : ∀ l : List Nat, (∀ w ∈ l, w < 2 ^ 32) → (listT l).length ≤ 101 * l.length := fun l => by
          induction l with
          | nil => intro _; simp [listT]
          | cons w l ih =>
            intro h
            rw [listT_cons]
            have h1 := (wordT_len (h w (by simp))).1
            have h2 := ih fun v hv => h v (by simp [hv])
            simp only [List.length_append, List.length_cons]
            omega
        have := this l fun w hw => (hfl w hw).1
        omega
      conv => whnf
      refine words_x (hm.le hle4) (her.le hle4) (hp.le hle4) (listT l) hlt fun v h5 hV => ?_
      rw [hback] at hV
      have hob_ := hV
      obtain ⟨sl2, rfl, hO2⟩ := hob_
      obtain ⟨ra, rc, rfl⟩ := hO2.shape
      have hle5 := Hp.le_trans hle4 hO2.le
      have hWl5 := (hWl.le le4).le hO2.le
      have hO2 : Owns h4 h5 42 1 (.slice ra l.length rc) l.length (l.map wx) := hO2
      conv => whnf
      refine bsel_false (by simp) ?_; conv => whnf
      refine loop_at [16] [] (fun r vs _ h' => h5 = h' ∧ ∃ i : Nat, i ≤ l.length ∧ r = l.length - i ∧ vs = [.v (.int .i64 i)]) l.length ⟨rfl, 0, by omega, by omega, rfl⟩ ?_
      rintro r vs cs mm3 bx3 _ ⟨rfl, j, hj, rfl, rfl⟩
      conv => whnf
      refine bsel_intro (fun q4 => ?_) (fun q4 => ?_) <;> try simp only [bsL] at q4
      · have hj2 : j < l.length := by omega
        obtain ⟨w, hx⟩ : ∃ w, l[j]? = some w := ⟨_, List.getElem?_eq_getElem hj2⟩
        obtain ⟨b2, cap2, rest2, e0, hc2, hb2, _⟩ := hO2.row (by omega)
        obtain ⟨rfl, rfl⟩ : ra = some ⟨b2, 0, none⟩ ∧ rc = cap2 := by injection e0 with e1 e2 e3; exact ⟨e1, e3⟩
        obtain ⟨ba, rfl, hld⟩ := hWl5.2 j w hx
        conv => whnf
        (first | refine need_intro (⟨by omega, by omega⟩) ?_ | refine must.mk (⟨by omega, by omega⟩) ?_); conv => whnf
        refine ⟨_, loadI agg32 hb2 (j := j) rfl (by rw [List.getElem?_append_left (by simpa using hj2), List.getElem?_map, hx]; rfl), ?_⟩; conv => whnf
        (first | refine need_intro (⟨by omega, by omega⟩) ?_ | refine must.mk (⟨by omega, by omega⟩) ?_); conv => whnf
        refine ⟨_, hld, ?_⟩; conv => whnf
        refine bsel_false (by simp) ?_; conv => whnf
        (first | refine ov_c (by simp only [loK, hiK]; omega) ?_ | refine ov_c (by decide) ?_); conv => whnf
        exact ⟨l.length - (j + 1), by omega, rfl, j + 1, by omega, rfl, rfl⟩
      · conv => whnf
        refine live06_x (hm.le hle5) (her.le hle5) (hp.le hle5) ?_
        conv => whnf
        exact hk h5 hle5
  · generalize textA x = tx
    generalize x.chk = e at hc ⊢
    have LE0 := le1
    conv => whnf
    refine bsel_false (by simpa using hc) ?_; conv => whnf
    refine loop_at [10, 9] [] (fun r vs _ h' => ∃ (i : Nat) (sl : Value), i ≤ ws.length ∧ r = ws.length - i ∧ vs = [.v (.int .i64 i), .v sl] ∧ Owns h1 h' 42 1 sl ((ws.take i).filter isW).length (((ws.take i).filter isW).map wx)) ws.length
      ⟨0, .slice none 0 0, by omega, by omega, rfl, by simpa using Owns.nil (Hp.le_refl _)⟩ ?_
    rintro r vs cs mm bx h3 ⟨i, sl, hi, rfl, rfl, hO⟩
    obtain ⟨sa, sc, rfl⟩ := hO.shape
    have hle3 := Hp.le_trans LE0 hO.le
    have hcnt : ((ws.take i).filter isW).length ≤ ws.length := Nat.le_trans (List.length_filter_le _ _) (by rw [List.length_take]; omega)
    conv => whnf
    refine bsel_intro (fun q3 => ?_) (fun q3 => ?_) <;> try simp only [bsL] at q3
    · have hi2 : i < ws.length := by omega
      obtain ⟨w, hx⟩ : ∃ w, ws[i]? = some w := ⟨_, List.getElem?_eq_getElem hi2⟩
      obtain ⟨ba, rfl, hld⟩ := (hW.le hle3).2 i w hx
      have hw := hW.1 w (List.mem_of_getElem? hx)
      have htk : ws.take (i + 1) = ws.take i ++ [w] := by rw [List.take_add_one, hx]; rfl
      obtain ⟨dy, ed⟩ := decV_ok w
      conv => whnf
      (first | refine need_intro (⟨by omega, by omega⟩) ?_ | refine must.mk (⟨by omega, by omega⟩) ?_); conv => whnf
      refine ⟨_, hld, ?_⟩; conv => whnf
      refine ov_u64 (by omega) ?_; conv => whnf
      refine rdecode_x w hw ?_
      rw [ed]
      cases hiw : isW w with
      | true =>
        conv => whnf
        (first | refine need_intro (⟨by omega, by omega⟩) ?_ | refine must.mk (⟨by omega, by omega⟩) ?_); conv => whnf
        refine ⟨_, hld, ?_⟩; conv => whnf
        refine new_intro (o := rowO 42 [wx w]) (fun y h4 n_y le_y at_y ot_y => ?_); conv => whnf
        refine Owns.app1 (z := .int .u32 0) (by kernel_rfl) inf32 (by kernel_rfl) (by kernel_rfl) (by kernel_rfl) rfl (bytes := 4) (by decide) rfl rfl rfl (hO.up le_y) at_y rfl rfl (by omega) fun s3 h5 hO3 => ?_
        conv => whnf
        (first | refine ov_c (by simp only [loK, hiK]; omega) ?_ | refine ov_c (by decide) ?_); conv => whnf
        refine ⟨ws.length - (i + 1), by omega, i + 1, s3, by omega, rfl, rfl, ?_⟩
        rw [htk, List.filter_append, List.length_append, List.map_append, show [w].filter isW = [w] by simp [hiw]]
        exact hO3
      | false =>
        conv => whnf
        (first | refine ov_c (by simp only [loK, hiK]; omega) ?_ | refine ov_c (by decide) ?_); conv => whnf
        refine ⟨ws.length - (i + 1), by omega, i + 1, _, by omega, rfl, rfl, ?_⟩
        rw [htk, List.filter_append, show [w].filter isW = [] by simp [hiw], List.append_nil]
        exact hO
    · have hin : i = ws.length := by omega
      rw [hin, List.take_length] at hO hcnt ⊢
      have hfl := filt_lt hW.1
      have hback := list_back (ws.filter isW) 1 [] hfl
      rw [List.nil_append] at hback
      generalize ws.filter isW = l at hO hcnt hfl hback
      have hWl : InW h3 sa l := ⟨fun w hw => (hfl w hw).1, fun j w hx => by
        have hj := (List.getElem?_eq_some_iff.1 hx).1
        obtain ⟨b, cap1, rst, e0, hc, hb, _⟩ := hO.row (by omega)
        obtain ⟨rfl, rfl⟩ : sa = some ⟨b, 0, none⟩ ∧ sc = cap1 := by injection e0 with e1 e2 e3; exact ⟨e1, e3⟩
        exact ⟨_, rfl, loadI agg32 hb (j := j) rfl (by rw [List.getElem?_append_left (by simpa using hj), List.getElem?_map, hx]; rfl)⟩⟩
      conv => whnf
      refine listing_x (hp.le hle3) l sa sc hWl (by omega) fun h4 le4 => ?_
      have hle4 := Hp.le_trans hle3 le4
      have hlt : (listT l).length ≤ 2 ^ 20 := by
        have : ∀ l : List Nat, (∀ w ∈ l, w < 2 ^ 32) → (listT l).length ≤ 101 * l.length := fun l => by
          induction l with
          | nil => intro _; simp [listT]
          | cons w l ih =>
            intro h
            rw [listT_cons]
            have h1 := (wordT_len (h w (by simp))).1
            have h2 := ih fun v hv => h v (by simp [hv])
            simp only [List.length_append, List.length_cons]
            omega
        have := this l fun w hw => (hfl w hw).1
        omega
      conv => whnf
      refine words_x (hm.le hle4) (her.le hle4) (hp.le hle4) (listT l) hlt fun v h5 hV => ?_
      rw [hback] at hV
      have hob_ := hV
      obtain ⟨sl2, rfl, hO2⟩ := hob_
      obtain ⟨ra, rc, rfl⟩ := hO2.shape
      have hle5 := Hp.le_trans hle4 hO2.le
      have hWl5 := (hWl.le le4).le hO2.le
      have hO2 : Owns h4 h5 42 1 (.slice ra l.length rc) l.length (l.map wx) := hO2
      conv => whnf
      refine bsel_false (by simp) ?_; conv => whnf
      refine loop_at [16] [] (fun r vs _ h' => h5 = h' ∧ ∃ i : Nat, i ≤ l.length ∧ r = l.length - i ∧ vs = [.v (.int .i64 i)]) l.length ⟨rfl, 0, by omega, by omega, rfl⟩ ?_
      rintro r vs cs mm3 bx3 _ ⟨rfl, j, hj, rfl, rfl⟩
      conv => whnf
      refine bsel_intro (fun q4 => ?_) (fun q4 => ?_) <;> try simp only [bsL] at q4
      · have hj2 : j < l.length := by omega
        obtain ⟨w, hx⟩ : ∃ w, l[j]? = some w := ⟨_, List.getElem?_eq_getElem hj2⟩
        obtain ⟨b2, cap2, rest2, e0, hc2, hb2, _⟩ := hO2.row (by omega)
        obtain ⟨rfl, rfl⟩ : ra = some ⟨b2, 0, none⟩ ∧ rc = cap2 := by injection e0 with e1 e2 e3; exact ⟨e1, e3⟩
        obtain ⟨ba, rfl, hld⟩ := hWl5.2 j w hx
        conv => whnf
        (first | refine need_intro (⟨by omega, by omega⟩) ?_ | refine must.mk (⟨by omega, by omega⟩) ?_); conv => whnf
        refine ⟨_, loadI agg32 hb2 (j := j) rfl (by rw [List.getElem?_append_left (by simpa using hj2), List.getElem?_map, hx]; rfl), ?_⟩; conv => whnf
        (first | refine need_intro (⟨by omega, by omega⟩) ?_ | refine must.mk (⟨by omega, by omega⟩) ?_); conv => whnf
        refine ⟨_, hld, ?_⟩; conv => whnf
        refine bsel_false (by simp) ?_; conv => whnf
        (first | refine ov_c (by simp only [loK, hiK]; omega) ?_ | refine ov_c (by decide) ?_); conv => whnf
        exact ⟨l.length - (j + 1), by omega, rfl, j + 1, by omega, rfl, rfl⟩
      · conv => whnf
        refine live06_x (hm.le hle5) (her.le hle5) (hp.le hle5) ?_
        conv => whnf
        exact hk h5 hle5
end
end Go.Proofs.YtlobclgbbhoeiaaGreatDoor
/-! Instructions as text: the laws of their arguments as data. -/
namespace Go.Proofs.YtlobclgbbhoeiaaGreatDoor
set_option linter.unusedSimpArgs false
set_option linter.unusedVariables false
open Go Go.Mid Go.RowKit Go.Bits
attribute [local irreducible] mid
section
set_option maxHeartbeats 8000000
set_option maxRecDepth 10000
abbrev shW : Sh := .slice (.int .u32)
theorem wordsIn_of {h : Hp} {cs : List Value} (w : Wf h shW cs) : ∃ (a : Option Addr) (cap : Nat) (L : List Nat), cs = [.slice a L.length cap] ∧ InW h a L := by
  obtain ⟨a, cap, L, rfl, _, hok, hL⟩ := slice_of1 (P := Tryz.prog) (t := 42) (ok := fun n : Nat => n < 2 ^ 32) (val := wx) agg32 rfl (fun es hw => by
    unfold Wf at hw
    obtain ⟨n, e, hn⟩ := hw
    have := wf_u32 hn
    exact ⟨n.toNat, by omega, by rw [e, wx, Int.toNat_of_nonneg this.1]⟩) w
  exact ⟨a, cap, L, rfl, hok, fun i x hx => by rw [Int.toNat_natCast]; exact hL i x hx⟩
theorem asmWords_w (w : World) (hsh : w.ShapedOpen Tryz.prog) (hL : laidMetH Tryz.prog Rows.asmWordsRow.laid w) {cs0 cs1 : List Value} (w0 : Wf (whole w) .str cs0) (l0 : cs0.length = Sh.n .str) (w1 : Wf (whole w) shW cs1) (l1 : cs1.length = Sh.n shW) :
    X Tryz.prog 5 #[Sh.v .str cs0, Sh.v shW cs1] (whole w) fun v h' => v = .bool true ∧ (whole w).le h' := by
  obtain ⟨s, rfl⟩ := str_of w0
  obtain ⟨a, cap, L, rfl, hW⟩ := wordsIn_of w1
  exact asmWords_x (Mx.of hsh) (er_of hL (by rfl) (by rfl)) (pow_of hL (by rfl)) s.data.toList L a cap hW fun h' hle => ⟨rfl, hle⟩
theorem asmBack_w (w : World) (hsh : w.ShapedOpen Tryz.prog) (hL : laidMetH Tryz.prog Rows.asmBackRow.laid w) {cs0 cs1 : List Value} (w0 : Wf (whole w) shIn cs0) (l0 : cs0.length = Sh.n shIn) (w1 : Wf (whole w) shW cs1) (l1 : cs1.length = Sh.n shW) :
    X Tryz.prog 6 #[Sh.v shIn cs0, Sh.v shW cs1] (whole w) fun v h' => v = .bool true ∧ (whole w).le h' := by
  obtain ⟨x, rfl, m1, m2⟩ := ins_of w0
  obtain ⟨a, cap, L, rfl, hW⟩ := wordsIn_of w1
  exact asmBack_x (Mx.of hsh) (er_of hL (by rfl) (by rfl)) (pow_of hL (by rfl)) x m1 m2 L a cap hW fun h' hle => ⟨rfl, hle⟩
end
end Go.Proofs.YtlobclgbbhoeiaaGreatDoor
