/-
  Logs in words: an event's line, the document's.
-/
import Derived.Test.YtclbommhagmpdaaDoorTr4
namespace Go.Proofs.YtclbommhagmpdaaDoor
set_option linter.unusedSimpArgs false
set_option linter.unusedVariables false
open Go Go.Mid Go.RowKit
attribute [local irreducible] mid
section
set_option maxHeartbeats 8000000
set_option maxRecDepth 10000
variable {h : Hp} {K : Value → Hp → Prop}
theorem tl_nil : tl [] = [] := rfl
theorem tl_cons (x : Str) (xs : List Str) : tl (x :: xs) = 32 :: (x ++ tl xs) := rfl
theorem tl_app (xs ys : List Str) : tl (xs ++ ys) = tl xs ++ tl ys := List.flatMap_append
theorem tl_sm {xs : List Str} {m : Nat} (h : Sm xs) (hm : xs.length ≤ m) : (tl xs).length ≤ 65 * m := Nat.le_trans (tl_len h) (Nat.mul_le_mul_left 65 hm)
theorem rnum_x (n : Int) (h0 : -9223372036854775808 ≤ n) (h1 : n ≤ 9223372036854775807) (hk : K (.string (bs (Lib.itoa n))) h) : X Tryd.prog 37 #[.int .i64 n] h K := by
  refine fnv (args := _) mixed [] [] [] Tryd.func37 rfl (by kernel_rfl) ?_
  conv => whnf
  refine rDigits_x n h0 h1 ?_
  conv => whnf
  exact hk
theorem rword_x (name : Str) (n : Nat) (hn : name.length ≤ 64) (hu : n < 18446744073709551616) (hk : K (.string (bs (tl (wnum name n)))) h) : X Tryd.prog 38 #[.string (bs name), .int .u64 n] h K := by
  have hd := dec_len hu
  unfold wnum at hk
  refine fnv (args := _) mixed [] [] [] Tryd.func38 rfl (by kernel_rfl) ?_
  conv => whnf
  refine bsel_intro (fun q1 => ?_) (fun q1 => ?_) <;> try simp only [decide_eq_true_eq, decide_eq_false_iff_not, beq_iff_eq, beq_eq_false_iff_ne, ne_eq, Bool.not_eq_true', Bool.not_eq_false', bne_iff_ne, bne_eq_false_iff_eq, Bool.not_eq_true, Bool.not_eq_false, Bool.and_eq_true, Bool.or_eq_true, bs_size] at q1
  · rw [if_pos (by omega)] at hk
    conv => whnf
    exact hk
  · rw [if_neg (by omega)] at hk
    conv => whnf
    refine cat_intro (by simp; omega) ?_
    conv => whnf
    refine cat_intro (by simp; omega) ?_
    conv => whnf
    refine rPlain_x n hu ?_
    conv => whnf
    refine cat_intro (by simp; omega) ?_
    conv => whnf
    exact kq hk (sI (by simp [tl]))
theorem rsigned_x (name : Str) (n : Int) (hn : name.length ≤ 64) (h0 : -9223372036854775808 ≤ n) (h1 : n ≤ 9223372036854775807) (hk : K (.string (bs (tl (wint name n)))) h) : X Tryd.prog 39 #[.string (bs name), .int .i64 n] h K := by
  have hd := itoa_len h0 h1
  unfold wint at hk
  refine fnv (args := _) mixed [] [] [] Tryd.func39 rfl (by kernel_rfl) ?_
  conv => whnf
  refine bsel_intro (fun q1 => ?_) (fun q1 => ?_) <;> try simp only [decide_eq_true_eq, decide_eq_false_iff_not, beq_iff_eq, beq_eq_false_iff_ne, ne_eq, Bool.not_eq_true', Bool.not_eq_false', bne_iff_ne, bne_eq_false_iff_eq, Bool.not_eq_true, Bool.not_eq_false, Bool.and_eq_true, Bool.or_eq_true, bs_size] at q1
  · rw [if_pos (by omega)] at hk
    conv => whnf
    exact hk
  · rw [if_neg (by omega)] at hk
    conv => whnf
    refine cat_intro (by simp; omega) ?_
    conv => whnf
    refine cat_intro (by simp; omega) ?_
    conv => whnf
    refine rnum_x n h0 h1 ?_
    conv => whnf
    refine cat_intro (by simp; omega) ?_
    conv => whnf
    exact kq hk (sI (by simp [tl]))
theorem rreq_x (q : Rq) (hq : q.ok) (hk : K (.string (bs (tl (wreq q)))) h) : X Tryd.prog 41 #[.agg q.cs.toArray] h K := by
  have h3 : (flagsW q).length ≤ 3 := by
    unfold flagsW flags
    cases q.s <;> cases q.v <;> cases q.a <;> decide
  obtain ⟨s, v, a, va, asid⟩ := q
  have h1 : (Lib.decDigits va).length ≤ 20 := dec_len hq.va
  have h2 : (Lib.itoa asid).length ≤ 21 := itoa_len hq.lo hq.hi
  have fin : ∀ f : Str, f = flagsW ⟨s, v, a, va, asid⟩ → f.length ≤ 3 := fun f e => by rw [e]; exact h3
  have hk' : ∀ f : Str, f = flagsW ⟨s, v, a, va, asid⟩ → K (.string (bs ((32 :: f) ++ [32] ++ Lib.decDigits va ++ [32] ++ Lib.itoa asid))) h := fun f e => by
    subst e
    simpa [tl, wreq] using hk
  clear hk
  refine fnp (args := _) mixed [(1, 1), (4, 1), (8, 1), (12, 1), (21, 1), (26, 1)] [] [] [(999999, [5, 9, 13, 17])] Tryd.func41 rfl (by kernel_rfl) ?_
  conv => whnf
  refine if_at [3] [1] (fun vs cs h' => h = h' ∧ cs = [some (Rq.cs ⟨s, v, a, va, asid⟩)] ∧ vs = [.v (.string (bs (if s then [115] else [])))]) (fun e => ?_) (fun e => ?_) (fun vs cs m bx h' hI => ?_)
  · subst e
    conv => whnf
    refine cat_intro (by simp) ?_
    conv => whnf
    exact ⟨rfl, rfl, rfl⟩
  · subst e
    conv => whnf
    exact ⟨rfl, rfl, slot1 (x := []) (by simp [flags])⟩
  obtain ⟨rfl, rfl, rfl⟩ := hI
  conv => whnf
  refine if_at [3] [1] (fun vs cs h' => h = h' ∧ cs = [some (Rq.cs ⟨s, v, a, va, asid⟩)] ∧ vs = [.v (.string (bs ((if s then [115] else []) ++ (if v then [118] else []))))]) (fun e => ?_) (fun e => ?_) (fun vs cs m bx h' hI => ?_)
  · subst e
    conv => whnf
    refine cat_intro (by cases s <;> decide) ?_
    conv => whnf
    exact ⟨rfl, rfl, rfl⟩
  · subst e
    conv => whnf
    exact ⟨rfl, rfl, slot1 (x := (if s then [115] else [])) (by simp [flags])⟩
  obtain ⟨rfl, rfl, rfl⟩ := hI
  conv => whnf
  refine if_at [3] [1] (fun vs cs h' => h = h' ∧ cs = [some (Rq.cs ⟨s, v, a, va, asid⟩)] ∧ vs = [.v (.string (bs (flags ⟨s, v, a, va, asid⟩)))]) (fun e => ?_) (fun e => ?_) (fun vs cs m bx h' hI => ?_)
  · subst e
    conv => whnf
    refine cat_intro (by cases s <;> cases v <;> decide) ?_
    conv => whnf
    exact ⟨rfl, rfl, rfl⟩
  · subst e
    conv => whnf
    exact ⟨rfl, rfl, slot1 (x := ((if s then [115] else []) ++ (if v then [118] else []))) (by simp [flags])⟩
  obtain ⟨rfl, rfl, rfl⟩ := hI
  conv => whnf
  refine seq_intro ?_
  conv => whnf
  refine if_at [3] [1] (fun vs cs h' => h = h' ∧ cs = [some (Rq.cs ⟨s, v, a, va, asid⟩)] ∧ vs = [.v (.string (bs (flagsW ⟨s, v, a, va, asid⟩)))]) (fun e => ?_) (fun e => ?_) (fun vs cs m bx h' hI => ?_)
  · have e := of_decide_eq_true e
    conv => whnf
    exact ⟨rfl, rfl, slot1 (x := [45]) (by rw [flagsW, if_pos e])⟩
  · have e := of_decide_eq_false e
    conv => whnf
    exact ⟨rfl, rfl, slot1 (x := flags ⟨s, v, a, va, asid⟩) (by rw [flagsW, if_neg e])⟩
  obtain ⟨rfl, rfl, rfl⟩ := hI
  conv => whnf
  refine cat_intro (by simp; omega) ?_
  conv => whnf
  refine cat_intro (by simp; omega) ?_
  conv => whnf
  refine rPlain_x va hq.va ?_
  refine ⟨trivial, ?_⟩
  conv => whnf
  refine cat_intro (by simp; omega) ?_
  conv => whnf
  refine cat_intro (by simp; omega) ?_
  conv => whnf
  refine rnum_x asid hq.lo hq.hi ?_
  refine ⟨trivial, ?_⟩
  conv => whnf
  refine cat_intro (by simp; omega) ?_
  conv => whnf
  exact kq (hk' _ rfl) (sI (by simp))
abbrev J (ws : List Str) : Str := Lib.join ws [32]
theorem J_app {ws : List Str} (h : ws ≠ []) (ys : List Str) : J (ws ++ ys) = J ws ++ tl ys := by
  cases ws with
  | nil => exact absurd rfl h
  | cons x xs => rw [List.cons_append, J, J, join_tl, join_tl, tl_app, List.append_assoc]
theorem J_len {ws : List Str} (h : Sm ws) (hn : ws.length ≤ 200) : (J ws).length ≤ 13064 := by
  cases ws with
  | nil => simp [J, Lib.join_nil]
  | cons x xs =>
    rw [J, join_tl, List.length_append]
    have h1 := h x (by simp)
    have h2 := tl_len (n := 64) (xs := xs) fun y hy => h y (by simp [hy])
    rw [List.length_cons] at hn
    have : (64 + 1) * xs.length ≤ 65 * 200 := Nat.mul_le_mul_left 65 (by omega)
    omega
def W1 (e : Ev) : List Str := headW e ++ wnum nAddr e.ask.addr ++ wnum nNext e.ask.next ++ wint nCut e.ask.cut ++ wint nSize e.ask.size
def W2 (e : Ev) : List Str := W1 e ++ opW e.ask.op
def W3 (e : Ev) : List Str := W2 e ++ wnum nData e.ask.data ++ wnum nOld e.ask.old
def W4 (e : Ev) : List Str := W3 e ++ wtruth nLive e.ask.live
def W5 (e : Ev) : List Str := W4 e ++ wint nTo e.ask.hart
def W6 (e : Ev) : List Str := W5 e ++ reqW e.ask.req
def W7 (e : Ev) : List Str := W6 e ++ entW e.ask.ent
def W8 (e : Ev) : List Str := W7 e ++ [nArrow] ++ wnum nData e.ans.data
def W9 (e : Ev) : List Str := W8 e ++ wtruth nGood e.ans.good
theorem W7_eq (e : Ev) : W7 e = headW e ++ askW e.ask := by simp [W7, W6, W5, W4, W3, W2, W1, askW, List.append_assoc]
theorem ne_app {xs ys : List Str} (h : xs ≠ []) : xs ++ ys ≠ [] := fun e => h (List.append_eq_nil_iff.1 e).1
structure Wk (ws : List Str) (n : Nat) : Prop where
  ne : ws ≠ []
  sm : Sm ws
  len : ws.length ≤ n
theorem Wk.app {xs ys : List Str} {n m : Nat} (a : Wk xs n) (b : Sm ys) (c : ys.length ≤ m) : Wk (xs ++ ys) (n + m) := ⟨ne_app a.ne, a.sm.app b, app_len a.len c⟩
theorem Wk.J {xs : List Str} {n : Nat} (a : Wk xs n) (h : n ≤ 200) : (J xs).length ≤ 13064 := J_len a.sm (Nat.le_trans a.len h)
theorem wk0 {e : Ev} (h : e.ok) : Wk (headW e) 5 := ⟨by simp [headW], sm_headW h, Nat.le_refl 5⟩
theorem wk1 {e : Ev} (h : e.ok) : Wk (W1 e) 13 := (((wk0 h).app (sm_wnum (by decide) h.ask.addr) (wnum_len _ _)).app (sm_wnum (by decide) h.ask.next) (wnum_len _ _)).app (sm_wint (by decide) h.ask.cut0 h.ask.cut1) (wint_len _ _) |>.app (sm_wint (by decide) h.ask.size0 h.ask.size1) (wint_len _ _)
theorem wk2 {e : Ev} (h : e.ok) : Wk (W2 e) 15 := (wk1 h).app (sm_opW _) (opW_len _)
theorem wk3 {e : Ev} (h : e.ok) : Wk (W3 e) 19 := ((wk2 h).app (sm_wnum (by decide) h.ask.data) (wnum_len _ _)).app (sm_wnum (by decide) h.ask.old) (wnum_len _ _)
theorem wk4 {e : Ev} (h : e.ok) : Wk (W4 e) 21 := (wk3 h).app (sm_wtruth (by decide)) (wtruth_len _ _)
theorem wk5 {e : Ev} (h : e.ok) : Wk (W5 e) 23 := (wk4 h).app (sm_wint (by decide) h.ask.hart0 h.ask.hart1) (wint_len _ _)
theorem wk6 {e : Ev} (h : e.ok) : Wk (W6 e) 27 := (wk5 h).app (sm_reqW h.ask.req) (reqW_len _)
theorem wk7 {e : Ev} (h : e.ok) : Wk (W7 e) 32 := (wk6 h).app (sm_entW h.ask.ent) (entW_len _)
theorem wk8 {e : Ev} (h : e.ok) : Wk (W8 e) 35 := ((wk7 h).app (Sm.cons (by decide) Sm.nil) (Nat.le_refl 1)).app (sm_wnum (by decide) h.ans.data) (wnum_len _ _)
theorem wk9 {e : Ev} (h : e.ok) : Wk (W9 e) 37 := (wk8 h).app (sm_wtruth (by decide)) (wtruth_len _ _)
theorem names_at {l : List Str} (hl : ∀ x ∈ l, x.length ≤ 64 ∧ x ≠ []) {n : Nat} {m : Nat} (hm : l.length = m) (h1 : 1 ≤ n) (h2 : n ≤ m) : ([] :: l)[n]? = some (orW (l.getD (n - 1) [])) := by
  obtain ⟨i, rfl⟩ : ∃ i, n = i + 1 := ⟨n - 1, by omega⟩
  rw [List.getElem?_cons_succ, List.getD_eq_getElem?_getD]
  have hi : i < l.length := by omega
  rw [show i + 1 - 1 = i by omega, List.getElem?_eq_getElem hi]
  show _ = some (orW l[i])
  unfold orW
  rw [if_neg (hl _ (List.getElem_mem hi)).2]
theorem kindNames_len : kindNames.length = 20 := by decide +kernel
theorem cat_by {a b m : Str} {K : ByteArray → Prop} (h : a.length + b.length ≤ 9223372036854775807) (e : a ++ b = m) (hk : K (bs m)) : catK (bs a) (bs b) K := by
  subst e
  exact cat_intro h hk
theorem cat_J {ws ys : List Str} {n : Nat} {K : ByteArray → Prop} (w : Wk ws n) (hn : n ≤ 200) (sy : Sm ys) (ly : ys.length ≤ 60) (hk : K (bs (J (ws ++ ys)))) : catK (bs (J ws)) (bs (tl ys)) K := by
  have h1 := w.J hn
  have h2 := tl_sm sy ly
  exact cat_by (by omega) (J_app w.ne ys).symm hk
theorem slotJ {ws ws' : List Str} (e : ws = ws') : [MV.v (Value.string (bs (J ws)))] = [MV.v (Value.string (bs (J ws')))] := by rw [e]
set_option maxHeartbeats 16000000 in
theorem rline_x (e : Ev) (he : e.ok) (hk : K (.string (bs (J (lineW e)))) h) : X Tryd.prog 9 #[.agg e.cs.toArray] h K := by
  refine X.forget ?_
  have hk' : ∀ h' : Hp, h.le h' → (∃ g : Hp, g.le h' ∧ K (.string (bs (J (lineW e)))) g) := fun h' hle => ⟨h, hle, hk⟩
  clear hk
  refine fnp (args := _) mixed [] [] [20, 31, 36, 41, 50, 54, 58, 74, 87, 123, 129, 135, 175] [(999999, [17, 63, 71, 91, 102, 112, 152, 165])] Tryd.func9 rfl (by kernel_rfl) ?_
  conv => whnf
  refine new_intro (o := rowO 38 e.cs) (fun b h1 n_b le_b at_b ot_b => ?_)
  conv => whnf
  refine ⟨_, loadP (k := 1) (x := e.ask.cs) aggAk sizAk at_b rfl rfl, ?_⟩
  conv => whnf
  refine new_intro (o := _) (fun a h2 n_a le_a at_a ot_a => ?_)
  conv => whnf
  refine wr_intro (by exact storeA0 (z := .agg e.ask.cs.toArray) sizAk at_a rfl rfl rfl) (fun h3 at_h3 ot_h3 => ?_)
  try (conv => whnf)
  have b3 : h3 b = some (rowO 38 e.cs) := (ot_h3 b (Hp.ne n_a at_b)).trans (le_a b _ at_b)
  have a3 : h3 a = some (rowO 33 e.ask.cs) := at_h3
  have le3 : h.le h3 := Hp.le_trans le_b (Hp.le_st n_a le_a ot_h3)
  have HB : h.le h3 ∧ h3 b = some (rowO 38 e.cs) ∧ h3 a = some (rowO 33 e.ask.cs) := ⟨le3, b3, a3⟩
  clear b3 a3 le3 ot_h3 at_h3 ot_a at_a le_a ot_b at_b le_b
  conv => whnf
  refine ⟨_, loadC (i := 0) aggKi HB.2.2 rfl, ?_⟩
  conv => whnf
  refine bsel_intro (fun q1 => ?_) (fun q1 => ?_) <;> try simp only [decide_eq_true_eq, decide_eq_false_iff_not, beq_iff_eq, beq_eq_false_iff_ne, ne_eq, Bool.not_eq_true', Bool.not_eq_false', bne_iff_ne, bne_eq_false_iff_eq, Bool.not_eq_true, Bool.not_eq_false, Bool.and_eq_true, Bool.or_eq_true, bs_size] at q1
  · conv => whnf
    refine ⟨_, loadC (i := 0) aggKi HB.2.2 rfl, ?_⟩
    conv => whnf
    refine if_at [4] [] (fun vs cs h' => (h.le h' ∧ h' b = some (rowO 38 e.cs) ∧ h' a = some (rowO 33 e.ask.cs)) ∧ vs = [.v (.string (bs (orW (kindName e.ask.kind))))]) (fun c => ?_) (fun c => ?_) (fun vs cs m bx h4 hI => ?_)
    · have c1 : 1 ≤ e.ask.kind ∧ e.ask.kind ≤ 20 := by first | exact absurd c (by decide) | exact ⟨q1, by simpa using c⟩
      have hkn : kindName e.ask.kind = kindNames.getD (e.ask.kind.toNat - 1) [] := if_pos c1
      have hat := names_at all_kinds kindNames_len (n := e.ask.kind.toNat) (by omega) (by omega)
      rw [← hkn] at hat
      clear c
      conv => whnf
      refine ⟨fun h' => h' a = some (rowO 33 e.ask.cs), HB.2.2, ?_⟩
      conv => whnf
      refine rnames31_x fun n h4 n_n le_n at_n => ?_
      refine ⟨le_n _ _ HB.2.2, ?_⟩
      conv => whnf
      refine ⟨_, fun h' hh => loadC (i := 0) aggKi hh rfl, ?_⟩
      conv => whnf
      first | refine need_intro (⟨by omega, by omega⟩) ?_ | refine must.mk (⟨by omega, by omega⟩) ?_
      conv => whnf
      refine ⟨_, loadC1 (i := e.ask.kind.toNat) aggSt at_n (by rw [List.getElem?_map, hat]; rfl), ?_⟩
      conv => whnf
      exact ⟨⟨Hp.le_trans HB.1 le_n, le_n _ _ HB.2.1, le_n _ _ HB.2.2⟩, rfl⟩
    · have c1 : ¬ (1 ≤ e.ask.kind ∧ e.ask.kind ≤ 20) := by first | (have c2 := of_decide_eq_false c; omega) | omega
      have hkn : kindName e.ask.kind = [] := if_neg c1
      rw [hkn]
      clear c
      conv => whnf
      exact ⟨HB, rfl⟩
    obtain ⟨HB, rfl⟩ := hI
    clear q1
    have lh : (Lib.itoa e.hart).length ≤ 21 := itoa_len he.hart0 he.hart1
    have lf : (Lib.itoa e.from_).length ≤ 21 := itoa_len he.from0 he.from1
    have la : (Lib.itoa e.at_).length ≤ 21 := itoa_len he.at0 he.at1
    have lt : (Lib.itoa e.to).length ≤ 21 := itoa_len he.to0 he.to1
    have lk : (orW (kindName e.ask.kind)).length ≤ 64 := sm_or (sm_kindName _)
    conv => whnf
    refine ⟨fun h' => h' b = some (rowO 38 e.cs), HB.2.1, ?_⟩
    conv => whnf
    refine ⟨_, loadC (i := 0) aggIn HB.2.1 rfl, ?_⟩
    conv => whnf
    refine rnum_x e.hart he.hart0 he.hart1 ?_
    refine ⟨HB.2.1, ?_⟩
    conv => whnf
    refine cat_intro (by simp; omega) ?_
    conv => whnf
    refine cat_intro (by simp; omega) ?_
    conv => whnf
    refine cat_intro (by simp; omega) ?_
    conv => whnf
    refine ⟨_, fun h' hh => loadC (i := 62) aggIn hh rfl, ?_⟩
    conv => whnf
    refine rnum_x e.from_ he.from0 he.from1 ?_
    refine ⟨HB.2.1, ?_⟩
    conv => whnf
    refine cat_intro (by simp; omega) ?_
    conv => whnf
    refine cat_intro (by simp; omega) ?_
    conv => whnf
    refine ⟨_, fun h' hh => loadC (i := 63) aggIn hh rfl, ?_⟩
    conv => whnf
    refine rnum_x e.at_ he.at0 he.at1 ?_
    refine ⟨HB.2.1, ?_⟩
    conv => whnf
    refine cat_intro (by simp; omega) ?_
    conv => whnf
    refine cat_intro (by simp; omega) ?_
    conv => whnf
    refine ⟨_, fun h' hh => loadC (i := 64) aggIn hh rfl, ?_⟩
    conv => whnf
    refine rnum_x e.to he.to0 he.to1 ?_
    refine ⟨HB.2.1, ?_⟩
    conv => whnf
    refine cat_by (m := J (headW e)) (by simp; omega) (by simp [J, headW, join_tl, tl, List.append_assoc]) ?_
    conv => whnf
    clear lh lf la lt lk
    have k0 := wk0 he
    have k1 := k0.app (sm_wnum (by decide : nAddr.length ≤ 64) he.ask.addr) (wnum_len _ _)
    have k2 := k1.app (sm_wnum (by decide : nNext.length ≤ 64) he.ask.next) (wnum_len _ _)
    have k3 := k2.app (sm_wint (by decide : nCut.length ≤ 64) he.ask.cut0 he.ask.cut1) (wint_len _ _)
    refine ⟨fun h' => h' a = some (rowO 33 e.ask.cs), HB.2.2, ?_⟩
    conv => whnf
    refine ⟨_, loadC (i := 1) aggU HB.2.2 rfl, ?_⟩
    conv => whnf
    refine rword_x nAddr e.ask.addr (by decide) he.ask.addr ?_
    refine ⟨HB.2.2, ?_⟩
    conv => whnf
    refine cat_J k0 (by decide) (sm_wnum (by decide) he.ask.addr) (Nat.le_trans (wnum_len _ _) (by decide)) ?_
    conv => whnf
    refine ⟨_, fun h' hh => loadC (i := 2) aggU hh rfl, ?_⟩
    conv => whnf
    refine rword_x nNext e.ask.next (by decide) he.ask.next ?_
    refine ⟨HB.2.2, ?_⟩
    conv => whnf
    refine cat_J k1 (by decide) (sm_wnum (by decide) he.ask.next) (Nat.le_trans (wnum_len _ _) (by decide)) ?_
    conv => whnf
    refine ⟨_, fun h' hh => loadC (i := 3) aggIn hh rfl, ?_⟩
    conv => whnf
    refine rsigned_x nCut e.ask.cut (by decide) he.ask.cut0 he.ask.cut1 ?_
    refine ⟨HB.2.2, ?_⟩
    conv => whnf
    refine cat_J k2 (by decide) (sm_wint (by decide) he.ask.cut0 he.ask.cut1) (Nat.le_trans (wint_len _ _) (by decide)) ?_
    conv => whnf
    refine ⟨_, fun h' hh => loadC (i := 4) aggIn hh rfl, ?_⟩
    conv => whnf
    refine rsigned_x nSize e.ask.size (by decide) he.ask.size0 he.ask.size1 ?_
    refine ⟨HB.2.2, ?_⟩
    conv => whnf
    refine cat_J k3 (by decide) (sm_wint (by decide) he.ask.size0 he.ask.size1) (Nat.le_trans (wint_len _ _) (by decide)) ?_
    conv => whnf
    refine ⟨_, loadC (i := 5) aggY0 HB.2.2 rfl, ?_⟩
    conv => whnf
    refine if_at [5] [] (fun vs cs h' => (h.le h' ∧ h' b = some (rowO 38 e.cs) ∧ h' a = some (rowO 33 e.ask.cs)) ∧ vs = [.v (.string (bs (J (W2 e))))]) (fun c => ?_) (fun c => ?_) (fun vs cs m bx h4 hI => ?_)
    · have c1 : e.ask.op ≠ 0 := by simpa using c
      conv => whnf
      refine ⟨_, loadC (i := 5) aggY0 HB.2.2 rfl, ?_⟩
      conv => whnf
      refine bsel_intro (fun q2 => ?_) (fun q2 => ?_) <;> try simp only [decide_eq_true_eq, decide_eq_false_iff_not, beq_iff_eq, beq_eq_false_iff_ne, ne_eq, Bool.not_eq_true', Bool.not_eq_false', bne_iff_ne, bne_eq_false_iff_eq, Bool.not_eq_true, Bool.not_eq_false, Bool.and_eq_true, Bool.or_eq_true, bs_size] at q2
      · conv => whnf
        refine ⟨_, loadC (i := 5) aggY0 HB.2.2 rfl, ?_⟩
        conv => whnf
        refine if_at [6] [] (fun vs cs h' => (h.le h' ∧ h' b = some (rowO 38 e.cs) ∧ h' a = some (rowO 33 e.ask.cs)) ∧ vs = [.v (.string (bs (orW (opName e.ask.op))))]) (fun d => ?_) (fun d => ?_) (fun vs cs m bx h5 hI => ?_)
        · have d1 : 1 ≤ e.ask.op ∧ e.ask.op ≤ 98 := by first | exact absurd d (by decide) | exact ⟨q2, by simpa using d⟩
          have hkn : opName e.ask.op = opNames.getD (e.ask.op.toNat - 1) [] := if_pos d1
          have hat := names_at all_names opNames_len (n := e.ask.op.toNat) (by omega) (by omega)
          rw [← hkn] at hat
          clear d
          conv => whnf
          refine ⟨fun h' => h' a = some (rowO 33 e.ask.cs), HB.2.2, ?_⟩
          conv => whnf
          refine rnames04_x fun n h4 n_n le_n at_n => ?_
          refine ⟨le_n _ _ HB.2.2, ?_⟩
          conv => whnf
          refine ⟨_, fun h' hh => loadC (i := 5) aggY0 hh rfl, ?_⟩
          conv => whnf
          first | refine need_intro (⟨by omega, by omega⟩) ?_ | refine must.mk (⟨by omega, by omega⟩) ?_
          conv => whnf
          refine ⟨_, loadC1 (i := e.ask.op.toNat) aggSt at_n (by rw [List.getElem?_map, hat]; rfl), ?_⟩
          conv => whnf
          exact ⟨⟨Hp.le_trans HB.1 le_n, le_n _ _ HB.2.1, le_n _ _ HB.2.2⟩, rfl⟩
        · have d1 : ¬ (1 ≤ e.ask.op ∧ e.ask.op ≤ 98) := by first | (have d2 := of_decide_eq_false d; omega) | omega
          have hkn : opName e.ask.op = [] := if_neg d1
          rw [hkn]
          clear d
          conv => whnf
          exact ⟨HB, rfl⟩
        obtain ⟨HB, rfl⟩ := hI
        have lw := (wk1 he).J (by decide)
        have lo := sm_or (sm_opName e.ask.op)
        conv => whnf
        refine cat_intro (a := J (W1 e)) (by simp; omega) ?_
        conv => whnf
        refine cat_by (m := J (W1 e ++ [nOp, orW (opName e.ask.op)])) (by simp; omega) (by rw [J_app (wk1 he).ne]; simp [tl, List.append_assoc]) ?_
        conv => whnf
        exact ⟨HB, slotJ (ws := W1 e ++ [nOp, orW (opName e.ask.op)]) (by rw [W2, opW, if_neg c1])⟩
      · conv => whnf
        refine if_at [6] [] (fun vs cs h' => (h.le h' ∧ h' b = some (rowO 38 e.cs) ∧ h' a = some (rowO 33 e.ask.cs)) ∧ vs = [.v (.string (bs (orW (opName e.ask.op))))]) (fun d => ?_) (fun d => ?_) (fun vs cs m bx h5 hI => ?_)
        · have d1 : 1 ≤ e.ask.op ∧ e.ask.op ≤ 98 := by first | exact absurd d (by decide) | exact ⟨q2, by simpa using d⟩
          have hkn : opName e.ask.op = opNames.getD (e.ask.op.toNat - 1) [] := if_pos d1
          have hat := names_at all_names opNames_len (n := e.ask.op.toNat) (by omega) (by omega)
          rw [← hkn] at hat
          clear d
          conv => whnf
          refine ⟨fun h' => h' a = some (rowO 33 e.ask.cs), HB.2.2, ?_⟩
          conv => whnf
          refine rnames04_x fun n h4 n_n le_n at_n => ?_
          refine ⟨le_n _ _ HB.2.2, ?_⟩
          conv => whnf
          refine ⟨_, fun h' hh => loadC (i := 5) aggY0 hh rfl, ?_⟩
          conv => whnf
          first | refine need_intro (⟨by omega, by omega⟩) ?_ | refine must.mk (⟨by omega, by omega⟩) ?_
          conv => whnf
          refine ⟨_, loadC1 (i := e.ask.op.toNat) aggSt at_n (by rw [List.getElem?_map, hat]; rfl), ?_⟩
          conv => whnf
          exact ⟨⟨Hp.le_trans HB.1 le_n, le_n _ _ HB.2.1, le_n _ _ HB.2.2⟩, rfl⟩
        · have d1 : ¬ (1 ≤ e.ask.op ∧ e.ask.op ≤ 98) := by first | (have d2 := of_decide_eq_false d; omega) | omega
          have hkn : opName e.ask.op = [] := if_neg d1
          rw [hkn]
          clear d
          conv => whnf
          exact ⟨HB, rfl⟩
        obtain ⟨HB, rfl⟩ := hI
        have lw := (wk1 he).J (by decide)
        have lo := sm_or (sm_opName e.ask.op)
        conv => whnf
        refine cat_intro (a := J (W1 e)) (by simp; omega) ?_
        conv => whnf
        refine cat_by (m := J (W1 e ++ [nOp, orW (opName e.ask.op)])) (by simp; omega) (by rw [J_app (wk1 he).ne]; simp [tl, List.append_assoc]) ?_
        conv => whnf
        exact ⟨HB, slotJ (ws := W1 e ++ [nOp, orW (opName e.ask.op)]) (by rw [W2, opW, if_neg c1])⟩
    · have c1 : e.ask.op = 0 := by simpa using c
      conv => whnf
      exact ⟨HB, slotJ (ws := W1 e) (by rw [W2, opW, if_pos c1, List.append_nil])⟩
    obtain ⟨HB, rfl⟩ := hI
    clear k0 k1 k2 k3
    have k2 := wk2 he
    have k3 := k2.app (sm_wnum (by decide : nData.length ≤ 64) he.ask.data) (wnum_len _ _)
    conv => whnf
    refine ⟨fun h' => h' a = some (rowO 33 e.ask.cs), HB.2.2, ?_⟩
    conv => whnf
    refine ⟨_, loadC (i := 6) aggU HB.2.2 rfl, ?_⟩
    conv => whnf
    refine rword_x nData e.ask.data (by decide) he.ask.data ?_
    refine ⟨HB.2.2, ?_⟩
    conv => whnf
    refine cat_J k2 (by decide) (sm_wnum (by decide) he.ask.data) (Nat.le_trans (wnum_len _ _) (by decide)) ?_
    conv => whnf
    refine ⟨_, fun h' hh => loadC (i := 7) aggU hh rfl, ?_⟩
    conv => whnf
    refine rword_x nOld e.ask.old (by decide) he.ask.old ?_
    refine ⟨HB.2.2, ?_⟩
    conv => whnf
    refine cat_J k3 (by decide) (sm_wnum (by decide) he.ask.old) (Nat.le_trans (wnum_len _ _) (by decide)) ?_
    conv => whnf
    refine ⟨_, loadC (i := 8) aggBo HB.2.2 rfl, ?_⟩
    conv => whnf
    refine if_at [5] [] (fun vs cs h' => (h.le h' ∧ h' b = some (rowO 38 e.cs) ∧ h' a = some (rowO 33 e.ask.cs)) ∧ vs = [.v (.string (bs (J (W4 e))))]) (fun c => ?_) (fun c => ?_) (fun vs cs m bx h4 hI => ?_)
    · conv => whnf
      refine cat_J (ys := [nLive]) (wk3 he) (by decide) (Sm.cons (by decide) Sm.nil) (by decide) ?_
      conv => whnf
      exact ⟨HB, slotJ (ws := W3 e ++ [nLive]) (by rw [W4, wtruth, if_pos c])⟩
    · conv => whnf
      exact ⟨HB, slotJ (ws := W3 e) (by rw [W4, wtruth, if_neg (by simp [c]), List.append_nil])⟩
    obtain ⟨HB, rfl⟩ := hI
    conv => whnf
    refine ⟨_, loadC (i := 9) aggIn HB.2.2 rfl, ?_⟩
    conv => whnf
    refine rsigned_x nTo e.ask.hart (by decide) he.ask.hart0 he.ask.hart1 ?_
    conv => whnf
    refine cat_J (wk4 he) (by decide) (sm_wint (by decide) he.ask.hart0 he.ask.hart1) (Nat.le_trans (wint_len _ _) (by decide)) ?_
    conv => whnf
    refine ⟨_, loadP (k := 10) (x := e.ask.req.cs) aggRq sizRq HB.2.2 rfl rfl, ?_⟩
    conv => whnf
    refine must_via (b := decide (e.ask.req = Rq.zero)) ?_ ?_ ?_
    · kernel_rfl
    · exact eqRq e.ask.req Rq.zero
    conv => whnf
    refine if_at [5] [] (fun vs cs h' => (h.le h' ∧ h' b = some (rowO 38 e.cs) ∧ h' a = some (rowO 33 e.ask.cs)) ∧ vs = [.v (.string (bs (J (W6 e))))]) (fun c => ?_) (fun c => ?_) (fun vs cs m bx h4 hI => ?_)
    · have c1 : e.ask.req ≠ Rq.zero := by simpa using c
      conv => whnf
      refine cat_J (ys := [nReq]) (wk5 he) (by decide) (Sm.cons (by decide) Sm.nil) (by decide) ?_
      conv => whnf
      refine ⟨_, loadP (k := 10) (x := e.ask.req.cs) aggRq sizRq HB.2.2 rfl rfl, ?_⟩
      conv => whnf
      refine rreq_x e.ask.req he.ask.req ?_
      conv => whnf
      refine cat_J ((wk5 he).app (Sm.cons (by decide) Sm.nil) (Nat.le_refl 1)) (by decide) (sm_wreq he.ask.req) (by rw [wreq_len]; decide) ?_
      conv => whnf
      exact ⟨HB, slotJ (ws := W5 e ++ [nReq] ++ wreq e.ask.req) (by rw [W6, reqW, if_neg c1, List.append_assoc])⟩
    · have c1 : e.ask.req = Rq.zero := by simpa using c
      conv => whnf
      exact ⟨HB, slotJ (ws := W5 e) (by rw [W6, reqW, if_pos c1, List.append_nil])⟩
    obtain ⟨HB, rfl⟩ := hI
    conv => whnf
    refine ⟨_, loadP (k := 15) (x := e.ask.ent.cs) aggEn sizEn HB.2.2 rfl rfl, ?_⟩
    conv => whnf
    refine must_via (b := decide (e.ask.ent = En.zero)) ?_ ?_ ?_
    · kernel_rfl
    · exact eqEn e.ask.ent En.zero
    conv => whnf
    refine if_at [5] [] (fun vs cs h' => (h.le h' ∧ h' b = some (rowO 38 e.cs) ∧ h' a = some (rowO 33 e.ask.cs)) ∧ vs = [.v (.string (bs (J (W7 e))))]) (fun c => ?_) (fun c => ?_) (fun vs cs m bx h4 hI => ?_)
    · have c1 : e.ask.ent ≠ En.zero := by simpa using c
      have l0 := (wk6 he).J (by decide)
      have lh : (Lib.itoa e.ask.ent.asid).length ≤ 21 := itoa_len he.ask.ent.lo he.ask.ent.hi
      have lf : (Lib.decDigits e.ask.ent.page).length ≤ 20 := dec_len he.ask.ent.pg
      have la : (Lib.itoa e.ask.ent.level).length ≤ 21 := itoa_len he.ask.ent.lo2 he.ask.ent.hi2
      have lt : (Lib.decDigits e.ask.ent.pte).length ≤ 20 := dec_len he.ask.ent.pt
      conv => whnf
      refine ⟨fun h' => h' a = some (rowO 33 e.ask.cs), HB.2.2, ?_⟩
      conv => whnf
      refine cat_intro (a := J (W6 e)) (by simp; omega) ?_
      conv => whnf
      refine ⟨_, loadCA (k := 15) (by rw [addr_add, addr_add]; rfl) aggIn HB.2.2 rfl, ?_⟩
      conv => whnf
      refine rnum_x e.ask.ent.asid he.ask.ent.lo he.ask.ent.hi ?_
      refine ⟨HB.2.2, ?_⟩
      conv => whnf
      refine cat_intro (by simp; omega) ?_
      conv => whnf
      refine cat_intro (by simp; omega) ?_
      conv => whnf
      refine ⟨_, fun h' hh => loadCA (k := 16) (by rw [addr_add, addr_add]; rfl) aggU hh rfl, ?_⟩
      conv => whnf
      refine rPlain_x e.ask.ent.page he.ask.ent.pg ?_
      refine ⟨HB.2.2, ?_⟩
      conv => whnf
      refine cat_intro (by simp; omega) ?_
      conv => whnf
      refine cat_intro (by simp; omega) ?_
      conv => whnf
      refine ⟨_, fun h' hh => loadCA (k := 17) (by rw [addr_add, addr_add]; rfl) aggIn hh rfl, ?_⟩
      conv => whnf
      refine rnum_x e.ask.ent.level he.ask.ent.lo2 he.ask.ent.hi2 ?_
      refine ⟨HB.2.2, ?_⟩
      conv => whnf
      refine cat_intro (by simp; omega) ?_
      conv => whnf
      refine cat_intro (by simp; omega) ?_
      conv => whnf
      refine ⟨_, fun h' hh => loadCA (k := 18) (by rw [addr_add, addr_add]; rfl) aggU hh rfl, ?_⟩
      conv => whnf
      refine rPlain_x e.ask.ent.pte he.ask.ent.pt ?_
      refine ⟨HB.2.2, ?_⟩
      conv => whnf
      refine cat_by (m := J (W6 e ++ [nEntry, Lib.itoa e.ask.ent.asid, Lib.decDigits e.ask.ent.page, Lib.itoa e.ask.ent.level, Lib.decDigits e.ask.ent.pte])) (by simp; omega) (by rw [J_app (wk6 he).ne]; simp [tl, List.append_assoc]) ?_
      conv => whnf
      exact ⟨HB, slotJ (ws := W6 e ++ [nEntry, Lib.itoa e.ask.ent.asid, Lib.decDigits e.ask.ent.page, Lib.itoa e.ask.ent.level, Lib.decDigits e.ask.ent.pte]) (by rw [W7, entW, if_neg c1])⟩
    · have c1 : e.ask.ent = En.zero := by simpa using c
      conv => whnf
      exact ⟨HB, slotJ (ws := W6 e) (by rw [W7, entW, if_pos c1, List.append_nil])⟩
    obtain ⟨HB, rfl⟩ := hI
    conv => whnf
    refine ⟨_, loadP (k := 20) (x := e.ans.cs) aggAn sizAn HB.2.1 rfl rfl, ?_⟩
    conv => whnf
    refine big_by (v := .agg An.zero.cs.toArray) (by kernel_rfl) ?_
    conv => whnf
    refine must_via (b := decide (e.ans = An.zero)) ?_ ?_ ?_
    · kernel_rfl
    · exact eqAn e.ans An.zero
    generalize hd : decide (e.ans = An.zero) = d
    conv => whnf
    refine bsel_intro (fun q3 => ?_) (fun q3 => ?_)
    · have c1 := of_decide_eq_true (hd.trans q3)
      have hl : lineW e = W7 e := by rw [lineW, ansW, if_pos c1, List.append_nil, W7_eq]
      rw [hl] at hk'
      conv => whnf
      exact hk' _ HB.1
    have c1 := of_decide_eq_false (hd.trans q3)
    have hl : lineW e = W9 e ++ mailW e.ans.ms 0 := by rw [lineW, ansW, if_neg c1, W9, W8, W7_eq]; simp [List.append_assoc]
    rw [hl] at hk'
    conv => whnf
    refine cat_J (ys := [nArrow]) (wk7 he) (by decide) (Sm.cons (by decide) Sm.nil) (by decide) ?_
    conv => whnf
    refine ⟨_, loadCA (k := 20) (by rw [addr_add, addr_add]; rfl) aggU HB.2.1 rfl, ?_⟩
    conv => whnf
    refine rword_x nData e.ans.data (by decide) he.ans.data ?_
    conv => whnf
    refine cat_J ((wk7 he).app (Sm.cons (by decide) Sm.nil) (Nat.le_refl 1)) (by decide) (sm_wnum (by decide) he.ans.data) (Nat.le_trans (wnum_len _ _) (by decide)) ?_
    conv => whnf
    refine ⟨_, loadCA (k := 21) (by rw [addr_add, addr_add]; rfl) aggBo HB.2.1 rfl, ?_⟩
    conv => whnf
    refine if_at [5] [] (fun vs cs h' => (h.le h' ∧ h' b = some (rowO 38 e.cs) ∧ h' a = some (rowO 33 e.ask.cs)) ∧ vs = [.v (.string (bs (J (W9 e))))]) (fun c => ?_) (fun c => ?_) (fun vs cs m bx h4 hI => ?_)
    · conv => whnf
      refine cat_J (ys := [nGood]) (wk8 he) (by decide) (Sm.cons (by decide) Sm.nil) (by decide) ?_
      conv => whnf
      exact ⟨HB, slotJ (ws := W8 e ++ [nGood]) (by rw [W9, wtruth, if_pos c])⟩
    · conv => whnf
      exact ⟨HB, slotJ (ws := W8 e) (by rw [W9, wtruth, if_neg (by simp [c]), List.append_nil])⟩
    obtain ⟨HB, rfl⟩ := hI
    have hml : e.ans.ms.length = 8 := rfl
    conv => whnf
    refine loop_at [7, 5] [] (fun r vs _ h' => (h.le h' ∧ h' b = some (rowO 38 e.cs) ∧ h' a = some (rowO 33 e.ask.cs)) ∧ ∃ i : Nat, i ≤ 8 ∧ r = 8 - i ∧ vs = [.v (.int .i64 i), .v (.string (bs (J (W9 e ++ mailW (e.ans.ms.take i) 0))))]) 8 ⟨HB, 0, by omega, by omega, by show [MV.v (Value.int .i64 0), MV.v (Value.string (bs (J (W9 e))))] = [MV.v (Value.int .i64 ((0 : Nat) : Int)), MV.v (Value.string (bs (J (W9 e ++ []))))]; rw [List.append_nil]; rfl⟩ ?_
    rintro r vs cs m bx h6 ⟨HB, i, hi, rfl, rfl⟩
    conv => whnf
    refine bsel_intro (fun q4 => ?_) (fun q4 => ?_) <;> try simp only [decide_eq_true_eq, decide_eq_false_iff_not, beq_iff_eq, beq_eq_false_iff_ne, ne_eq, Bool.not_eq_true', Bool.not_eq_false', bne_iff_ne, bne_eq_false_iff_eq, Bool.not_eq_true, Bool.not_eq_false, Bool.and_eq_true, Bool.or_eq_true, bs_size] at q4
    · have hi8 : i < e.ans.ms.length := by rw [hml]; omega
      obtain ⟨q, hq⟩ : ∃ q, e.ans.ms[i]? = some q := ⟨_, List.getElem?_eq_getElem hi8⟩
      have hqo := he.ans.ms q (List.mem_of_getElem? hq)
      have hst := mailW_take hq
      have hms : ∀ q ∈ e.ans.ms.take i, q.ok := fun q hq => he.ans.ms q (List.mem_of_mem_take hq)
      have hlt : (e.ans.ms.take i).length ≤ 8 := Nat.le_trans (List.length_take_le _ _) hi
      have kk : Wk (W9 e ++ mailW (e.ans.ms.take i) 0) (37 + 40) := (wk9 he).app (sm_mailW _ 0 hms (by omega)) (Nat.le_trans (mailW_len _ _) (by omega))
      have hfl : (e.cs.drop (22 + i * 5)).take 5 = q.cs := by
        rw [← List.drop_drop]
        exact (flat_at rq_len e.ans.ms i q _ hq).1
      conv => whnf
      first | refine need_intro (⟨by omega, by omega⟩) ?_ | refine must.mk (⟨by omega, by omega⟩) ?_
      conv => whnf
      refine ⟨_, loadPA (b := b) (k := 22 + i * 5) (x := q.cs) (by rw [addr_add, addr_add, addr_add, show ((i : Int)).toNat = i by omega]; rfl) aggRq sizRq HB.2.1 hfl rfl, ?_⟩
      conv => whnf
      refine must_via (b := decide (q = Rq.zero)) ?_ ?_ ?_
      · kernel_rfl
      · exact eqRq q Rq.zero
      conv => whnf
      refine if_at [5] [] (fun vs cs h' => (h.le h' ∧ h' b = some (rowO 38 e.cs) ∧ h' a = some (rowO 33 e.ask.cs)) ∧ vs = [.v (.string (bs (J (W9 e ++ mailW (e.ans.ms.take (i + 1)) 0))))]) (fun c => ?_) (fun c => ?_) (fun vs cs m bx h7 hI => ?_)
      · have c1 : q ≠ Rq.zero := by simpa using c
        rw [if_neg c1] at hst
        have l0 := kk.J (by decide)
        have lh : (Lib.itoa (i : Int)).length ≤ 21 := itoa_len (by omega) (by omega)
        have lq := tl_sm (sm_wreq hqo) (Nat.le_of_eq (wreq_len q))
        conv => whnf
        refine ⟨fun h' => h' b = some (rowO 38 e.cs), HB.2.1, ?_⟩
        conv => whnf
        refine cat_intro (a := J (W9 e ++ mailW (e.ans.ms.take i) 0)) (by simp; omega) ?_
        conv => whnf
        refine rnum_x i (by omega) (by omega) ?_
        refine ⟨HB.2.1, ?_⟩
        conv => whnf
        refine cat_intro (by simp; omega) ?_
        conv => whnf
        first | refine need_intro (⟨by omega, by omega⟩) ?_ | refine must.mk (⟨by omega, by omega⟩) ?_
        conv => whnf
        refine ⟨_, fun h' hh => loadPA (b := b) (k := 22 + i * 5) (x := q.cs) (by rw [addr_add, addr_add, addr_add, show ((i : Int)).toNat = i by omega]; rfl) aggRq sizRq hh hfl rfl, ?_⟩
        conv => whnf
        refine rreq_x q hqo ?_
        refine ⟨HB.2.1, ?_⟩
        conv => whnf
        refine cat_by (m := J (W9 e ++ mailW (e.ans.ms.take (i + 1)) 0)) (by simp; omega) (by rw [hst, ← List.append_assoc, J_app kk.ne, tl_app]; simp [tl, List.append_assoc]) ?_
        conv => whnf
        exact ⟨HB, rfl⟩
      · have c1 : q = Rq.zero := by simpa using c
        rw [if_pos c1, List.append_nil] at hst
        rw [hst]
        conv => whnf
        exact ⟨HB, rfl⟩
      obtain ⟨HB, rfl⟩ := hI
      conv => whnf
      first | refine ov_i64 (by omega) ?_ | refine ov_u64 (by omega) ?_ | refine ov_i64 (by decide) ?_ | refine ov_u64 (by decide) ?_ | refine ov_u8 (by omega) ?_ | refine ov_i32 (by omega) ?_ | refine ov_u32 (by omega) ?_
      conv => whnf
      exact ⟨8 - (i + 1), by omega, HB, i + 1, by omega, rfl, rfl⟩
    · have : i = 8 := by omega
      subst this
      rw [← List.take_of_length_le (Nat.le_of_eq hml)] at hk'
      conv => whnf
      exact hk' _ HB.1
  · conv => whnf
    refine if_at [4] [] (fun vs cs h' => (h.le h' ∧ h' b = some (rowO 38 e.cs) ∧ h' a = some (rowO 33 e.ask.cs)) ∧ vs = [.v (.string (bs (orW (kindName e.ask.kind))))]) (fun c => ?_) (fun c => ?_) (fun vs cs m bx h4 hI => ?_)
    · have c1 : 1 ≤ e.ask.kind ∧ e.ask.kind ≤ 20 := by first | exact absurd c (by decide) | exact ⟨q1, by simpa using c⟩
      have hkn : kindName e.ask.kind = kindNames.getD (e.ask.kind.toNat - 1) [] := if_pos c1
      have hat := names_at all_kinds kindNames_len (n := e.ask.kind.toNat) (by omega) (by omega)
      rw [← hkn] at hat
      clear c
      conv => whnf
      refine ⟨fun h' => h' a = some (rowO 33 e.ask.cs), HB.2.2, ?_⟩
      conv => whnf
      refine rnames31_x fun n h4 n_n le_n at_n => ?_
      refine ⟨le_n _ _ HB.2.2, ?_⟩
      conv => whnf
      refine ⟨_, fun h' hh => loadC (i := 0) aggKi hh rfl, ?_⟩
      conv => whnf
      first | refine need_intro (⟨by omega, by omega⟩) ?_ | refine must.mk (⟨by omega, by omega⟩) ?_
      conv => whnf
      refine ⟨_, loadC1 (i := e.ask.kind.toNat) aggSt at_n (by rw [List.getElem?_map, hat]; rfl), ?_⟩
      conv => whnf
      exact ⟨⟨Hp.le_trans HB.1 le_n, le_n _ _ HB.2.1, le_n _ _ HB.2.2⟩, rfl⟩
    · have c1 : ¬ (1 ≤ e.ask.kind ∧ e.ask.kind ≤ 20) := by first | (have c2 := of_decide_eq_false c; omega) | omega
      have hkn : kindName e.ask.kind = [] := if_neg c1
      rw [hkn]
      clear c
      conv => whnf
      exact ⟨HB, rfl⟩
    obtain ⟨HB, rfl⟩ := hI
    clear q1
    have lh : (Lib.itoa e.hart).length ≤ 21 := itoa_len he.hart0 he.hart1
    have lf : (Lib.itoa e.from_).length ≤ 21 := itoa_len he.from0 he.from1
    have la : (Lib.itoa e.at_).length ≤ 21 := itoa_len he.at0 he.at1
    have lt : (Lib.itoa e.to).length ≤ 21 := itoa_len he.to0 he.to1
    have lk : (orW (kindName e.ask.kind)).length ≤ 64 := sm_or (sm_kindName _)
    conv => whnf
    refine ⟨fun h' => h' b = some (rowO 38 e.cs), HB.2.1, ?_⟩
    conv => whnf
    refine ⟨_, loadC (i := 0) aggIn HB.2.1 rfl, ?_⟩
    conv => whnf
    refine rnum_x e.hart he.hart0 he.hart1 ?_
    refine ⟨HB.2.1, ?_⟩
    conv => whnf
    refine cat_intro (by simp; omega) ?_
    conv => whnf
    refine cat_intro (by simp; omega) ?_
    conv => whnf
    refine cat_intro (by simp; omega) ?_
    conv => whnf
    refine ⟨_, fun h' hh => loadC (i := 62) aggIn hh rfl, ?_⟩
    conv => whnf
    refine rnum_x e.from_ he.from0 he.from1 ?_
    refine ⟨HB.2.1, ?_⟩
    conv => whnf
    refine cat_intro (by simp; omega) ?_
    conv => whnf
    refine cat_intro (by simp; omega) ?_
    conv => whnf
    refine ⟨_, fun h' hh => loadC (i := 63) aggIn hh rfl, ?_⟩
    conv => whnf
    refine rnum_x e.at_ he.at0 he.at1 ?_
    refine ⟨HB.2.1, ?_⟩
    conv => whnf
    refine cat_intro (by simp; omega) ?_
    conv => whnf
    refine cat_intro (by simp; omega) ?_
    conv => whnf
    refine ⟨_, fun h' hh => loadC (i := 64) aggIn hh rfl, ?_⟩
    conv => whnf
    refine rnum_x e.to he.to0 he.to1 ?_
    refine ⟨HB.2.1, ?_⟩
    conv => whnf
    refine cat_by (m := J (headW e)) (by simp; omega) (by simp [J, headW, join_tl, tl, List.append_assoc]) ?_
    conv => whnf
    clear lh lf la lt lk
    have k0 := wk0 he
    have k1 := k0.app (sm_wnum (by decide : nAddr.length ≤ 64) he.ask.addr) (wnum_len _ _)
    have k2 := k1.app (sm_wnum (by decide : nNext.length ≤ 64) he.ask.next) (wnum_len _ _)
    have k3 := k2.app (sm_wint (by decide : nCut.length ≤ 64) he.ask.cut0 he.ask.cut1) (wint_len _ _)
    refine ⟨fun h' => h' a = some (rowO 33 e.ask.cs), HB.2.2, ?_⟩
    conv => whnf
    refine ⟨_, loadC (i := 1) aggU HB.2.2 rfl, ?_⟩
    conv => whnf
    refine rword_x nAddr e.ask.addr (by decide) he.ask.addr ?_
    refine ⟨HB.2.2, ?_⟩
    conv => whnf
    refine cat_J k0 (by decide) (sm_wnum (by decide) he.ask.addr) (Nat.le_trans (wnum_len _ _) (by decide)) ?_
    conv => whnf
    refine ⟨_, fun h' hh => loadC (i := 2) aggU hh rfl, ?_⟩
    conv => whnf
    refine rword_x nNext e.ask.next (by decide) he.ask.next ?_
    refine ⟨HB.2.2, ?_⟩
    conv => whnf
    refine cat_J k1 (by decide) (sm_wnum (by decide) he.ask.next) (Nat.le_trans (wnum_len _ _) (by decide)) ?_
    conv => whnf
    refine ⟨_, fun h' hh => loadC (i := 3) aggIn hh rfl, ?_⟩
    conv => whnf
    refine rsigned_x nCut e.ask.cut (by decide) he.ask.cut0 he.ask.cut1 ?_
    refine ⟨HB.2.2, ?_⟩
    conv => whnf
    refine cat_J k2 (by decide) (sm_wint (by decide) he.ask.cut0 he.ask.cut1) (Nat.le_trans (wint_len _ _) (by decide)) ?_
    conv => whnf
    refine ⟨_, fun h' hh => loadC (i := 4) aggIn hh rfl, ?_⟩
    conv => whnf
    refine rsigned_x nSize e.ask.size (by decide) he.ask.size0 he.ask.size1 ?_
    refine ⟨HB.2.2, ?_⟩
    conv => whnf
    refine cat_J k3 (by decide) (sm_wint (by decide) he.ask.size0 he.ask.size1) (Nat.le_trans (wint_len _ _) (by decide)) ?_
    conv => whnf
    refine ⟨_, loadC (i := 5) aggY0 HB.2.2 rfl, ?_⟩
    conv => whnf
    refine if_at [5] [] (fun vs cs h' => (h.le h' ∧ h' b = some (rowO 38 e.cs) ∧ h' a = some (rowO 33 e.ask.cs)) ∧ vs = [.v (.string (bs (J (W2 e))))]) (fun c => ?_) (fun c => ?_) (fun vs cs m bx h4 hI => ?_)
    · have c1 : e.ask.op ≠ 0 := by simpa using c
      conv => whnf
      refine ⟨_, loadC (i := 5) aggY0 HB.2.2 rfl, ?_⟩
      conv => whnf
      refine bsel_intro (fun q2 => ?_) (fun q2 => ?_) <;> try simp only [decide_eq_true_eq, decide_eq_false_iff_not, beq_iff_eq, beq_eq_false_iff_ne, ne_eq, Bool.not_eq_true', Bool.not_eq_false', bne_iff_ne, bne_eq_false_iff_eq, Bool.not_eq_true, Bool.not_eq_false, Bool.and_eq_true, Bool.or_eq_true, bs_size] at q2
      · conv => whnf
        refine ⟨_, loadC (i := 5) aggY0 HB.2.2 rfl, ?_⟩
        conv => whnf
        refine if_at [6] [] (fun vs cs h' => (h.le h' ∧ h' b = some (rowO 38 e.cs) ∧ h' a = some (rowO 33 e.ask.cs)) ∧ vs = [.v (.string (bs (orW (opName e.ask.op))))]) (fun d => ?_) (fun d => ?_) (fun vs cs m bx h5 hI => ?_)
        · have d1 : 1 ≤ e.ask.op ∧ e.ask.op ≤ 98 := by first | exact absurd d (by decide) | exact ⟨q2, by simpa using d⟩
          have hkn : opName e.ask.op = opNames.getD (e.ask.op.toNat - 1) [] := if_pos d1
          have hat := names_at all_names opNames_len (n := e.ask.op.toNat) (by omega) (by omega)
          rw [← hkn] at hat
          clear d
          conv => whnf
          refine ⟨fun h' => h' a = some (rowO 33 e.ask.cs), HB.2.2, ?_⟩
          conv => whnf
          refine rnames04_x fun n h4 n_n le_n at_n => ?_
          refine ⟨le_n _ _ HB.2.2, ?_⟩
          conv => whnf
          refine ⟨_, fun h' hh => loadC (i := 5) aggY0 hh rfl, ?_⟩
          conv => whnf
          first | refine need_intro (⟨by omega, by omega⟩) ?_ | refine must.mk (⟨by omega, by omega⟩) ?_
          conv => whnf
          refine ⟨_, loadC1 (i := e.ask.op.toNat) aggSt at_n (by rw [List.getElem?_map, hat]; rfl), ?_⟩
          conv => whnf
          exact ⟨⟨Hp.le_trans HB.1 le_n, le_n _ _ HB.2.1, le_n _ _ HB.2.2⟩, rfl⟩
        · have d1 : ¬ (1 ≤ e.ask.op ∧ e.ask.op ≤ 98) := by first | (have d2 := of_decide_eq_false d; omega) | omega
          have hkn : opName e.ask.op = [] := if_neg d1
          rw [hkn]
          clear d
          conv => whnf
          exact ⟨HB, rfl⟩
        obtain ⟨HB, rfl⟩ := hI
        have lw := (wk1 he).J (by decide)
        have lo := sm_or (sm_opName e.ask.op)
        conv => whnf
        refine cat_intro (a := J (W1 e)) (by simp; omega) ?_
        conv => whnf
        refine cat_by (m := J (W1 e ++ [nOp, orW (opName e.ask.op)])) (by simp; omega) (by rw [J_app (wk1 he).ne]; simp [tl, List.append_assoc]) ?_
        conv => whnf
        exact ⟨HB, slotJ (ws := W1 e ++ [nOp, orW (opName e.ask.op)]) (by rw [W2, opW, if_neg c1])⟩
      · conv => whnf
        refine if_at [6] [] (fun vs cs h' => (h.le h' ∧ h' b = some (rowO 38 e.cs) ∧ h' a = some (rowO 33 e.ask.cs)) ∧ vs = [.v (.string (bs (orW (opName e.ask.op))))]) (fun d => ?_) (fun d => ?_) (fun vs cs m bx h5 hI => ?_)
        · have d1 : 1 ≤ e.ask.op ∧ e.ask.op ≤ 98 := by first | exact absurd d (by decide) | exact ⟨q2, by simpa using d⟩
          have hkn : opName e.ask.op = opNames.getD (e.ask.op.toNat - 1) [] := if_pos d1
          have hat := names_at all_names opNames_len (n := e.ask.op.toNat) (by omega) (by omega)
          rw [← hkn] at hat
          clear d
          conv => whnf
          refine ⟨fun h' => h' a = some (rowO 33 e.ask.cs), HB.2.2, ?_⟩
          conv => whnf
          refine rnames04_x fun n h4 n_n le_n at_n => ?_
          refine ⟨le_n _ _ HB.2.2, ?_⟩
          conv => whnf
          refine ⟨_, fun h' hh => loadC (i := 5) aggY0 hh rfl, ?_⟩
          conv => whnf
          first | refine need_intro (⟨by omega, by omega⟩) ?_ | refine must.mk (⟨by omega, by omega⟩) ?_
          conv => whnf
          refine ⟨_, loadC1 (i := e.ask.op.toNat) aggSt at_n (by rw [List.getElem?_map, hat]; rfl), ?_⟩
          conv => whnf
          exact ⟨⟨Hp.le_trans HB.1 le_n, le_n _ _ HB.2.1, le_n _ _ HB.2.2⟩, rfl⟩
        · have d1 : ¬ (1 ≤ e.ask.op ∧ e.ask.op ≤ 98) := by first | (have d2 := of_decide_eq_false d; omega) | omega
          have hkn : opName e.ask.op = [] := if_neg d1
          rw [hkn]
          clear d
          conv => whnf
          exact ⟨HB, rfl⟩
        obtain ⟨HB, rfl⟩ := hI
        have lw := (wk1 he).J (by decide)
        have lo := sm_or (sm_opName e.ask.op)
        conv => whnf
        refine cat_intro (a := J (W1 e)) (by simp; omega) ?_
        conv => whnf
        refine cat_by (m := J (W1 e ++ [nOp, orW (opName e.ask.op)])) (by simp; omega) (by rw [J_app (wk1 he).ne]; simp [tl, List.append_assoc]) ?_
        conv => whnf
        exact ⟨HB, slotJ (ws := W1 e ++ [nOp, orW (opName e.ask.op)]) (by rw [W2, opW, if_neg c1])⟩
    · have c1 : e.ask.op = 0 := by simpa using c
      conv => whnf
      exact ⟨HB, slotJ (ws := W1 e) (by rw [W2, opW, if_pos c1, List.append_nil])⟩
    obtain ⟨HB, rfl⟩ := hI
    clear k0 k1 k2 k3
    have k2 := wk2 he
    have k3 := k2.app (sm_wnum (by decide : nData.length ≤ 64) he.ask.data) (wnum_len _ _)
    conv => whnf
    refine ⟨fun h' => h' a = some (rowO 33 e.ask.cs), HB.2.2, ?_⟩
    conv => whnf
    refine ⟨_, loadC (i := 6) aggU HB.2.2 rfl, ?_⟩
    conv => whnf
    refine rword_x nData e.ask.data (by decide) he.ask.data ?_
    refine ⟨HB.2.2, ?_⟩
    conv => whnf
    refine cat_J k2 (by decide) (sm_wnum (by decide) he.ask.data) (Nat.le_trans (wnum_len _ _) (by decide)) ?_
    conv => whnf
    refine ⟨_, fun h' hh => loadC (i := 7) aggU hh rfl, ?_⟩
    conv => whnf
    refine rword_x nOld e.ask.old (by decide) he.ask.old ?_
    refine ⟨HB.2.2, ?_⟩
    conv => whnf
    refine cat_J k3 (by decide) (sm_wnum (by decide) he.ask.old) (Nat.le_trans (wnum_len _ _) (by decide)) ?_
    conv => whnf
    refine ⟨_, loadC (i := 8) aggBo HB.2.2 rfl, ?_⟩
    conv => whnf
    refine if_at [5] [] (fun vs cs h' => (h.le h' ∧ h' b = some (rowO 38 e.cs) ∧ h' a = some (rowO 33 e.ask.cs)) ∧ vs = [.v (.string (bs (J (W4 e))))]) (fun c => ?_) (fun c => ?_) (fun vs cs m bx h4 hI => ?_)
    · conv => whnf
      refine cat_J (ys := [nLive]) (wk3 he) (by decide) (Sm.cons (by decide) Sm.nil) (by decide) ?_
      conv => whnf
      exact ⟨HB, slotJ (ws := W3 e ++ [nLive]) (by rw [W4, wtruth, if_pos c])⟩
    · conv => whnf
      exact ⟨HB, slotJ (ws := W3 e) (by rw [W4, wtruth, if_neg (by simp [c]), List.append_nil])⟩
    obtain ⟨HB, rfl⟩ := hI
    conv => whnf
    refine ⟨_, loadC (i := 9) aggIn HB.2.2 rfl, ?_⟩
    conv => whnf
    refine rsigned_x nTo e.ask.hart (by decide) he.ask.hart0 he.ask.hart1 ?_
    conv => whnf
    refine cat_J (wk4 he) (by decide) (sm_wint (by decide) he.ask.hart0 he.ask.hart1) (Nat.le_trans (wint_len _ _) (by decide)) ?_
    conv => whnf
    refine ⟨_, loadP (k := 10) (x := e.ask.req.cs) aggRq sizRq HB.2.2 rfl rfl, ?_⟩
    conv => whnf
    refine must_via (b := decide (e.ask.req = Rq.zero)) ?_ ?_ ?_
    · kernel_rfl
    · exact eqRq e.ask.req Rq.zero
    conv => whnf
    refine if_at [5] [] (fun vs cs h' => (h.le h' ∧ h' b = some (rowO 38 e.cs) ∧ h' a = some (rowO 33 e.ask.cs)) ∧ vs = [.v (.string (bs (J (W6 e))))]) (fun c => ?_) (fun c => ?_) (fun vs cs m bx h4 hI => ?_)
    · have c1 : e.ask.req ≠ Rq.zero := by simpa using c
      conv => whnf
      refine cat_J (ys := [nReq]) (wk5 he) (by decide) (Sm.cons (by decide) Sm.nil) (by decide) ?_
      conv => whnf
      refine ⟨_, loadP (k := 10) (x := e.ask.req.cs) aggRq sizRq HB.2.2 rfl rfl, ?_⟩
      conv => whnf
      refine rreq_x e.ask.req he.ask.req ?_
      conv => whnf
      refine cat_J ((wk5 he).app (Sm.cons (by decide) Sm.nil) (Nat.le_refl 1)) (by decide) (sm_wreq he.ask.req) (by rw [wreq_len]; decide) ?_
      conv => whnf
      exact ⟨HB, slotJ (ws := W5 e ++ [nReq] ++ wreq e.ask.req) (by rw [W6, reqW, if_neg c1, List.append_assoc])⟩
    · have c1 : e.ask.req = Rq.zero := by simpa using c
      conv => whnf
      exact ⟨HB, slotJ (ws := W5 e) (by rw [W6, reqW, if_pos c1, List.append_nil])⟩
    obtain ⟨HB, rfl⟩ := hI
    conv => whnf
    refine ⟨_, loadP (k := 15) (x := e.ask.ent.cs) aggEn sizEn HB.2.2 rfl rfl, ?_⟩
    conv => whnf
    refine must_via (b := decide (e.ask.ent = En.zero)) ?_ ?_ ?_
    · kernel_rfl
    · exact eqEn e.ask.ent En.zero
    conv => whnf
    refine if_at [5] [] (fun vs cs h' => (h.le h' ∧ h' b = some (rowO 38 e.cs) ∧ h' a = some (rowO 33 e.ask.cs)) ∧ vs = [.v (.string (bs (J (W7 e))))]) (fun c => ?_) (fun c => ?_) (fun vs cs m bx h4 hI => ?_)
    · have c1 : e.ask.ent ≠ En.zero := by simpa using c
      have l0 := (wk6 he).J (by decide)
      have lh : (Lib.itoa e.ask.ent.asid).length ≤ 21 := itoa_len he.ask.ent.lo he.ask.ent.hi
      have lf : (Lib.decDigits e.ask.ent.page).length ≤ 20 := dec_len he.ask.ent.pg
      have la : (Lib.itoa e.ask.ent.level).length ≤ 21 := itoa_len he.ask.ent.lo2 he.ask.ent.hi2
      have lt : (Lib.decDigits e.ask.ent.pte).length ≤ 20 := dec_len he.ask.ent.pt
      conv => whnf
      refine ⟨fun h' => h' a = some (rowO 33 e.ask.cs), HB.2.2, ?_⟩
      conv => whnf
      refine cat_intro (a := J (W6 e)) (by simp; omega) ?_
      conv => whnf
      refine ⟨_, loadCA (k := 15) (by rw [addr_add, addr_add]; rfl) aggIn HB.2.2 rfl, ?_⟩
      conv => whnf
      refine rnum_x e.ask.ent.asid he.ask.ent.lo he.ask.ent.hi ?_
      refine ⟨HB.2.2, ?_⟩
      conv => whnf
      refine cat_intro (by simp; omega) ?_
      conv => whnf
      refine cat_intro (by simp; omega) ?_
      conv => whnf
      refine ⟨_, fun h' hh => loadCA (k := 16) (by rw [addr_add, addr_add]; rfl) aggU hh rfl, ?_⟩
      conv => whnf
      refine rPlain_x e.ask.ent.page he.ask.ent.pg ?_
      refine ⟨HB.2.2, ?_⟩
      conv => whnf
      refine cat_intro (by simp; omega) ?_
      conv => whnf
      refine cat_intro (by simp; omega) ?_
      conv => whnf
      refine ⟨_, fun h' hh => loadCA (k := 17) (by rw [addr_add, addr_add]; rfl) aggIn hh rfl, ?_⟩
      conv => whnf
      refine rnum_x e.ask.ent.level he.ask.ent.lo2 he.ask.ent.hi2 ?_
      refine ⟨HB.2.2, ?_⟩
      conv => whnf
      refine cat_intro (by simp; omega) ?_
      conv => whnf
      refine cat_intro (by simp; omega) ?_
      conv => whnf
      refine ⟨_, fun h' hh => loadCA (k := 18) (by rw [addr_add, addr_add]; rfl) aggU hh rfl, ?_⟩
      conv => whnf
      refine rPlain_x e.ask.ent.pte he.ask.ent.pt ?_
      refine ⟨HB.2.2, ?_⟩
      conv => whnf
      refine cat_by (m := J (W6 e ++ [nEntry, Lib.itoa e.ask.ent.asid, Lib.decDigits e.ask.ent.page, Lib.itoa e.ask.ent.level, Lib.decDigits e.ask.ent.pte])) (by simp; omega) (by rw [J_app (wk6 he).ne]; simp [tl, List.append_assoc]) ?_
      conv => whnf
      exact ⟨HB, slotJ (ws := W6 e ++ [nEntry, Lib.itoa e.ask.ent.asid, Lib.decDigits e.ask.ent.page, Lib.itoa e.ask.ent.level, Lib.decDigits e.ask.ent.pte]) (by rw [W7, entW, if_neg c1])⟩
    · have c1 : e.ask.ent = En.zero := by simpa using c
      conv => whnf
      exact ⟨HB, slotJ (ws := W6 e) (by rw [W7, entW, if_pos c1, List.append_nil])⟩
    obtain ⟨HB, rfl⟩ := hI
    conv => whnf
    refine ⟨_, loadP (k := 20) (x := e.ans.cs) aggAn sizAn HB.2.1 rfl rfl, ?_⟩
    conv => whnf
    refine big_by (v := .agg An.zero.cs.toArray) (by kernel_rfl) ?_
    conv => whnf
    refine must_via (b := decide (e.ans = An.zero)) ?_ ?_ ?_
    · kernel_rfl
    · exact eqAn e.ans An.zero
    generalize hd : decide (e.ans = An.zero) = d
    conv => whnf
    refine bsel_intro (fun q3 => ?_) (fun q3 => ?_)
    · have c1 := of_decide_eq_true (hd.trans q3)
      have hl : lineW e = W7 e := by rw [lineW, ansW, if_pos c1, List.append_nil, W7_eq]
      rw [hl] at hk'
      conv => whnf
      exact hk' _ HB.1
    have c1 := of_decide_eq_false (hd.trans q3)
    have hl : lineW e = W9 e ++ mailW e.ans.ms 0 := by rw [lineW, ansW, if_neg c1, W9, W8, W7_eq]; simp [List.append_assoc]
    rw [hl] at hk'
    conv => whnf
    refine cat_J (ys := [nArrow]) (wk7 he) (by decide) (Sm.cons (by decide) Sm.nil) (by decide) ?_
    conv => whnf
    refine ⟨_, loadCA (k := 20) (by rw [addr_add, addr_add]; rfl) aggU HB.2.1 rfl, ?_⟩
    conv => whnf
    refine rword_x nData e.ans.data (by decide) he.ans.data ?_
    conv => whnf
    refine cat_J ((wk7 he).app (Sm.cons (by decide) Sm.nil) (Nat.le_refl 1)) (by decide) (sm_wnum (by decide) he.ans.data) (Nat.le_trans (wnum_len _ _) (by decide)) ?_
    conv => whnf
    refine ⟨_, loadCA (k := 21) (by rw [addr_add, addr_add]; rfl) aggBo HB.2.1 rfl, ?_⟩
    conv => whnf
    refine if_at [5] [] (fun vs cs h' => (h.le h' ∧ h' b = some (rowO 38 e.cs) ∧ h' a = some (rowO 33 e.ask.cs)) ∧ vs = [.v (.string (bs (J (W9 e))))]) (fun c => ?_) (fun c => ?_) (fun vs cs m bx h4 hI => ?_)
    · conv => whnf
      refine cat_J (ys := [nGood]) (wk8 he) (by decide) (Sm.cons (by decide) Sm.nil) (by decide) ?_
      conv => whnf
      exact ⟨HB, slotJ (ws := W8 e ++ [nGood]) (by rw [W9, wtruth, if_pos c])⟩
    · conv => whnf
      exact ⟨HB, slotJ (ws := W8 e) (by rw [W9, wtruth, if_neg (by simp [c]), List.append_nil])⟩
    obtain ⟨HB, rfl⟩ := hI
    have hml : e.ans.ms.length = 8 := rfl
    conv => whnf
    refine loop_at [7, 5] [] (fun r vs _ h' => (h.le h' ∧ h' b = some (rowO 38 e.cs) ∧ h' a = some (rowO 33 e.ask.cs)) ∧ ∃ i : Nat, i ≤ 8 ∧ r = 8 - i ∧ vs = [.v (.int .i64 i), .v (.string (bs (J (W9 e ++ mailW (e.ans.ms.take i) 0))))]) 8 ⟨HB, 0, by omega, by omega, by show [MV.v (Value.int .i64 0), MV.v (Value.string (bs (J (W9 e))))] = [MV.v (Value.int .i64 ((0 : Nat) : Int)), MV.v (Value.string (bs (J (W9 e ++ []))))]; rw [List.append_nil]; rfl⟩ ?_
    rintro r vs cs m bx h6 ⟨HB, i, hi, rfl, rfl⟩
    conv => whnf
    refine bsel_intro (fun q4 => ?_) (fun q4 => ?_) <;> try simp only [decide_eq_true_eq, decide_eq_false_iff_not, beq_iff_eq, beq_eq_false_iff_ne, ne_eq, Bool.not_eq_true', Bool.not_eq_false', bne_iff_ne, bne_eq_false_iff_eq, Bool.not_eq_true, Bool.not_eq_false, Bool.and_eq_true, Bool.or_eq_true, bs_size] at q4
    · have hi8 : i < e.ans.ms.length := by rw [hml]; omega
      obtain ⟨q, hq⟩ : ∃ q, e.ans.ms[i]? = some q := ⟨_, List.getElem?_eq_getElem hi8⟩
      have hqo := he.ans.ms q (List.mem_of_getElem? hq)
      have hst := mailW_take hq
      have hms : ∀ q ∈ e.ans.ms.take i, q.ok := fun q hq => he.ans.ms q (List.mem_of_mem_take hq)
      have hlt : (e.ans.ms.take i).length ≤ 8 := Nat.le_trans (List.length_take_le _ _) hi
      have kk : Wk (W9 e ++ mailW (e.ans.ms.take i) 0) (37 + 40) := (wk9 he).app (sm_mailW _ 0 hms (by omega)) (Nat.le_trans (mailW_len _ _) (by omega))
      have hfl : (e.cs.drop (22 + i * 5)).take 5 = q.cs := by
        rw [← List.drop_drop]
        exact (flat_at rq_len e.ans.ms i q _ hq).1
      conv => whnf
      first | refine need_intro (⟨by omega, by omega⟩) ?_ | refine must.mk (⟨by omega, by omega⟩) ?_
      conv => whnf
      refine ⟨_, loadPA (b := b) (k := 22 + i * 5) (x := q.cs) (by rw [addr_add, addr_add, addr_add, show ((i : Int)).toNat = i by omega]; rfl) aggRq sizRq HB.2.1 hfl rfl, ?_⟩
      conv => whnf
      refine must_via (b := decide (q = Rq.zero)) ?_ ?_ ?_
      · kernel_rfl
      · exact eqRq q Rq.zero
      conv => whnf
      refine if_at [5] [] (fun vs cs h' => (h.le h' ∧ h' b = some (rowO 38 e.cs) ∧ h' a = some (rowO 33 e.ask.cs)) ∧ vs = [.v (.string (bs (J (W9 e ++ mailW (e.ans.ms.take (i + 1)) 0))))]) (fun c => ?_) (fun c => ?_) (fun vs cs m bx h7 hI => ?_)
      · have c1 : q ≠ Rq.zero := by simpa using c
        rw [if_neg c1] at hst
        have l0 := kk.J (by decide)
        have lh : (Lib.itoa (i : Int)).length ≤ 21 := itoa_len (by omega) (by omega)
        have lq := tl_sm (sm_wreq hqo) (Nat.le_of_eq (wreq_len q))
        conv => whnf
        refine ⟨fun h' => h' b = some (rowO 38 e.cs), HB.2.1, ?_⟩
        conv => whnf
        refine cat_intro (a := J (W9 e ++ mailW (e.ans.ms.take i) 0)) (by simp; omega) ?_
        conv => whnf
        refine rnum_x i (by omega) (by omega) ?_
        refine ⟨HB.2.1, ?_⟩
        conv => whnf
        refine cat_intro (by simp; omega) ?_
        conv => whnf
        first | refine need_intro (⟨by omega, by omega⟩) ?_ | refine must.mk (⟨by omega, by omega⟩) ?_
        conv => whnf
        refine ⟨_, fun h' hh => loadPA (b := b) (k := 22 + i * 5) (x := q.cs) (by rw [addr_add, addr_add, addr_add, show ((i : Int)).toNat = i by omega]; rfl) aggRq sizRq hh hfl rfl, ?_⟩
        conv => whnf
        refine rreq_x q hqo ?_
        refine ⟨HB.2.1, ?_⟩
        conv => whnf
        refine cat_by (m := J (W9 e ++ mailW (e.ans.ms.take (i + 1)) 0)) (by simp; omega) (by rw [hst, ← List.append_assoc, J_app kk.ne, tl_app]; simp [tl, List.append_assoc]) ?_
        conv => whnf
        exact ⟨HB, rfl⟩
      · have c1 : q = Rq.zero := by simpa using c
        rw [if_pos c1, List.append_nil] at hst
        rw [hst]
        conv => whnf
        exact ⟨HB, rfl⟩
      obtain ⟨HB, rfl⟩ := hI
      conv => whnf
      first | refine ov_i64 (by omega) ?_ | refine ov_u64 (by omega) ?_ | refine ov_i64 (by decide) ?_ | refine ov_u64 (by decide) ?_ | refine ov_u8 (by omega) ?_ | refine ov_i32 (by omega) ?_ | refine ov_u32 (by omega) ?_
      conv => whnf
      exact ⟨8 - (i + 1), by omega, HB, i + 1, by omega, rfl, rfl⟩
    · have : i = 8 := by omega
      subst this
      rw [← List.take_of_length_le (Nat.le_of_eq hml)] at hk'
      conv => whnf
      exact hk' _ HB.1
end
end Go.Proofs.YtclbommhagmpdaaDoor
