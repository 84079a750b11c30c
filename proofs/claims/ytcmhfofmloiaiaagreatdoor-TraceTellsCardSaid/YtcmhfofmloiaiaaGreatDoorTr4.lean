/-
  Logs in words: an event's answer; its line, the program's.
-/
import Derived.Test.YtcmhfofmloiaiaaGreatDoorLibNi
import Derived.Test.YtcmhfofmloiaiaaGreatDoorTr3
import Derived.Test.YtcmhfofmloiaiaaGreatDoorLin
namespace Go.Proofs.YtcmhfofmloiaiaaGreatDoor
set_option linter.unusedSimpArgs false
set_option linter.unusedVariables false
open Go Go.Mid Go.RowKit
attribute [local irreducible] mid
section
set_option maxHeartbeats 8000000
set_option maxRecDepth 10000
variable {h : Hp} {K : Value → Hp → Prop}
/-- The mails, as words; i: the first one's number. -/
def mailW : List Rq → Nat → List Str
  | [], _ => []
  | q :: l, i => (if q = Rq.zero then [] else [nMail, Lib.itoa i] ++ wreq q) ++ mailW l (i + 1)
theorem mailW_snoc (q : Rq) : ∀ (l : List Rq) (i : Nat), mailW (l ++ [q]) i = mailW l i ++ (if q = Rq.zero then [] else [nMail, Lib.itoa (i + l.length : Nat)] ++ wreq q)
  | [], i => by simp [mailW]
  | x :: l, i => by
    rw [List.cons_append, mailW, mailW_snoc q l (i + 1), mailW, List.append_assoc]
    simp only [List.length_cons]
    rw [show i + 1 + l.length = i + (l.length + 1) by omega]
theorem mailW_len : ∀ (l : List Rq) (i : Nat), (mailW l i).length ≤ 5 * l.length
  | [], i => by simp [mailW]
  | x :: l, i => by
    rw [mailW, List.length_append, List.length_cons]
    have := mailW_len l (i + 1)
    split
    · simp; omega
    · simp [wreq_len]; omega
theorem mailW_take {l : List Rq} {i : Nat} {q : Rq} (hq : l[i]? = some q) : mailW (l.take (i + 1)) 0 = mailW (l.take i) 0 ++ (if q = Rq.zero then [] else [nMail, Lib.itoa i] ++ wreq q) := by
  have hi := (List.getElem?_eq_some_iff.1 hq).1
  rw [List.take_add_one, hq]
  show mailW (l.take i ++ [q]) 0 = _
  rw [mailW_snoc, List.length_take, Nat.min_eq_left (by omega), Nat.zero_add]
structure An.ok (b : An) : Prop where
  data : b.data < 18446744073709551616
  ms : ∀ q ∈ b.ms, q.ok
def ansW (b : An) : List Str := if b = An.zero then [] else [nArrow] ++ wnum nData b.data ++ wtruth nGood b.good ++ mailW b.ms 0
theorem rq_len (q : Rq) : q.cs.length = 5 := rfl
theorem answer_x {k : Hp} {w : Nat} {xs : List Str} (hp : Pow k) (hw : Wds k h w xs) (hn : xs.length ≤ 200) (b : An) (hb : b.ok)
    (hk : ∀ h', Wds k h' w (xs ++ ansW b) → K (.tuple #[]) h') : X Tryz.prog 37 #[.pointer (some ⟨w, 0, none⟩), .agg b.cs.toArray] h K := by
  unfold ansW at hk
  have hml : b.ms.length = 8 := rfl
  refine fnp (args := _) mixed [(5, 5)] [] [] [(999999, [28])] Tryz.func37 rfl (by kernel_rfl) ?_
  conv => whnf
  refine new_intro (o := rowO 51 b.cs) (fun x h1 n_x le_x at_x ot_x => ?_)
  conv => whnf
  obtain ⟨k1, hw1, kx, lek⟩ := hw.newE n_x le_x at_x
  have hp1 := hp.le lek
  refine ⟨_, loadA0 aggAn sizAn at_x rfl, ?_⟩
  conv => whnf
  refine big_by (v := .agg An.zero.cs.toArray) (by kernel_rfl) ?_
  conv => whnf
  refine must_via (b := decide (b = An.zero)) ?_ ?_ ?_
  · kernel_rfl
  · exact eqAn b An.zero
  generalize hd : decide (b = An.zero) = d
  conv => whnf
  refine bsel_intro (fun q1 => ?_) (fun q1 => ?_)
  · have q1 := of_decide_eq_true (hd.trans q1)
    rw [if_pos q1, List.append_nil] at hk
    conv => whnf
    exact hk _ (hw1.weak lek)
  · have q1 := of_decide_eq_false (hd.trans q1)
    rw [if_neg q1] at hk
    conv => whnf
    refine new_intro (o := rowO 9 [sv nArrow]) (fun y h2 n_y le_y at_y ot_y => ?_)
    conv => whnf
    refine putB (ys := [nArrow]) hw1 n_y le_y at_y (Nat.le_trans (Nat.add_le_add_right hn 1) (by decide)) fun h3 hw3 => ?_
    have l3 : (xs ++ [nArrow]).length ≤ 200 + 1 := app_len hn (Nat.le_refl 1)
    conv => whnf
    refine ⟨_, loadC (i := 0) aggU (hw3.le _ _ kx) rfl, ?_⟩
    conv => whnf
    refine num_x hp1 hw3 (Nat.le_trans l3 (by decide)) _ b.data hb.data fun h4 hw4 => ?_
    have l4 := app_len l3 (wnum_len nData b.data)
    conv => whnf
    refine ⟨_, loadC (i := 1) aggBo (hw4.le _ _ kx) rfl, ?_⟩
    conv => whnf
    refine truth_x hw4 (Nat.le_trans l4 (by decide)) _ b.good fun h5 hw5 => ?_
    have l5 := app_len l4 (wtruth_len nGood b.good)
    have hw5 : Wds k1 h5 w (xs ++ [nArrow] ++ wnum nData b.data ++ wtruth nGood b.good) := hw5
    have l5 : (xs ++ [nArrow] ++ wnum nData b.data ++ wtruth nGood b.good).length ≤ 200 + 1 + 2 + 2 := l5
    generalize hxs : xs ++ [nArrow] ++ wnum nData b.data ++ wtruth nGood b.good = ys at hw5 l5
    have hk' : ∀ h', Wds k h' w (ys ++ mailW b.ms 0) → K (.tuple #[]) h' := fun h' hh => hk h' (by rw [← hxs] at hh; simpa [List.append_assoc] using hh)
    clear hk
    conv => whnf
    refine ⟨_, loadP (k := 2) (x := b.ms.flatMap Rq.cs) aggM sizM (hw5.le _ _ kx) rfl rfl, ?_⟩
    conv => whnf
    refine loop_at [22] [] (fun r vs _ h' => ∃ i : Nat, i ≤ 8 ∧ r = 8 - i ∧ vs = [.v (.int .i64 i)] ∧ Wds k1 h' w (ys ++ mailW (b.ms.take i) 0)) 8 ⟨0, by omega, by omega, rfl, by show Wds _ _ _ (ys ++ []); rw [List.append_nil]; exact hw5⟩ ?_
    rintro r vs cs mm bx h6 ⟨i, hi, rfl, rfl, hw6⟩
    conv => whnf
    refine bsel_intro (fun q2 => ?_) (fun q2 => ?_) <;> try simp only [decide_eq_true_eq, decide_eq_false_iff_not, beq_iff_eq, beq_eq_false_iff_ne, ne_eq, Bool.not_eq_true', Bool.not_eq_false', bne_iff_ne, bne_eq_false_iff_eq, Bool.not_eq_true, Bool.not_eq_false, Bool.and_eq_true, Bool.or_eq_true, bs_size] at q2
    · have hi8 : i < b.ms.length := by rw [hml]; omega
      obtain ⟨q, hq⟩ : ∃ q, b.ms[i]? = some q := ⟨_, List.getElem?_eq_getElem hi8⟩
      have hqo := hb.ms q (List.mem_of_getElem? hq)
      have hst := mailW_take hq
      have l6 := app_len l5 (Nat.le_trans (mailW_len (b.ms.take i) 0) (Nat.mul_le_mul_left 5 (Nat.le_trans (List.length_take_le _ _) hi)))
      have hfl : ((b.ms.flatMap Rq.cs).drop (i * 5)).take 5 = q.cs := by
        have := (flat_at rq_len b.ms i q [] hq).1
        rwa [List.append_nil] at this
      conv => whnf
      refine need_intro ⟨by omega, by show _ < ((8 : Nat) : Int); omega⟩ ?_
      refine part_agg (n := 5) (k := i * 5) (x := q.cs) aggRq sizRq (by rw [show ((i : Int)).toNat = i by omega]; rfl) hfl rfl (by decide) ?_
      conv => whnf
      refine must_via (b := decide (q = Rq.zero)) ?_ ?_ ?_
      · kernel_rfl
      · exact eqRq q Rq.zero
      conv => whnf
      refine if_at [] [] (fun vs cs h' => Wds k1 h' w (ys ++ mailW (b.ms.take (i + 1)) 0)) (fun e => ?_) (fun e => ?_) (fun vs cs m bx h7 hw7 => ?_)
      · have e : q ≠ Rq.zero := by simpa using e
        rw [if_neg e] at hst
        conv => whnf
        refine itoaA_x (hp1.le hw6.le) i (by omega) (by omega) ?_
        conv => whnf
        refine new_intro (o := rowO 9 [sv nMail, sv (Lib.itoa i)]) (fun z h7 n_z le_z at_z ot_z => ?_)
        conv => whnf
        refine putB (ys := [nMail, Lib.itoa i]) hw6 n_z le_z at_z (Nat.le_trans (Nat.add_le_add_right l6 2) (by decide)) fun h8 hw8 => ?_
        conv => whnf
        refine req_x hp1 hw8 (Nat.le_trans (app_len l6 (Nat.le_refl 2)) (by decide)) q hqo fun h9 hw9 => ?_
        conv => whnf
        show Wds _ _ _ _
        rw [hst]
        simpa only [List.append_assoc] using hw9
      · have e : q = Rq.zero := by simpa using e
        rw [if_pos e, List.append_nil] at hst
        conv => whnf
        show Wds _ _ _ _
        rw [hst]
        exact hw6
      conv => whnf
      first | refine ov_i64 (by omega) ?_ | refine ov_u64 (by omega) ?_ | refine ov_i64 (by decide) ?_ | refine ov_u64 (by decide) ?_ | refine ov_u8 (by omega) ?_ | refine ov_i32 (by omega) ?_ | refine ov_u32 (by omega) ?_
      conv => whnf
      exact ⟨8 - (i + 1), by omega, i + 1, by omega, rfl, rfl, hw7⟩
    · have : i = 8 := by omega
      subst this
      rw [List.take_of_length_le (Nat.le_of_eq hml)] at hw6
      conv => whnf
      exact hk' _ (hw6.weak lek)
structure Ev.ok (e : Ev) : Prop where
  hart0 : -9223372036854775808 ≤ e.hart
  hart1 : e.hart ≤ 9223372036854775807
  ask : e.ask.ok
  ans : e.ans.ok
  from0 : -9223372036854775808 ≤ e.from_
  from1 : e.from_ ≤ 9223372036854775807
  at0 : -9223372036854775808 ≤ e.at_
  at1 : e.at_ ≤ 9223372036854775807
  to0 : -9223372036854775808 ≤ e.to
  to1 : e.to ≤ 9223372036854775807
/-- An event's words. -/
def headW (e : Ev) : List Str := [Lib.itoa e.hart, orW (kindName e.ask.kind), Lib.itoa e.from_, Lib.itoa e.at_, Lib.itoa e.to]
def lineW (e : Ev) : List Str := headW e ++ askW e.ask ++ ansW e.ans
theorem sm_wnum {x : Str} {n : Nat} (hx : x.length ≤ 64) (h : n < 18446744073709551616) : Sm (wnum x n) := by
  unfold wnum; split
  · exact Sm.nil
  · exact Sm.cons hx (Sm.cons (sm_dec h) Sm.nil)
theorem sm_wint {x : Str} {n : Int} (hx : x.length ≤ 64) (h0 : -9223372036854775808 ≤ n) (h1 : n ≤ 9223372036854775807) : Sm (wint x n) := by
  unfold wint; split
  · exact Sm.nil
  · exact Sm.cons hx (Sm.cons (sm_itoa h0 h1) Sm.nil)
theorem sm_wtruth {x : Str} {n : Bool} (hx : x.length ≤ 64) : Sm (wtruth x n) := by
  unfold wtruth; split
  · exact Sm.cons hx Sm.nil
  · exact Sm.nil
theorem sm_wreq {q : Rq} (h : q.ok) : Sm (wreq q) := by
  refine Sm.cons ?_ (Sm.cons (sm_dec h.va) (Sm.cons (sm_itoa h.lo h.hi) Sm.nil))
  unfold flagsW flags
  cases q.s <;> cases q.v <;> cases q.a <;> decide
theorem all_names : (∀ x ∈ opNames, x.length ≤ 64 ∧ x ≠ []) := by decide +kernel
theorem all_kinds : (∀ x ∈ kindNames, x.length ≤ 64 ∧ x ≠ []) := by decide +kernel
theorem getD_or {l : List Str} (h : ∀ x ∈ l, x.length ≤ 64 ∧ x ≠ []) (i : Nat) : (l.getD i []).length ≤ 64 := by
  rw [List.getD_eq_getElem?_getD]
  cases hi : l[i]? with
  | none => simp
  | some x => exact (h x (List.mem_of_getElem? hi)).1
theorem sm_or {x : Str} (h : x.length ≤ 64) : (orW x).length ≤ 64 := by
  unfold orW; split
  · decide
  · exact h
theorem sm_opName (n : Int) : (opName n).length ≤ 64 := by
  unfold opName; split
  · exact getD_or all_names _
  · decide
theorem sm_kindName (n : Int) : (kindName n).length ≤ 64 := by
  unfold kindName; split
  · exact getD_or all_kinds _
  · decide
theorem sm_opW (n : Int) : Sm (opW n) := by
  unfold opW; split
  · exact Sm.nil
  · exact Sm.cons (by decide) (Sm.cons (sm_or (sm_opName n)) Sm.nil)
theorem sm_reqW {q : Rq} (h : q.ok) : Sm (reqW q) := by
  unfold reqW; split
  · exact Sm.nil
  · exact (Sm.cons (by decide) Sm.nil).app (sm_wreq h)
theorem sm_entW {q : En} (h : q.ok) : Sm (entW q) := by
  unfold entW; split
  · exact Sm.nil
  · exact Sm.cons (by decide) (Sm.cons (sm_itoa h.lo h.hi) (Sm.cons (sm_dec h.pg) (Sm.cons (sm_itoa h.lo2 h.hi2) (Sm.cons (sm_dec h.pt) Sm.nil))))
theorem sm_askW {a : Ak} (h : a.ok) : Sm (askW a) :=
  ((((((((((sm_wnum (by decide) h.addr).app (sm_wnum (by decide) h.next)).app (sm_wint (by decide) h.cut0 h.cut1)).app (sm_wint (by decide) h.size0 h.size1)).app (sm_opW a.op)).app (sm_wnum (by decide) h.data)).app (sm_wnum (by decide) h.old)).app (sm_wtruth (by decide))).app (sm_wint (by decide) h.hart0 h.hart1)).app (sm_reqW h.req)).app (sm_entW h.ent)
theorem sm_mailW : ∀ (l : List Rq) (i : Nat), (∀ q ∈ l, q.ok) → i + l.length ≤ 100 → Sm (mailW l i)
  | [], _, _, _ => Sm.nil
  | q :: l, i, h, hi => by
    rw [List.length_cons] at hi
    refine Sm.app ?_ (sm_mailW l (i + 1) (fun x hx => h x (by simp [hx])) (by omega))
    split
    · exact Sm.nil
    · exact (Sm.cons (by decide) (Sm.cons (sm_itoa (by omega) (by omega)) Sm.nil)).app (sm_wreq (h q (by simp)))
theorem sm_ansW {b : An} (h : b.ok) : Sm (ansW b) := by
  unfold ansW; split
  · exact Sm.nil
  · exact (((Sm.cons (by decide) Sm.nil).app (sm_wnum (by decide) h.data)).app (sm_wtruth (by decide))).app (sm_mailW _ 0 h.ms (by show 0 + 8 ≤ 100; omega))
theorem sm_headW {e : Ev} (h : e.ok) : Sm (headW e) :=
  Sm.cons (sm_itoa h.hart0 h.hart1) (Sm.cons (sm_or (sm_kindName _)) (Sm.cons (sm_itoa h.from0 h.from1) (Sm.cons (sm_itoa h.at0 h.at1) (Sm.cons (sm_itoa h.to0 h.to1) Sm.nil))))
theorem small_line (e : Ev) (h : e.ok) : Sm (lineW e) := ((sm_headW h).app (sm_askW h.ask)).app (sm_ansW h.ans)
theorem entW_len (q : En) : (entW q).length ≤ 5 := by unfold entW; split <;> simp
theorem askW_len (a : Ak) : (askW a).length ≤ 27 :=
  app_len (app_len (app_len (app_len (app_len (app_len (app_len (app_len (app_len (app_len (wnum_len nAddr a.addr) (wnum_len nNext a.next)) (wint_len nCut a.cut)) (wint_len nSize a.size)) (opW_len a.op)) (wnum_len nData a.data)) (wnum_len nOld a.old)) (wtruth_len nLive a.live)) (wint_len nTo a.hart)) (reqW_len a.req)) (entW_len a.ent)
theorem ansW_len (b : An) : (ansW b).length ≤ 45 := by
  unfold ansW; split
  · simp
  · exact app_len (app_len (app_len (Nat.le_refl 1 : [nArrow].length ≤ 1) (wnum_len nData b.data)) (wtruth_len nGood b.good)) (mailW_len b.ms 0)
theorem line_x (hp : Pow h) (e : Ev) (he : e.ok) (hk : K (.string (bs (Lib.join (lineW e) [32]))) h) : X Tryz.prog 12 #[.agg e.cs.toArray] h K := by
  refine X.forget ?_
  have hk' : ∀ h' : Hp, h.le h' → (∃ g : Hp, g.le h' ∧ K (.string (bs (Lib.join (lineW e) [32]))) g) := fun h' hle => ⟨h, hle, hk⟩
  clear hk
  refine fnv (args := _) mixed [] [] [14] Tryz.func12 rfl (by kernel_rfl) ?_
  conv => whnf
  refine new_intro (o := rowO 53 e.cs) (fun b h1 n_b le_b at_b ot_b => ?_)
  conv => whnf
  refine new_intro (o := rowO 83 [.slice none 0 0]) (fun w h2 n_w le_w at_w ot_w => ?_)
  conv => whnf
  have hw2 : Wds h1 h2 w [] := ⟨_, none, at_w, Gr.nil, le_w, n_w, fun c hc => by cases hc⟩
  have hp1 := hp.le le_b
  have b2 := le_w b _ at_b
  refine ⟨fun h' => h' b = some (rowO 53 e.cs), fun _ _ hh hle => hle _ _ hh, b2, ?_⟩
  conv => whnf
  refine ⟨_, loadC (i := 0) aggIn b2 rfl, ?_⟩
  conv => whnf
  refine itoaA_x (hp1.le le_w) e.hart he.hart0 he.hart1 ?_
  refine ⟨b2, ?_⟩
  conv => whnf
  refine ⟨_, fun h' hh => loadCA (k := 1) (by rw [addr_add, addr_add]; rfl) aggKi hh rfl, ?_⟩
  conv => whnf
  refine ename_x _ ?_
  refine ⟨b2, ?_⟩
  conv => whnf
  refine or_x _ ?_
  refine ⟨b2, ?_⟩
  conv => whnf
  refine new_intro (o := rowO 9 [sv (Lib.itoa e.hart), sv (orW (kindName e.ask.kind))]) (fun y h3 n_y le_y at_y ot_y => ?_)
  conv => whnf
  refine putB (ys := [Lib.itoa e.hart, orW (kindName e.ask.kind)]) hw2 n_y le_y at_y (by simp) fun h4 hw4 => ?_
  refine ⟨hw4.le _ _ at_b, ?_⟩
  conv => whnf
  refine ⟨_, loadC (i := 62) aggIn (hw4.le _ _ at_b) rfl, ?_⟩
  conv => whnf
  refine ⟨_, loadC (i := 63) aggIn (hw4.le _ _ at_b) rfl, ?_⟩
  conv => whnf
  refine ⟨_, loadC (i := 64) aggIn (hw4.le _ _ at_b) rfl, ?_⟩
  conv => whnf
  refine loop_step ?_
  conv => whnf
  refine itoaA_x (hp1.le hw4.le) e.from_ he.from0 he.from1 ?_
  conv => whnf
  refine new_intro (o := rowO 9 [sv (Lib.itoa e.from_)]) (fun y0 k0 n_y0 le_y0 at_y0 ot_y0 => ?_)
  conv => whnf
  refine putB (ys := [Lib.itoa e.from_]) hw4 n_y0 le_y0 at_y0 (by simp) fun h5 hw5 => ?_
  conv => whnf
  first | refine ov_i64 (by omega) ?_ | refine ov_u64 (by omega) ?_ | refine ov_i64 (by decide) ?_ | refine ov_u64 (by decide) ?_ | refine ov_u8 (by omega) ?_ | refine ov_i32 (by omega) ?_ | refine ov_u32 (by omega) ?_
  conv => whnf
  refine loop_step ?_
  conv => whnf
  refine itoaA_x (hp1.le hw5.le) e.at_ he.at0 he.at1 ?_
  conv => whnf
  refine new_intro (o := rowO 9 [sv (Lib.itoa e.at_)]) (fun y1 k1 n_y1 le_y1 at_y1 ot_y1 => ?_)
  conv => whnf
  refine putB (ys := [Lib.itoa e.at_]) hw5 n_y1 le_y1 at_y1 (by simp) fun h6 hw6 => ?_
  conv => whnf
  first | refine ov_i64 (by omega) ?_ | refine ov_u64 (by omega) ?_ | refine ov_i64 (by decide) ?_ | refine ov_u64 (by decide) ?_ | refine ov_u8 (by omega) ?_ | refine ov_i32 (by omega) ?_ | refine ov_u32 (by omega) ?_
  conv => whnf
  refine loop_step ?_
  conv => whnf
  refine itoaA_x (hp1.le hw6.le) e.to he.to0 he.to1 ?_
  conv => whnf
  refine new_intro (o := rowO 9 [sv (Lib.itoa e.to)]) (fun y2 k2 n_y2 le_y2 at_y2 ot_y2 => ?_)
  conv => whnf
  refine putB (ys := [Lib.itoa e.to]) hw6 n_y2 le_y2 at_y2 (by simp) fun h7 hw7 => ?_
  conv => whnf
  first | refine ov_i64 (by omega) ?_ | refine ov_u64 (by omega) ?_ | refine ov_i64 (by decide) ?_ | refine ov_u64 (by decide) ?_ | refine ov_u8 (by omega) ?_ | refine ov_i32 (by omega) ?_ | refine ov_u32 (by omega) ?_
  conv => whnf
  refine loop_step ?_
  conv => whnf
  have hw7 : Wds h1 h7 w (headW e) := hw7
  refine ⟨_, loadP (k := 1) (x := e.ask.cs) aggAk sizAk (hw7.le _ _ at_b) rfl rfl, ?_⟩
  conv => whnf
  refine ask_x hp1 hw7 (by show (5 : Nat) ≤ 100; omega) e.ask he.ask fun h8 hw8 => ?_
  have l5 : (headW e).length ≤ 5 := Nat.le_refl 5
  have l8 := app_len l5 (askW_len e.ask)
  conv => whnf
  refine ⟨_, loadP (k := 20) (x := e.ans.cs) aggAn sizAn (hw8.le _ _ at_b) rfl rfl, ?_⟩
  conv => whnf
  refine answer_x hp1 hw8 (Nat.le_trans l8 (by decide)) e.ans he.ans fun h9 hw9 => ?_
  have l9 := app_len l8 (ansW_len e.ans)
  obtain ⟨s, ob, g1, g2, g3, g4, g5⟩ := hw9
  have hlw : (headW e ++ askW e.ask ++ ansW e.ans).length ≤ 200 := Nat.le_trans l9 (by decide)
  obtain ⟨_, ⟨_, _, e0⟩ | ⟨g, cap, rest, rfl, rfl, hcap, _, hg⟩⟩ := g2
  · exact absurd e0 (by rw [List.length_append, List.length_append]; show 5 + _ + _ ≠ 0; omega)
  have hsm : ∀ x ∈ lineW e, x.length ≤ 64 := small_line e he
  conv => whnf
  refine ⟨_, loadC0 aggS0 g1 rfl, ?_⟩
  conv => whnf
  refine join_x g 0 cap (lineW e) [32] (fun j x hj => ?_) ⟨_, hg⟩ (Nat.le_trans hlw (by decide)) hcap (join_len hsm (Nat.le_trans hlw (by decide))) ?_
  · rw [Nat.zero_add]
    exact cell_row hg (by rw [List.getElem?_append_left (by rw [List.length_map]; exact (List.getElem?_eq_some_iff.1 hj).1), List.getElem?_map]; unfold lineW at hj; rw [hj]; rfl)
  conv => whnf
  exact hk' _ (Hp.le_trans le_b g3)
end
end Go.Proofs.YtcmhfofmloiaiaaGreatDoor
