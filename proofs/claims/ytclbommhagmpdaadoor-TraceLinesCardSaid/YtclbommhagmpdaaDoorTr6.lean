/-
  Logs in words: the text, the statement.
-/
import Derived.Test.YtclbommhagmpdaaDoorTr5
import Derived.Test.YtclbommhagmpdaaDoorLibC
import Derived.Test.YtclbommhagmpdaaDoorMidY
import Derived.Test.YtclbommhagmpdaaDoorRows
import Derived.LaidMore
import Derived.LaidSub
import Derived.MakeChecks
import Derived.Lib.LaidTab
namespace Go.Proofs.YtclbommhagmpdaaDoor
set_option linter.unusedSimpArgs false
set_option linter.unusedVariables false
open Go Go.Mid Go.RowKit
attribute [local irreducible] mid
section
set_option maxHeartbeats 8000000
set_option maxRecDepth 10000
variable {h : Hp} {K : Value → Hp → Prop}
abbrev shRq : Sh := .struct [.bool, .bool, .bool, (.int .u64), (.int .i64)]
abbrev shEn : Sh := .struct [(.int .i64), (.int .u64), (.int .i64), (.int .u64)]
abbrev shAk : Sh := .struct [(.int .i64), (.int .u64), (.int .u64), (.int .i64), (.int .i64), (.int .i64), (.int .u64), (.int .u64), .bool, (.int .i64), shRq, shEn]
abbrev shAn : Sh := .struct [(.int .u64), .bool, (.array 8 shRq)]
abbrev shEv : Sh := .struct [(.int .i64), shAk, shAn, (.int .i64), (.int .i64), (.int .i64)]
theorem rq_of {cs : List Value} (w : Wf h shRq cs) : ∃ q : Rq, q.ok ∧ cs = q.cs := by
  obtain ⟨a1, b1, rfl, w1, w⟩ := wfC (wfS w)
  obtain ⟨a2, b2, rfl, w2, w⟩ := wfC w
  obtain ⟨a3, b3, rfl, w3, w⟩ := wfC w
  obtain ⟨a4, b4, rfl, w4, w⟩ := wfC w
  obtain ⟨a5, b5, rfl, w5, w⟩ := wfC w
  obtain rfl := wfN w
  obtain ⟨x1, rfl⟩ := wfB w1
  obtain ⟨x2, rfl⟩ := wfB w2
  obtain ⟨x3, rfl⟩ := wfB w3
  obtain ⟨x4, rfl, p4⟩ := wfU w4
  obtain ⟨x5, rfl, p5, q5⟩ := wfI w5
  exact ⟨⟨x1, x2, x3, x4, x5⟩, ⟨p4, p5, q5⟩, rfl⟩
theorem en_of {cs : List Value} (w : Wf h shEn cs) : ∃ q : En, q.ok ∧ cs = q.cs := by
  obtain ⟨a1, b1, rfl, w1, w⟩ := wfC (wfS w)
  obtain ⟨a2, b2, rfl, w2, w⟩ := wfC w
  obtain ⟨a3, b3, rfl, w3, w⟩ := wfC w
  obtain ⟨a4, b4, rfl, w4, w⟩ := wfC w
  obtain rfl := wfN w
  obtain ⟨x1, rfl, p1, q1⟩ := wfI w1
  obtain ⟨x2, rfl, p2⟩ := wfU w2
  obtain ⟨x3, rfl, p3, q3⟩ := wfI w3
  obtain ⟨x4, rfl, p4⟩ := wfU w4
  exact ⟨⟨x1, x2, x3, x4⟩, ⟨p1, q1, p2, p3, q3, p4⟩, rfl⟩
theorem ak_of {cs : List Value} (w : Wf h shAk cs) : ∃ q : Ak, q.ok ∧ cs = q.cs := by
  obtain ⟨a1, b1, rfl, w1, w⟩ := wfC (wfS w)
  obtain ⟨a2, b2, rfl, w2, w⟩ := wfC w
  obtain ⟨a3, b3, rfl, w3, w⟩ := wfC w
  obtain ⟨a4, b4, rfl, w4, w⟩ := wfC w
  obtain ⟨a5, b5, rfl, w5, w⟩ := wfC w
  obtain ⟨a6, b6, rfl, w6, w⟩ := wfC w
  obtain ⟨a7, b7, rfl, w7, w⟩ := wfC w
  obtain ⟨a8, b8, rfl, w8, w⟩ := wfC w
  obtain ⟨a9, b9, rfl, w9, w⟩ := wfC w
  obtain ⟨a10, b10, rfl, w10, w⟩ := wfC w
  obtain ⟨a11, b11, rfl, w11, w⟩ := wfC w
  obtain ⟨a12, b12, rfl, w12, w⟩ := wfC w
  obtain rfl := wfN w
  obtain ⟨x1, rfl, p1, q1⟩ := wfI w1
  obtain ⟨x2, rfl, p2⟩ := wfU w2
  obtain ⟨x3, rfl, p3⟩ := wfU w3
  obtain ⟨x4, rfl, p4, q4⟩ := wfI w4
  obtain ⟨x5, rfl, p5, q5⟩ := wfI w5
  obtain ⟨x6, rfl, p6, q6⟩ := wfI w6
  obtain ⟨x7, rfl, p7⟩ := wfU w7
  obtain ⟨x8, rfl, p8⟩ := wfU w8
  obtain ⟨x9, rfl⟩ := wfB w9
  obtain ⟨x10, rfl, p10, q10⟩ := wfI w10
  obtain ⟨x11, p11, rfl⟩ := rq_of w11
  obtain ⟨x12, p12, rfl⟩ := en_of w12
  exact ⟨⟨x1, x2, x3, x4, x5, x6, x7, x8, x9, x10, x11, x12⟩, ⟨p2, p3, p4, q4, p5, q5, p7, p8, p10, q10, p11, p12⟩, by simp [Ak.cs]⟩
theorem an_of {cs : List Value} (w : Wf h shAn cs) : ∃ q : An, q.ok ∧ cs = q.cs := by
  obtain ⟨a1, b1, rfl, w1, w⟩ := wfC (wfS w)
  obtain ⟨a2, b2, rfl, w2, w⟩ := wfC w
  obtain ⟨a3, b3, rfl, w3, w⟩ := wfC w
  obtain rfl := wfN w
  obtain ⟨x1, rfl, p1⟩ := wfU w1
  obtain ⟨x2, rfl⟩ := wfB w2
  obtain ⟨l, hl, ho, rfl⟩ := wfA (fun _ => rq_of) w3
  match l, hl with
  | [m0, m1, m2, m3, m4, m5, m6, m7], _ => exact ⟨⟨x1, x2, m0, m1, m2, m3, m4, m5, m6, m7⟩, ⟨p1, ho⟩, by simp [An.cs, An.ms]⟩
theorem ev_of {cs : List Value} (w : Wf h shEv cs) : ∃ q : Ev, q.ok ∧ cs = q.cs := by
  obtain ⟨a1, b1, rfl, w1, w⟩ := wfC (wfS w)
  obtain ⟨a2, b2, rfl, w2, w⟩ := wfC w
  obtain ⟨a3, b3, rfl, w3, w⟩ := wfC w
  obtain ⟨a4, b4, rfl, w4, w⟩ := wfC w
  obtain ⟨a5, b5, rfl, w5, w⟩ := wfC w
  obtain ⟨a6, b6, rfl, w6, w⟩ := wfC w
  obtain rfl := wfN w
  obtain ⟨x1, rfl, p1, q1⟩ := wfI w1
  obtain ⟨x2, p2, rfl⟩ := ak_of w2
  obtain ⟨x3, p3, rfl⟩ := an_of w3
  obtain ⟨x4, rfl, p4, q4⟩ := wfI w4
  obtain ⟨x5, rfl, p5, q5⟩ := wfI w5
  obtain ⟨x6, rfl, p6, q6⟩ := wfI w6
  exact ⟨⟨x1, x2, x3, x4, x5, x6⟩, ⟨p1, q1, p2, p3, p4, q4, p5, q5, p6, q6⟩, by simp [Ev.cs]⟩
theorem aggEv : isAggT Tryd.prog 38 = some true := by kernel_rfl
theorem sizEv : sizeT Tryd.prog 38 = some 65 := by kernel_rfl
/-- s reads the events L. -/
abbrev RdE (h : Hp) (s : Value) (L : List Ev) : Prop := Rd Tryd.prog 38 65 h s (L.map fun e => Value.agg e.cs.toArray)
theorem rdE {s : Value} {L : List Ev} (r : RdE h s L) : ∃ base cap, s = .slice base L.length cap ∧ ∀ i x, L[i]? = some x → ∃ a, base = some a ∧ loadH Tryd.prog 38 h (a.add (i * 65)) = some (.agg x.cs.toArray) := by
  obtain ⟨base, cap, e, f⟩ := r
  refine ⟨base, cap, by rw [e]; simp, fun i x hx => f i _ ?_⟩
  rw [List.getElem?_map, hx]; rfl
theorem ev_len (e : Ev) : e.cs.length = 65 := by simp [Ev.cs, Ak.cs, An.cs, An.ms]
theorem ev_one (e : Ev) : e.cs.all Value.oneCell' = true := by simp [Ev.cs, Ak.cs, An.cs, An.ms, Value.oneCell']
def textS (L : List Ev) : Str := L.flatMap fun e => J (lineW e) ++ [10]
theorem lineW_wk {e : Ev} (h : e.ok) : Wk (lineW e) (5 + 27 + 45) := ((wk0 h).app (sm_askW h.ask) (askW_len _)).app (sm_ansW h.ans) (ansW_len _)
theorem lineW_len {e : Ev} (h : e.ok) : (J (lineW e)).length ≤ 13064 := (lineW_wk h).J (by decide)
theorem textS_len : ∀ (L : List Ev), (∀ e ∈ L, e.ok) → (textS L).length ≤ 13065 * L.length
  | [], _ => by simp [textS]
  | e :: L, h => by
    have h1 := lineW_len (h e (by simp))
    have h2 := textS_len L fun x hx => h x (by simp [hx])
    unfold textS at h2 ⊢
    rw [List.flatMap_cons]
    simp only [List.length_append, List.length_cons, List.length_nil, Nat.mul_succ]
    omega
theorem textS_take {L : List Ev} {i : Nat} {e : Ev} (he : L[i]? = some e) : textS (L.take (i + 1)) = textS (L.take i) ++ J (lineW e) ++ [10] := by
  rw [List.take_add_one, he]
  show textS (L.take i ++ [e]) = _
  unfold textS
  rw [List.flatMap_append, List.flatMap_cons, List.flatMap_nil, List.append_nil, List.append_assoc]
theorem liesB : liesAt Tryd.prog Tryd.prog.depth 119 (2 / Tryd.prog.cellsOf 119) 0 119 1 = true := by kernel_rfl
theorem itoa_ne (n : Int) : Lib.itoa n ≠ [] := by
  have hd : ∀ u, Lib.decDigits u ≠ [] := fun u e => by
    have h1 := Lib.decDigits_length u
    rw [e] at h1
    have h2 := Lib.nDigits_pos u
    simp at h1
    omega
  unfold Lib.itoa
  split
  · simp
  · exact hd _
theorem J_ne {e : Ev} : J (lineW e) ≠ [] := fun hh => by
  have : J (lineW e) = Lib.itoa e.hart ++ tl ([orW (kindName e.ask.kind), Lib.itoa e.from_, Lib.itoa e.at_, Lib.itoa e.to] ++ askW e.ask ++ ansW e.ans) := join_tl _ _
  rw [this] at hh
  exact itoa_ne _ (List.append_eq_nil_iff.1 hh).1
theorem text_x (hp : Pow h) (s : Value) (L : List Ev) (hr : RdE h s L) (hok : ∀ e ∈ L, e.ok) (hL : L.length ≤ 60) (hk : K (.string (bs (textS L))) h) : X Tryd.prog 11 #[s] h K := by
  refine X.forget ?_
  have hk' : ∀ h' : Hp, h.le h' → (∃ g : Hp, g.le h' ∧ K (.string (bs (textS L))) g) := fun h' hle => ⟨h, hle, hk⟩
  clear hk
  have hr0 := hr
  obtain ⟨base, cap, rfl, f⟩ := rdE hr0
  refine fnv (args := _) mixed [] [] [] Tryd.func11 rfl (by kernel_rfl) ?_
  conv => whnf
  refine new_intro (o := rowO 119 [.pointer none, .slice none 0 0]) (fun b h1 n_b le_b at_b ot_b => ?_)
  conv => whnf
  have hB1 := Bds.of (k := h) le_b n_b at_b
  refine loop_at [8] [] (fun r vs _ h' => ∃ i : Nat, i ≤ L.length ∧ r = L.length - i ∧ vs = [.v (.int .i64 i)] ∧ Bds 119 h h' b (textS (L.take i))) L.length ⟨0, by omega, by omega, rfl, hB1⟩ ?_
  rintro r vs cs mm bx h2 ⟨i, hi, rfl, rfl, hB2⟩
  have lenI := textS_len (L.take i) fun x hx => hok x (List.mem_of_mem_take hx)
  have lenI2 : (L.take i).length ≤ 60 := Nat.le_trans (List.length_take_le _ _) (by omega)
  have lenI3 : (textS (L.take i)).length ≤ 13065 * 60 := Nat.le_trans lenI (Nat.mul_le_mul_left _ lenI2)
  conv => whnf
  refine bsel_intro (fun q1 => ?_) (fun q1 => ?_) <;> try simp only [decide_eq_true_eq, decide_eq_false_iff_not, beq_iff_eq, beq_eq_false_iff_ne, ne_eq, Bool.not_eq_true', Bool.not_eq_false', bne_iff_ne, bne_eq_false_iff_eq, Bool.not_eq_true, Bool.not_eq_false, Bool.and_eq_true, Bool.or_eq_true, bs_size] at q1
  · have hil : i < L.length := by omega
    obtain ⟨e, he⟩ : ∃ e, L[i]? = some e := ⟨_, List.getElem?_eq_getElem hil⟩
    have heo := hok e (List.mem_of_getElem? he)
    have hst := textS_take he
    have hle := lineW_len heo
    obtain ⟨a, rfl, e1⟩ := f i e he
    conv => whnf
    first | refine need_intro (⟨by omega, by omega⟩) ?_ | refine must.mk (⟨by omega, by omega⟩) ?_
    conv => whnf
    have e2 : loadH Tryd.prog 38 h2 (a.add (((i : Int)).toNat * 65)) = some (.agg e.cs.toArray) := by rw [show ((i : Int)).toNat = i by omega]; exact loadH_le hB2.le e1
    refine ⟨_, e2, ?_⟩
    conv => whnf
    refine new_intro (o := _) (fun z h3 n_z le_z at_z ot_z => ?_)
    conv => whnf
    refine wr_intro (by exact storeA0 (z := .agg e.cs.toArray) sizEv at_z rfl (ev_len e) (ev_one e)) (fun h4 at_h4 ot_h4 => ?_)
    try (conv => whnf)
    have le24 : h2.le h4 := Hp.le_st n_z le_z ot_h4
    have hB4 := hB2.up le24
    conv => whnf
    refine ⟨_, loadA0 aggEv sizEv at_h4 (ev_len e), ?_⟩
    conv => whnf
    refine line_x (hp.le hB4.le) e heo ?_
    conv => whnf
    refine hB4.ws liesB (J (lineW e)) J_ne (by omega) fun h5 hB5 => ?_
    conv => whnf
    refine hB5.wb liesB 10 (by rw [List.length_append]; omega) fun h6 hB6 => ?_
    rw [← hst] at hB6
    conv => whnf
    first | refine ov_i64 (by omega) ?_ | refine ov_u64 (by omega) ?_ | refine ov_i64 (by decide) ?_ | refine ov_u64 (by decide) ?_ | refine ov_u8 (by omega) ?_ | refine ov_i32 (by omega) ?_ | refine ov_u32 (by omega) ?_
    conv => whnf
    exact ⟨L.length - (i + 1), by omega, i + 1, by omega, rfl, rfl, hB6⟩
  · have : i = L.length := by omega
    subst this
    rw [List.take_length] at hB2 lenI3
    conv => whnf
    refine hB2.str (by omega) fun h7 hle => ?_
    conv => whnf
    exact hk' _ hle
abbrev exEv : Ev := ⟨1, ⟨2, 64, 0, 0, 4, 0, 0, 0, false, 0, Rq.zero, En.zero⟩, ⟨5, false, Rq.zero, Rq.zero, Rq.zero, Rq.zero, Rq.zero, Rq.zero, Rq.zero, Rq.zero⟩, 1, 2, 3⟩
theorem rq0_ok : Rq.zero.ok := ⟨by decide, by decide, by decide⟩
theorem exEv_ok : exEv.ok := ⟨by decide, by decide, ⟨by decide, by decide, by decide, by decide, by decide, by decide, by decide, by decide, by decide, by decide, rq0_ok, ⟨by decide, by decide, by decide, by decide, by decide, by decide⟩⟩, ⟨by decide, fun q hq => by
  have : q = Rq.zero := by simpa [An.ms] using hq
  rw [this]; exact rq0_ok⟩, by decide, by decide, by decide, by decide, by decide, by decide⟩
theorem exLine : J (lineW exEv) = [49, 32, 108, 111, 97, 100, 32, 49, 32, 50, 32, 51, 32, 97, 100, 100, 114, 32, 54, 52, 32, 115, 105, 122, 101, 32, 52, 32, 45, 62, 32, 100, 97, 116, 97, 32, 53] := by
  decide +kernel
theorem live46_x (hp : Pow h) (hk : K (.bool true) h) : X Tryd.prog 8 #[] h K := by
  refine X.forget ?_
  refine fnv (args := _) mixed [] [] [] Tryd.func8 rfl (by kernel_rfl) ?_
  conv => whnf
  refine big_by (v := .agg exEv.ask.cs.toArray) (by kernel_rfl) ?_
  conv => whnf
  refine big_by (v := .agg exEv.ans.cs.toArray) (by kernel_rfl) ?_
  conv => whnf
  refine big_by (v := .agg exEv.cs.toArray) (by kernel_rfl) ?_
  conv => whnf
  refine new_intro (o := _) (fun b h1 n_b le_b at_b ot_b => ?_)
  conv => whnf
  refine wr_intro (by exact storeA0 (z := .agg exEv.cs.toArray) sizEv at_b rfl (ev_len exEv) (ev_one exEv)) (fun h2 at_h2 ot_h2 => ?_)
  try (conv => whnf)
  have hle := Hp.le_st n_b le_b ot_h2
  conv => whnf
  refine ⟨_, loadA0 aggEv sizEv at_h2 (ev_len exEv), ?_⟩
  conv => whnf
  refine line_x (hp.le hle) exEv exEv_ok ?_
  conv => whnf
  refine seq_true (exLine) ?_
  conv => whnf
  exact ⟨h, hle, hk⟩
theorem lines_x (hp : Pow h) (s : Value) (L : List Ev) (hr : RdE h s L) (hok : ∀ e ∈ L, e.ok) (hk : K (.bool true) h) : X Tryd.prog 3 #[s] h K := by
  have hr0 := hr
  obtain ⟨base, cap, rfl, f⟩ := rdE hr0
  refine fnv (args := _) mixed [] [] [] Tryd.func3 rfl (by kernel_rfl) ?_
  conv => whnf
  refine bsel_intro (fun q0 => ?_) (fun q0 => ?_) <;> try simp only [decide_eq_true_eq, decide_eq_false_iff_not, beq_iff_eq, beq_eq_false_iff_ne, ne_eq, Bool.not_eq_true', Bool.not_eq_false', bne_iff_ne, bne_eq_false_iff_eq, Bool.not_eq_true, Bool.not_eq_false, Bool.and_eq_true, Bool.or_eq_true, bs_size] at q0
  · conv => whnf
    refine live46_x hp ?_
    conv => whnf
    exact hk
  have hL : L.length ≤ 60 := by omega
  conv => whnf
  refine loop_at [4, 3] [] (fun r vs _ h' => h = h' ∧ ∃ i : Nat, i ≤ L.length ∧ r = L.length - i ∧ vs = [.v (.int .i64 i), .v (.string (bs (textS (L.take i))))]) L.length ⟨rfl, 0, by omega, by omega, rfl⟩ ?_
  rintro r vs cs mm bx _ ⟨rfl, i, hi, rfl, rfl⟩
  have lenI := textS_len (L.take i) fun x hx => hok x (List.mem_of_mem_take hx)
  have lenI2 : (L.take i).length ≤ 60 := Nat.le_trans (List.length_take_le _ _) (by omega)
  have lenI3 : (textS (L.take i)).length ≤ 13065 * 60 := Nat.le_trans lenI (Nat.mul_le_mul_left _ lenI2)
  conv => whnf
  refine bsel_intro (fun q1 => ?_) (fun q1 => ?_) <;> try simp only [decide_eq_true_eq, decide_eq_false_iff_not, beq_iff_eq, beq_eq_false_iff_ne, ne_eq, Bool.not_eq_true', Bool.not_eq_false', bne_iff_ne, bne_eq_false_iff_eq, Bool.not_eq_true, Bool.not_eq_false, Bool.and_eq_true, Bool.or_eq_true, bs_size] at q1
  · have hil : i < L.length := by omega
    obtain ⟨e, he⟩ : ∃ e, L[i]? = some e := ⟨_, List.getElem?_eq_getElem hil⟩
    have heo := hok e (List.mem_of_getElem? he)
    have hst := textS_take he
    have hle := lineW_len heo
    obtain ⟨a, rfl, e1⟩ := f i e he
    have e2 : loadH Tryd.prog 38 h (a.add (((i : Int)).toNat * 65)) = some (.agg e.cs.toArray) := by rw [show ((i : Int)).toNat = i by omega]; exact e1
    conv => whnf
    first | refine need_intro (⟨by omega, by omega⟩) ?_ | refine must.mk (⟨by omega, by omega⟩) ?_
    conv => whnf
    refine ⟨_, e2, ?_⟩
    conv => whnf
    refine rline_x e heo ?_
    conv => whnf
    first | refine need_intro (⟨by omega, by omega⟩) ?_ | refine must.mk (⟨by omega, by omega⟩) ?_
    conv => whnf
    refine ⟨_, e2, ?_⟩
    conv => whnf
    refine line_x hp e heo ?_
    conv => whnf
    refine seq_true (rfl) ?_
    conv => whnf
    refine cat_by (m := textS (L.take i) ++ J (lineW e)) (by omega) rfl ?_
    conv => whnf
    refine cat_by (m := textS (L.take (i + 1))) (by simp; omega) hst.symm ?_
    conv => whnf
    first | refine ov_i64 (by omega) ?_ | refine ov_u64 (by omega) ?_ | refine ov_i64 (by decide) ?_ | refine ov_u64 (by decide) ?_ | refine ov_u8 (by omega) ?_ | refine ov_i32 (by omega) ?_ | refine ov_u32 (by omega) ?_
    conv => whnf
    exact ⟨L.length - (i + 1), by omega, rfl, i + 1, by omega, rfl, rfl⟩
  · have : i = L.length := by omega
    subst this
    rw [List.take_length]
    conv => whnf
    refine text_x hp _ L hr hok hL ?_
    conv => whnf
    refine seq_true (rfl) ?_
    conv => whnf
    refine live46_x hp ?_
    conv => whnf
    exact hk
theorem pow_of {w : World} {l : List (String × DataW Unit)} (hm : laidMetH Tryd.prog l w) (hl : l.filter (fun x => x.1 == "internal/strconv.uint64pow10") = [("internal/strconv.uint64pow10", Lib.tabData .u64 Lib.pow10Tab)]) : Pow (whole w) := by
  have h1 := laidMetH.filter (fun x => x.1 == "internal/strconv.uint64pow10") hm
  rw [hl, MakeChecks.laidMetH_plain _ _ _ (by decide +kernel)] at h1
  exact Pow.of (Lib.tabIs_of_head powG (t := (Tryd.prog.globals[0]?.map (·.type)).getD 0) (e := 26) (n := 20) (by kernel_rfl) (by kernel_rfl) (by kernel_rfl) (by kernel_rfl) (by kernel_rfl) h1)
theorem traceLines_w (w : World) (hL : laidMetH Tryd.prog Rows.traceLinesRow.laid w) {cs0 : List Value} (w0 : Wf (whole w) (.slice shEv) cs0) (l0 : cs0.length = Sh.n (.slice shEv)) :
    X Tryd.prog 3 #[Sh.v (.slice shEv) cs0] (whole w) fun v h' => v = .bool true ∧ (whole w).le h' := by
  have hs := slice_of (P := Tryd.prog) (t := 38) (n := 65) (ok := Ev.ok) (cells := Ev.cs) aggEv sizEv (by decide) rfl (fun es hw => ev_of hw) w0
  obtain ⟨a, cap, L, rfl, _, hok, hL2⟩ := hs
  have hr : RdE (whole w) (.slice a L.length cap) L := ⟨a, cap, by rw [List.length_map], fun i v hv => by
    rw [List.getElem?_map] at hv
    cases hx : L[i]? with
    | none => rw [hx] at hv; cases hv
    | some x => rw [hx] at hv; cases hv; exact hL2 i x hx⟩
  exact lines_x (pow_of hL (by rfl)) (.slice a L.length cap) L hr hok ⟨rfl, Hp.le_refl _⟩
end
end Go.Proofs.YtclbommhagmpdaaDoor
