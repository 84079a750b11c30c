/-
  Behind a forget nothing is left that it would forget: the walk of TlbForgets.
-/
import Derived.Test.YteapmakpbmmleaaTlbd
namespace Go.Proofs.Yteapmakpbmmleaa
set_option linter.unusedSimpArgs false
set_option linter.unusedVariables false
open Go Go.Mid Go.RowKit
/-- A cache in a piece g of the heap, apart from p. -/
structure AtP (h p : Hp) (c : Nat) (size : Int) (L : List En) (g : Hp) : Prop where
  good : Good size L
  hg : g.le h
  hp : p.le h
  ap : Apart p g
  ht : TlbH g c size L
theorem add_p {h p : Hp} {c : Nat} {size : Int} {L : List En} {g : Hp} (a : AtP h p c size L g) {e : En} (he : e.ok) (K : Value → Hp → Prop)
    (hk : ∀ h' g', AtP h' p c size (if validE e then addI size L e else L) g' → K (.bool (decide (validE e))) h') :
    X Try.prog 8 #[.pointer (some ⟨c, 0, none⟩), e.v] h K := by
  by_cases hv : validE e
  · rw [if_pos hv, decide_eq_true hv] at hk
    refine X.frame a.hg (add_x a.good he hv g (fun v g' => TlbH g' c size (addI size L e) ∧ v = .bool true) a.ht (fun g' tg => ⟨tg, rfl⟩)) (fun v g' h' hp u => ?_)
    obtain ⟨tg, rfl⟩ := hp
    have o := u.other a.hp a.ap
    exact hk h' g' ⟨good_add a.good he hv, u.le, o.1, o.2, tg⟩
  · rw [if_neg hv, decide_eq_false hv] at hk
    exact addBad_x hv h K (hk h g a)
theorem forget_p {h p : Hp} {c : Nat} {size : Int} {L : List En} {g : Hp} (a : AtP h p c size L g) {r : Rq} (hr : r.ok) (K : Value → Hp → Prop)
    (hk : ∀ h' g', AtP h' p c size (L.filter (fun e => !forgI r e)) g' → K (.int .i64 ((L.length : Int) - (L.filter (fun e => !forgI r e)).length)) h') :
    X Try.prog 9 #[.pointer (some ⟨c, 0, none⟩), r.v] h K := by
  refine X.frame a.hg (forget_x a.good hr g (fun v g' => TlbH g' c size (L.filter (fun e => !forgI r e)) ∧ v = .int .i64 ((L.length : Int) - (L.filter (fun e => !forgI r e)).length)) a.ht (fun g' tg => ⟨tg, rfl⟩)) (fun v g' h' hp u => ?_)
  obtain ⟨tg, rfl⟩ := hp
  have o := u.other a.hp a.ap
  exact hk h' g' ⟨good_filter a.good _, u.le, o.1, o.2, tg⟩
/-- All of them, in a row that is apart from the cache. -/
theorem all_p {h p : Hp} {c : Nat} {size : Int} {L : List En} {g : Hp} (a : AtP h p c size L g) (K : Value → Hp → Prop)
    (hk : ∀ s h' p', AtP h' p' c size L g → p.le p' → RdE p' s L → K s h') :
    X Try.prog 10 #[.pointer (some ⟨c, 0, none⟩)] h K := by
  refine all2_x a.good h K (a.ht.le a.hg) fun s h' hle r => ?_
  let p' : Hp := fun b => match p b with
    | some o => some o
    | none => news h h' b
  have hnp : (news h h').le p' := fun b o e => by
    have : p b = none := by
      cases hb : p b with
      | none => rfl
      | some x => rw [news_apart h h' b x (a.hp b x hb)] at e; cases e
    show (match p b with | some o => some o | none => news h h' b) = some o
    rw [this]; exact e
  have hpp : p.le p' := fun b o e => by
    show (match p b with | some o => some o | none => news h h' b) = some o
    rw [e]
  have hle' : p'.le h' := fun b o e => by
    have e : (match p b with | some o => some o | none => news h h' b) = some o := e
    cases hb : p b with
    | some x => rw [hb] at e; rw [← e]; exact hle b x (a.hp b x hb)
    | none => rw [hb] at e; exact news_le h h' b o e
  have hap : Apart p' g := fun b o e => by
    have e : (match p b with | some o => some o | none => news h h' b) = some o := e
    cases hb : p b with
    | some x => exact a.ap b x hb
    | none =>
      rw [hb] at e
      cases hgb : g b with
      | none => rfl
      | some y => rw [news_apart h h' b y (a.hg b y hgb)] at e; cases e
  exact hk s h' p' ⟨a.good, Hp.le_trans a.hg hle, hle', hap, a.ht⟩ hpp (r.le hnp)
theorem found_added {size : Int} {L : List En} (g : Good size L) {e : En} (he : e.ok) (hv : validE e) : ∃ x, findI (addI size L e) e.asid e.page = some x ∧ x.level ≤ e.level := by
  have g2 := good_add g he hv
  have hmem : fixE e ∈ addI size L e := by unfold addI; simp
  have hm : mt (fixE e) e.asid e.page = true := by
    unfold mt
    have h1 : (fixE e).asid = e.asid := rfl
    have h2 := fixE_page e ⟨hv.1, hv.2.1⟩
    rw [h1, h2]
    simp [fixE]
  have hb := best_spec g2 e.asid e.page _ (Nat.le_refl _)
  rw [List.take_length] at hb
  have hf := find_eq g2 e.asid e.page
  cases hbb : bestI (addI size L e) e.asid e.page (addI size L e).length with
  | none =>
    rw [hbb] at hb
    rw [hb _ hmem] at hm; cases hm
  | some i =>
    rw [hbb] at hb hf
    obtain ⟨y, hy, _, hbest⟩ := hb
    obtain ⟨y', hy', hfy⟩ := hf
    rw [hy] at hy'; cases hy'
    refine ⟨y, hfy, ?_⟩
    rcases hbest _ hmem hm with h1 | h1
    · rw [← h1]; exact Int.le_refl _
    · unfold score at h1
      have hl : (fixE e).level = e.level := rfl
      split at h1 <;> split at h1 <;> omega
theorem filter_at {α : Type} (q : α → Bool) {L : List α} {i : Nat} (hi : i < L.length) (hq : q L[i] = true) : (L.filter q)[((L.take i).filter q).length]? = some L[i] := by
  have : L = L.take i ++ (L[i] :: L.drop (i + 1)) := by rw [← List.drop_eq_getElem_cons hi, List.take_append_drop]
  conv => lhs; arg 1; rw [this]
  rw [List.filter_append, List.getElem?_append_right (Nat.le_refl _), Nat.sub_self, List.filter_cons_of_pos hq]
  rfl
theorem filter_take_succ {α : Type} (q : α → Bool) {L : List α} {i : Nat} (hi : i < L.length) : ((L.take (i + 1)).filter q).length = ((L.take i).filter q).length + (if q L[i] then 1 else 0) := by
  rw [List.take_succ_eq_append_getElem hi, List.filter_append, List.length_append]
  by_cases h : q L[i] = true <;> simp [h]
section
set_option maxHeartbeats 8000000
set_option maxRecDepth 10000
theorem ldK {h : Hp} {a : Addr} {d : De} (hl : loadH Try.prog 29 h a = some d.v) : loadH Try.prog 3 h (a.add 0) = some (.int .i64 d.kind) := by
  rw [loadH_cell aggI]; exact loadH_cellOf (k := 0) tDeA tDeS hl rfl
theorem forgets_law (size : Int) (hsz : 0 ≤ size ∧ size < 256) {base : Option Addr} {cap : Nat} {D : List De} (hD : ∀ d ∈ D, d.ok) (hlen : D.length ≤ maxLen) (w0 : Hp)
    (hl : ∀ (i : Nat) (d : De), D[i]? = some d → ∃ b, base = some b ∧ loadH Try.prog 29 w0 (b.add (i * 10)) = some d.v) (o : De) (ho : o.ok) :
    X Try.prog 3 #[.int .u8 size, .slice base D.length cap, o.v] w0 fun v h' => v = .bool true ∧ w0.le h' := by
  have hs : 1 ≤ 1 + size.tmod 32 ∧ 1 + size.tmod 32 ≤ 32 := by rw [Int.tmod_eq_emod_of_nonneg hsz.1]; omega
  have g0 : Good (1 + size.tmod 32) [] := good_nil hs
  refine fnv (args := _) mixed [(5, 5), (72, 5), (83, 5), (122, 5), (128, 5), (135, 5), (138, 5), (148, 5), (136, 5), (139, 5), (149, 5), (15, 15), (146, 15)] [] [] Try.func3 rfl (by kernel_rfl) ?_
  conv => whnf
  refine ov_i64 (by omega) ?_
  conv => whnf
  refine ov_i64 (by omega) ?_
  conv => whnf
  generalize hz : 1 + size.tmod 32 = z at *
  refine X.frame (Hp.emp_le _) (new_x z Hp.emp (fun v g => ∃ c, v = .tuple #[.pointer (some ⟨c, 0, none⟩), .int .i64 0] ∧ TlbH g c z []) (fun hb => absurd hs (by omega)) (fun _ _ c g _ _ t _ => ⟨c, rfl, t⟩)) (fun v g h1 hp u => ?_)
  obtain ⟨c, rfl, t1⟩ := hp
  have hle1 : w0.le h1 := fun b o e => u.kept b o e rfl
  have ap1 : Apart w0 g := fun b o e => by
    cases hg : g b with
    | none => rfl
    | some x => have := u.new b x hg rfl; rw [e] at this; cases this
  conv => whnf
  refine bsel_intro (fun q1 => ?_) (fun q1 => ?_) <;> try simp only [decide_eq_true_eq, decide_eq_false_iff_not, beq_iff_eq, beq_eq_false_iff_ne, ne_eq, Bool.not_eq_true', Bool.not_eq_false', bne_iff_ne, bne_eq_false_iff_eq, Bool.not_eq_true, Bool.not_eq_false, Bool.and_eq_true, Bool.or_eq_true] at q1
  · conv => whnf
    refine live_x _ _ ?_
    conv => whnf
    exact ⟨rfl, hle1⟩
  have hl60 : D.length ≤ 60 := by omega
  conv => whnf
  refine loop_at [9] [5] (fun r vs cs h' => ∃ (j : Nat) (L : List En) (gt : Hp), j ≤ D.length ∧ r = D.length - j ∧ vs = [.v (.int .i64 j)] ∧ cs = [some o.cells] ∧ AtP h' w0 c z L gt) D.length
    ⟨0, [], g, by omega, by omega, rfl, rfl, ⟨g0, u.le, hle1, ap1, t1⟩⟩ ?_
  rintro r vs cs mm bx h' ⟨j, L, gt, hj, rfl, rfl, rfl, hB⟩
  conv => whnf
  refine bsel_intro (fun q2 => ?_) (fun q2 => ?_) <;> try simp only [decide_eq_true_eq, decide_eq_false_iff_not, beq_iff_eq, beq_eq_false_iff_ne, ne_eq, Bool.not_eq_true', Bool.not_eq_false', bne_iff_ne, bne_eq_false_iff_eq, Bool.not_eq_true, Bool.not_eq_false, Bool.and_eq_true, Bool.or_eq_true] at q2
  · have hjl : j < D.length := by omega
    have hget : D[j]? = some D[j] := List.getElem?_eq_getElem hjl
    have hok : D[j].ok := hD _ (List.getElem_mem hjl)
    obtain ⟨b, rfl, hb⟩ := hl j _ hget
    generalize D[j] = d at *
    conv => whnf
    first | refine need_intro (by omega) ?_ | refine must.mk (by omega) ?_
    conv => whnf
    refine ⟨_, loadH_le hB.hp (ldK hb), ?_⟩
    conv => whnf
    refine bsel_intro (fun q3 => ?_) (fun q3 => ?_) <;> try simp only [decide_eq_true_eq, decide_eq_false_iff_not, beq_iff_eq, beq_eq_false_iff_ne, ne_eq, Bool.not_eq_true', Bool.not_eq_false', bne_iff_ne, bne_eq_false_iff_eq, Bool.not_eq_true, Bool.not_eq_false, Bool.and_eq_true, Bool.or_eq_true] at q3
    · conv => whnf
      first | refine need_intro (by omega) ?_ | refine must.mk (by omega) ?_
      conv => whnf
      refine ⟨_, loadH_le hB.hp (ldE hb), ?_⟩
      conv => whnf
      refine add_p hB hok.1 _ (fun h2 g2 hB2 => ?_)
      conv => whnf
      first | refine need_intro (by omega) ?_ | refine must.mk (by omega) ?_
      conv => whnf
      refine ⟨_, loadH_le hB2.hp (ldK hb), ?_⟩
      conv => whnf
      refine bsel_false ?_ ?_
      · simp; omega
      conv => whnf
      first | refine ov_i64 (by omega) ?_ | refine ov_u64 (by omega) ?_ | refine ov_i64 (by decide) ?_ | refine ov_u64 (by decide) ?_ | refine ov_u8 (by omega) ?_ | refine ov_i32 (by omega) ?_ | refine ov_u32 (by omega) ?_
      conv => whnf
      exact ⟨D.length - (j + 1), by omega, j + 1, _, g2, by omega, rfl, rfl, rfl, hB2⟩
    conv => whnf
    first | refine need_intro (by omega) ?_ | refine must.mk (by omega) ?_
    conv => whnf
    refine ⟨_, loadH_le hB.hp (ldK hb), ?_⟩
    conv => whnf
    refine bsel_intro (fun q4 => ?_) (fun q4 => ?_) <;> try simp only [decide_eq_true_eq, decide_eq_false_iff_not, beq_iff_eq, beq_eq_false_iff_ne, ne_eq, Bool.not_eq_true', Bool.not_eq_false', bne_iff_ne, bne_eq_false_iff_eq, Bool.not_eq_true, Bool.not_eq_false, Bool.and_eq_true, Bool.or_eq_true] at q4
    · conv => whnf
      first | refine need_intro (by omega) ?_ | refine must.mk (by omega) ?_
      conv => whnf
      refine ⟨_, loadH_le hB.hp (ldR hb), ?_⟩
      conv => whnf
      refine forget_p hB hok.2 _ (fun h2 g2 hB2 => ?_)
      conv => whnf
      first | refine ov_i64 (by omega) ?_ | refine ov_u64 (by omega) ?_ | refine ov_i64 (by decide) ?_ | refine ov_u64 (by decide) ?_ | refine ov_u8 (by omega) ?_ | refine ov_i32 (by omega) ?_ | refine ov_u32 (by omega) ?_
      conv => whnf
      exact ⟨D.length - (j + 1), by omega, j + 1, _, g2, by omega, rfl, rfl, rfl, hB2⟩
    conv => whnf
    first | refine ov_i64 (by omega) ?_ | refine ov_u64 (by omega) ?_ | refine ov_i64 (by decide) ?_ | refine ov_u64 (by decide) ?_ | refine ov_u8 (by omega) ?_ | refine ov_i32 (by omega) ?_ | refine ov_u32 (by omega) ?_
    conv => whnf
    exact ⟨D.length - (j + 1), by omega, j + 1, _, gt, by omega, rfl, rfl, rfl, hB⟩
  clear hj
  conv => whnf
  refine all_p hB _ (fun s3 h3 p3 hB3 hp3 hs3 => ?_)
  have hob_ := rdE hs3
  obtain ⟨a3, c3, rfl, f3⟩ := hob_
  conv => whnf
  refine forget_p hB3 ho.2 _ (fun h4 g4 hB4 => ?_)
  conv => whnf
  refine all_p hB4 _ (fun s5 h5 p5 hB5 hp5 hs5 => ?_)
  have hob_ := rdE hs5
  obtain ⟨a5, c5, rfl, f5⟩ := hob_
  have hL32 : L.length ≤ 32 := by have := hB.good.len; omega
  have hF : (L.filter (fun e => !forgI o.r e)).length ≤ L.length := List.length_filter_le _ _
  have hw5 : w0.le p5 := Hp.le_trans hp3 hp5
  have hoc : ∀ K : Value → Hp → Prop, K o.r.v h5 → True := fun _ _ => trivial
  conv => whnf
  refine loop_at [14, 13] [5] (fun r vs cs h' => ∃ (i : Nat), i ≤ L.length ∧ r = L.length - i ∧ vs = [.v (.int .i64 i), .v (.int .i64 ((L.take i).filter (fun e => !forgI o.r e)).length)] ∧ cs = [some o.cells] ∧ h' = h5) L.length
    ⟨0, by omega, by omega, rfl, rfl, rfl⟩ ?_
  rintro r vs cs mm2 bx2 h' ⟨i, hi, rfl, rfl, rfl, rfl⟩
  conv => whnf
  refine bsel_intro (fun q5 => ?_) (fun q5 => ?_) <;> try simp only [decide_eq_true_eq, decide_eq_false_iff_not, beq_iff_eq, beq_eq_false_iff_ne, ne_eq, Bool.not_eq_true', Bool.not_eq_false', bne_iff_ne, bne_eq_false_iff_eq, Bool.not_eq_true, Bool.not_eq_false, Bool.and_eq_true, Bool.or_eq_true] at q5
  · have hil : i < L.length := by omega
    have hget : L[i]? = some L[i] := List.getElem?_eq_getElem hil
    have hokE : L[i].ok := hB.good.ok _ (List.getElem_mem hil)
    obtain ⟨b3, rfl, l3⟩ := f3 i _ hget
    have l3' := loadH_le (Hp.le_trans hp5 hB5.hp) l3
    have hts := filter_take_succ (fun e => !forgI o.r e) hil
    have hfa := filter_at (fun e => !forgI o.r e) hil
    conv => whnf
    first | refine need_intro (by omega) ?_ | refine must.mk (by omega) ?_
    conv => whnf
    refine ⟨_, l3', ?_⟩
    conv => whnf
    refine forgets_x o.r L[i] ho.2 hokE ?_
    refine ⟨trivial, ?_⟩
    conv => whnf
    cases hf : forgI o.r L[i] with
    | true =>
      rw [hf] at hts
      conv => whnf
      first | refine ov_i64 (by omega) ?_ | refine ov_u64 (by omega) ?_ | refine ov_i64 (by decide) ?_ | refine ov_u64 (by decide) ?_ | refine ov_u8 (by omega) ?_ | refine ov_i32 (by omega) ?_ | refine ov_u32 (by omega) ?_
      conv => whnf
      refine ⟨L.length - (i + 1), by omega, i + 1, by omega, rfl, ?_, rfl, rfl⟩
      show [MV.v _, MV.v _] = _
      rw [hts]
      rfl
    | false =>
      rw [hf] at hts hfa
      have hfa := hfa rfl
      have hkl := (List.getElem?_eq_some_iff.1 hfa).1
      obtain ⟨b5, rfl, l5⟩ := f5 _ _ hfa
      have l5' := loadH_le hB5.hp l5
      conv => whnf
      refine bsel_false ?_ ?_
      · simp; omega
      conv => whnf
      first | refine need_intro (by omega) ?_ | refine must.mk (by omega) ?_
      conv => whnf
      refine ⟨_, l5', ?_⟩
      conv => whnf
      first | refine need_intro (by omega) ?_ | refine must.mk (by omega) ?_
      conv => whnf
      refine ⟨_, l3', ?_⟩
      conv => whnf
      first | refine need_intro (by kernel_rfl) ?_ | refine must.mk (by kernel_rfl) ?_
      conv => whnf
      refine bsel_false ?_ ?_
      · simp
      conv => whnf
      first | refine ov_i64 (by omega) ?_ | refine ov_u64 (by omega) ?_ | refine ov_i64 (by decide) ?_ | refine ov_u64 (by decide) ?_ | refine ov_u8 (by omega) ?_ | refine ov_i32 (by omega) ?_ | refine ov_u32 (by omega) ?_
      conv => whnf
      first | refine ov_i64 (by omega) ?_ | refine ov_u64 (by omega) ?_ | refine ov_i64 (by decide) ?_ | refine ov_u64 (by decide) ?_ | refine ov_u8 (by omega) ?_ | refine ov_i32 (by omega) ?_ | refine ov_u32 (by omega) ?_
      conv => whnf
      refine ⟨L.length - (i + 1), by omega, i + 1, by omega, rfl, ?_, rfl, rfl⟩
      show [MV.v _, MV.v _] = _
      rw [hts]
      rfl
  obtain rfl : i = L.length := by omega
  rw [List.take_length]
  have hff : (L.filter (fun e => !forgI o.r e)).filter (fun e => !forgI o.r e) = L.filter (fun e => !forgI o.r e) := by rw [List.filter_filter]; simp
  conv => whnf
  refine bsel_false ?_ ?_
  · simp
  conv => whnf
  first | refine ov_i64 (by omega) ?_ | refine ov_u64 (by omega) ?_ | refine ov_i64 (by decide) ?_ | refine ov_u64 (by decide) ?_ | refine ov_u8 (by omega) ?_ | refine ov_i32 (by omega) ?_ | refine ov_u32 (by omega) ?_
  conv => whnf
  refine bsel_false ?_ ?_
  · simp
  conv => whnf
  refine forget_p hB5 ho.2 _ (fun h6 g6 hB6 => ?_)
  rw [hff] at hB6 ⊢
  rw [Int.sub_self]
  conv => whnf
  have hB6' : AtP h6 w0 c z (L.filter (fun e => !forgI o.r e)) g6 := ⟨hB6.good, hB6.hg, Hp.le_trans hw5 hB6.hp, hB6.ap.le hw5, hB6.ht⟩
  refine add_p hB6' ho.1 _ (fun h7 g7 hB7 => ?_)
  by_cases hv : validE o.e
  · rw [decide_eq_true hv]
    rw [if_pos hv] at hB7
    conv => whnf
    obtain ⟨x, hx, hxl⟩ := found_added hB6'.good ho.1 hv
    refine find_x o.e.asid o.e.page ho.1.1 h7 _ (hB7.ht.le hB7.hg) ?_
    rw [hx]
    conv => whnf
    refine bsel_true ?_ ?_
    · simp; exact hxl
    conv => whnf
    refine all_x hB7.good h7 _ (hB7.ht.le hB7.hg) (fun s8 h8 hle8 hr8 => ?_)
    obtain ⟨a8, c8, rfl, f8⟩ := rdE hr8
    have hlen7 := hB7.good.len
    conv => whnf
    refine ov_i64 (by omega) ?_
    conv => whnf
    refine ov_i64 (by rw [hz]; omega) ?_
    conv => whnf
    rw [hz]
    refine bsel_true ?_ ?_
    · simp; exact hlen7
    conv => whnf
    refine live_x _ _ ?_
    conv => whnf
    exact ⟨rfl, Hp.le_trans hB7.hp hle8⟩
  · rw [decide_eq_false hv]
    conv => whnf
    refine live_x _ _ ?_
    conv => whnf
    exact ⟨rfl, hB7.hp⟩
end
theorem tlbForgets_w {cs0 cs1 cs2 : List Value} (w : World) (w0 : Wf (whole w) (.int .u8) cs0) (_ : cs0.length = 1) (w1 : Wf (whole w) (.slice (.struct [.int .i64, .struct [.int .i64, .int .u64, .int .i64, .int .u64], .struct [.bool, .bool, .bool, .int .u64, .int .i64]])) cs1) (_ : cs1.length = 1) (w2 : Wf (whole w) (.struct [.int .i64, .struct [.int .i64, .int .u64, .int .i64, .int .u64], .struct [.bool, .bool, .bool, .int .u64, .int .i64]]) cs2) (_ : cs2.length = 10) :
    X Try.prog 3 #[cs0.headD undef, cs1.headD undef, .agg cs2.toArray] (whole w) fun v h' => v = .bool true ∧ (whole w).le h' := by
  unfold Wf at w0
  obtain ⟨size, rfl, hs⟩ := w0
  obtain ⟨a, cap, D, rfl, hm, hD, hl⟩ := slice_of (P := Try.prog) (t := 29) (n := 10) tDeA tDeS (by decide) rfl (fun es => wf_de) w1
  obtain ⟨o, ho, rfl⟩ := wf_de w2
  exact forgets_law size (wf_u8 hs) hD hm _ hl o ho
end Go.Proofs.Yteapmakpbmmleaa
