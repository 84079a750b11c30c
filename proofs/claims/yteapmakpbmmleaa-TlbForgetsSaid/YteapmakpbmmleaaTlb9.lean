/-
  A cache as the document tells it: a translation is left out, added, forgotten.
-/
import Derived.Test.YteapmakpbmmleaaTlb8
namespace Go.Proofs.Yteapmakpbmmleaa
set_option linter.unusedSimpArgs false
set_option linter.unusedVariables false
open Go Go.Mid Go.RowKit
attribute [local irreducible] mid structOk
/-- A cache as the document tells it. -/
abbrev rT (size : Int) (s : Value) : Value := .agg #[.int .i64 size, s]
def witI (L : List En) (at_ : Int) : List En := (L.zipIdx.filter (fun p => decide ((p.2 : Int) ≠ at_))).map (·.1)
theorem witI_snoc (L : List En) (at_ : Int) {j : Nat} (hj : j < L.length) : witI (L.take (j + 1)) at_ = if (j : Int) = at_ then witI (L.take j) at_ else witI (L.take j) at_ ++ [L[j]] := by
  unfold witI
  rw [List.take_succ_eq_append_getElem hj, List.zipIdx_append, List.filter_append, List.map_append]
  simp only [List.length_take, Nat.min_eq_left (Nat.le_of_lt hj), List.zipIdx_cons, List.zipIdx_nil, Nat.zero_add]
  by_cases h : (j : Int) = at_
  · simp [h]
  · simp [h]
theorem witI_le (L : List En) (at_ : Int) : (witI L at_).length ≤ L.length := by
  unfold witI
  rw [List.length_map]
  have := List.length_filter_le (fun p : En × Nat => decide ((p.2 : Int) ≠ at_)) L.zipIdx
  simpa using this
section
set_option maxHeartbeats 8000000
set_option maxRecDepth 10000
theorem agg25 : isAggT Try.prog 25 = some true := tEnA
theorem without_x {s : Value} {L : List En} (size at_ : Int) (h : Hp) (K : Value → Hp → Prop) (hl : L.length ≤ 2 ^ 20) (r : RdE h s L) (hk : ∀ s' h', h.le h' → RdE h' s' (witI L at_) → K (rT size s') h') :
    X Try.prog 39 #[rT size s, .int .i64 at_] h K := by
  obtain ⟨b1, c1, rfl, f1⟩ := rdE r
  refine fnv (args := _) mixed [(2, 2), (8, 2), (18, 2), (25, 2), (4, 4)] [] [] Try.func39 rfl (by kernel_rfl) ?_
  conv => whnf
  refine loop_at [6, 5] [2, 4] (fun r vs cs h' => ∃ (j : Nat) (s' : Value) (ob' : Option Nat), j ≤ L.length ∧ r = L.length - j ∧ vs = [.v (.int .i64 j), .v s'] ∧ cs = [some [.int .i64 size, .slice b1 L.length c1], some [.int .i64 0, .slice none 0 0]] ∧ h.le h' ∧ Gr h' 25 4 s' (witI (L.take j) at_).length ((witI (L.take j) at_).flatMap En.cells) ob' ∧ ∀ x, ob' = some x → h x = none) L.length ⟨0, .slice none 0 0, none, by omega, by omega, rfl, rfl, Hp.le_refl h, Gr.nil, fun x hx => by cases hx⟩ ?_
  rintro r vs cs mm bx h' ⟨j, s', ob', hj, rfl, rfl, rfl, hle, hgr, hob⟩
  have hwl := witI_le (L.take j) at_
  rw [List.length_take] at hwl
  conv => whnf
  refine bsel_intro (fun q1 => ?_) (fun q1 => ?_) <;> try simp only [decide_eq_true_eq, decide_eq_false_iff_not, beq_iff_eq, beq_eq_false_iff_ne, ne_eq, Bool.not_eq_true', Bool.not_eq_false', bne_iff_ne, bne_eq_false_iff_eq, Bool.not_eq_true, Bool.not_eq_false, Bool.and_eq_true, Bool.or_eq_true] at q1
  · have hjl : j < L.length := by omega
    have g1 := f1 j _ (List.getElem?_eq_getElem hjl)
    obtain ⟨a1, rfl, l1⟩ := g1
    have hsn := witI_snoc L at_ hjl
    conv => whnf
    refine bsel_intro (fun q2 => ?_) (fun q2 => ?_) <;> try simp only [decide_eq_true_eq, decide_eq_false_iff_not, beq_iff_eq, beq_eq_false_iff_ne, ne_eq, Bool.not_eq_true', Bool.not_eq_false', bne_iff_ne, bne_eq_false_iff_eq, Bool.not_eq_true, Bool.not_eq_false, Bool.and_eq_true, Bool.or_eq_true] at q2
    · rw [if_neg q2] at hsn
      conv => whnf
      first | refine need_intro (by omega) ?_ | refine must.mk (by omega) ?_
      conv => whnf
      refine ⟨_, loadH_le hle l1, ?_⟩
      conv => whnf
      refine new_intro (o := rowO 25 (En.cells L[j])) (fun bn H6 n_bn le_bn at_bn ot_bn => ?_)
      conv => whnf
      refine appOne (t := 37) (e := 25) (i := Try.prog.types[25]) (z := En.v ⟨0, 0, 0, 0⟩) (size := 4) (bytes := 32) (by kernel_rfl) (by kernel_rfl) (by kernel_rfl) (by kernel_rfl) (by kernel_rfl) rfl (by decide) (h := H6) rfl rfl rfl (hgr.le le_bn) at_bn (enLen _) rfl (by omega) (fun s7 h7 ob7 hg7 ht7 => ?_)
      have t1 := ht7.le (Hp.le_trans hle le_bn) hob
      conv => whnf
      first | refine ov_i64 (by omega) ?_ | refine ov_u64 (by omega) ?_ | refine ov_i64 (by decide) ?_ | refine ov_u64 (by decide) ?_ | refine ov_u8 (by omega) ?_ | refine ov_i32 (by omega) ?_ | refine ov_u32 (by omega) ?_
      conv => whnf
      refine ⟨L.length - (j + 1), by omega, j + 1, s7, ob7, by omega, rfl, rfl, rfl, t1.1, ?_, t1.2⟩
      rw [hsn, List.length_append, List.flatMap_append]
      simpa using hg7
    · rw [if_pos q2] at hsn
      conv => whnf
      first | refine ov_i64 (by omega) ?_ | refine ov_u64 (by omega) ?_ | refine ov_i64 (by decide) ?_ | refine ov_u64 (by decide) ?_ | refine ov_u8 (by omega) ?_ | refine ov_i32 (by omega) ?_ | refine ov_u32 (by omega) ?_
      conv => whnf
      refine ⟨L.length - (j + 1), by omega, j + 1, s', ob', by omega, rfl, rfl, rfl, hle, ?_, hob⟩
      rw [hsn]; exact hgr
  · obtain rfl : j = L.length := by omega
    rw [List.take_length] at hgr
    have hob_ := hgr.shape
    obtain ⟨a7, c7, rfl⟩ := hob_
    conv => whnf
    exact hk _ _ hle (hgr.rdN tEnA tEnS enLen)
def keepI (r : Rq) (L : List En) : List En := L.filter (fun e => !forgI r e)
theorem keepI_snoc (r : Rq) (L : List En) {j : Nat} (hj : j < L.length) : keepI r (L.take (j + 1)) = if forgI r L[j] = true then keepI r (L.take j) else keepI r (L.take j) ++ [L[j]] := by
  unfold keepI
  rw [List.take_succ_eq_append_getElem hj, List.filter_append]
  by_cases h : forgI r L[j] = true
  · simp [h]
  · simp [h]
theorem keepI_le (r : Rq) (L : List En) : (keepI r L).length ≤ L.length := List.length_filter_le _ _
theorem rforget_x {s : Value} {L : List En} (size : Int) (hok : ∀ e ∈ L, e.ok) (r : Rq) (hr : r.ok) (h : Hp) (K : Value → Hp → Prop) (hl : L.length ≤ 2 ^ 20) (hs : RdE h s L)
    (hk : ∀ s' h', h.le h' → RdE h' s' (keepI r L) → K (.tuple #[rT size s', .int .i64 ((L.length : Int) - (keepI r L).length)]) h') :
    X Try.prog 28 #[rT size s, r.v] h K := by
  obtain ⟨b1, c1, rfl, f1⟩ := rdE hs
  refine fnv (args := _) mixed [(2, 2), (10, 2), (17, 2), (26, 2), (33, 2), (3, 3), (4, 4)] [] [] Try.func28 rfl (by kernel_rfl) ?_
  conv => whnf
  refine loop_at [8, 6, 7] [2, 3, 4] (fun q vs cs h' => ∃ (j : Nat) (s' : Value) (ob' : Option Nat), j ≤ L.length ∧ q = L.length - j ∧ vs = [.v (.int .i64 j), .v (.int .i64 ((j : Int) - (keepI r (L.take j)).length)), .v s'] ∧ cs = [some [.int .i64 size, .slice b1 L.length c1], some r.cells, some [.int .i64 0, .slice none 0 0]] ∧ h.le h' ∧ Gr h' 25 4 s' (keepI r (L.take j)).length ((keepI r (L.take j)).flatMap En.cells) ob' ∧ ∀ x, ob' = some x → h x = none) L.length ⟨0, .slice none 0 0, none, by omega, by omega, rfl, rfl, Hp.le_refl h, Gr.nil, fun x hx => by cases hx⟩ ?_
  rintro q vs cs mm bx h' ⟨j, s', ob', hj, rfl, rfl, rfl, hle, hgr, hob⟩
  have hwl := keepI_le r (L.take j)
  rw [List.length_take] at hwl
  conv => whnf
  refine bsel_intro (fun q1 => ?_) (fun q1 => ?_) <;> try simp only [decide_eq_true_eq, decide_eq_false_iff_not, beq_iff_eq, beq_eq_false_iff_ne, ne_eq, Bool.not_eq_true', Bool.not_eq_false', bne_iff_ne, bne_eq_false_iff_eq, Bool.not_eq_true, Bool.not_eq_false, Bool.and_eq_true, Bool.or_eq_true] at q1
  · have hjl : j < L.length := by omega
    have g1 := f1 j _ (List.getElem?_eq_getElem hjl)
    obtain ⟨a1, rfl, l1⟩ := g1
    have hsn := keepI_snoc r L hjl
    conv => whnf
    first | refine need_intro (by omega) ?_ | refine must.mk (by omega) ?_
    conv => whnf
    refine ⟨_, loadH_le hle l1, ?_⟩
    conv => whnf
    refine rforgets_x r L[j] hr (hok _ (List.getElem_mem hjl)) ?_
    refine ⟨trivial, ?_⟩
    conv => whnf
    cases hf : forgI r L[j] with
    | true =>
      rw [if_pos hf] at hsn
      conv => whnf
      first | refine ov_i64 (by omega) ?_ | refine ov_u64 (by omega) ?_ | refine ov_i64 (by decide) ?_ | refine ov_u64 (by decide) ?_ | refine ov_u8 (by omega) ?_ | refine ov_i32 (by omega) ?_ | refine ov_u32 (by omega) ?_
      conv => whnf
      first | refine ov_i64 (by omega) ?_ | refine ov_u64 (by omega) ?_ | refine ov_i64 (by decide) ?_ | refine ov_u64 (by decide) ?_ | refine ov_u8 (by omega) ?_ | refine ov_i32 (by omega) ?_ | refine ov_u32 (by omega) ?_
      conv => whnf
      refine ⟨L.length - (j + 1), by omega, j + 1, s', ob', by omega, rfl, ?_, rfl, hle, by rw [hsn]; exact hgr, hob⟩
      show [MV.v _, MV.v _, MV.v _] = _
      rw [hsn]
      congr 2
      rw [show (((j + 1 : Nat) : Int) - ((keepI r (L.take j)).length : Int)) = (j : Int) - (keepI r (L.take j)).length + 1 by omega]
    | false =>
      rw [if_neg (by simp [hf])] at hsn
      conv => whnf
      first | refine need_intro (by omega) ?_ | refine must.mk (by omega) ?_
      conv => whnf
      refine ⟨_, loadH_le hle l1, ?_⟩
      conv => whnf
      refine new_intro (o := rowO 25 (En.cells L[j])) (fun bn H6 n_bn le_bn at_bn ot_bn => ?_)
      conv => whnf
      refine appOne (t := 37) (e := 25) (i := Try.prog.types[25]) (z := En.v ⟨0, 0, 0, 0⟩) (size := 4) (bytes := 32) (by kernel_rfl) (by kernel_rfl) (by kernel_rfl) (by kernel_rfl) (by kernel_rfl) rfl (by decide) (h := H6) rfl rfl rfl (hgr.le le_bn) at_bn (enLen _) rfl (by omega) (fun s7 h7 ob7 hg7 ht7 => ?_)
      have t1 := ht7.le (Hp.le_trans hle le_bn) hob
      conv => whnf
      first | refine ov_i64 (by omega) ?_ | refine ov_u64 (by omega) ?_ | refine ov_i64 (by decide) ?_ | refine ov_u64 (by decide) ?_ | refine ov_u8 (by omega) ?_ | refine ov_i32 (by omega) ?_ | refine ov_u32 (by omega) ?_
      conv => whnf
      refine ⟨L.length - (j + 1), by omega, j + 1, s7, ob7, by omega, rfl, ?_, rfl, t1.1, ?_, t1.2⟩
      · show [MV.v _, MV.v _, MV.v _] = _
        rw [hsn, List.length_append, List.length_singleton]
        congr 2
        rw [show (((j + 1 : Nat) : Int) - (((keepI r (L.take j)).length + 1 : Nat) : Int)) = (j : Int) - (keepI r (L.take j)).length by omega]
      · rw [hsn, List.length_append, List.flatMap_append]
        simpa using hg7
  · obtain rfl : j = L.length := by omega
    rw [List.take_length] at hgr
    have hob_ := hgr.shape
    obtain ⟨a7, c7, rfl⟩ := hob_
    conv => whnf
    refine kq (hk _ _ hle (hgr.rdN tEnA tEnS enLen)) ?_
    rw [List.take_length]
    rfl
/-- The last one of the same key. -/
def atI (L : List En) (e : En) : Nat → Int
  | 0 => -1
  | j + 1 => match L[j]? with
    | some x => if keyI x = keyI e then j else atI L e j
    | none => atI L e j
theorem atI_lt (L : List En) (e : En) : ∀ j, -1 ≤ atI L e j ∧ atI L e j < j
  | 0 => by unfold atI; omega
  | j + 1 => by
    have := atI_lt L e j
    unfold atI
    split
    · split <;> omega
    · omega
/-- What is left of the cache ahead of a translation that is added. -/
def raddI (size : Int) (L : List En) (e : En) : List En :=
  (if 0 ≤ atI L (fixE e) L.length then witI L (atI L (fixE e) L.length) else if size ≤ L.length then witI L 0 else L) ++ [fixE e]
theorem radd_x {s : Value} {L : List En} (size : Int) (hok : ∀ x ∈ L, x.ok ∧ 0 ≤ x.asid) {e : En} (he : e.ok) (h : Hp) (K : Value → Hp → Prop) (hl : L.length ≤ 2 ^ 20) (hs : RdE h s L)
    (hbad : ¬ (0 ≤ e.level ∧ e.level ≤ 2 ∧ 0 ≤ e.asid ∧ e.asid ≤ 65535) → K (.tuple #[rT size s, .bool false]) h)
    (hk : 0 ≤ e.level ∧ e.level ≤ 2 ∧ 0 ≤ e.asid ∧ e.asid ≤ 65535 → ∀ s' h', h.le h' → RdE h' s' (raddI size L e) → K (.tuple #[rT size s', .bool true]) h') :
    X Try.prog 27 #[rT size s, e.v] h K := by
  have hfo : (fixE e).ok := ⟨pageI_u he.1, he.2⟩
  obtain ⟨b1, c1, rfl, f1⟩ := rdE hs
  refine fnv (args := _) mixed [(2, 2), (34, 2), (40, 2), (51, 2), (54, 2), (63, 2), (66, 2), (3, 3), (8, 3), (12, 3), (17, 3), (22, 3), (27, 3), (29, 3), (32, 3), (4, 4)] [] [] Try.func27 rfl (by kernel_rfl) ?_
  conv => whnf
  refine bsel_intro (fun v1 => ?_) (fun v1 => ?_) <;> try simp only [decide_eq_true_eq, decide_eq_false_iff_not, beq_iff_eq, beq_eq_false_iff_ne, ne_eq, Bool.not_eq_true', Bool.not_eq_false', bne_iff_ne, bne_eq_false_iff_eq, Bool.not_eq_true, Bool.not_eq_false, Bool.and_eq_true, Bool.or_eq_true] at v1
  · conv => whnf
    exact hbad (by omega)
  conv => whnf
  refine bsel_intro (fun v2 => ?_) (fun v2 => ?_) <;> try simp only [decide_eq_true_eq, decide_eq_false_iff_not, beq_iff_eq, beq_eq_false_iff_ne, ne_eq, Bool.not_eq_true', Bool.not_eq_false', bne_iff_ne, bne_eq_false_iff_eq, Bool.not_eq_true, Bool.not_eq_false, Bool.and_eq_true, Bool.or_eq_true] at v2
  · conv => whnf
    exact hbad (by omega)
  conv => whnf
  refine bsel_intro (fun v3 => ?_) (fun v3 => ?_) <;> try simp only [decide_eq_true_eq, decide_eq_false_iff_not, beq_iff_eq, beq_eq_false_iff_ne, ne_eq, Bool.not_eq_true', Bool.not_eq_false', bne_iff_ne, bne_eq_false_iff_eq, Bool.not_eq_true, Bool.not_eq_false, Bool.and_eq_true, Bool.or_eq_true] at v3
  · conv => whnf
    exact hbad (by omega)
  conv => whnf
  refine bsel_intro (fun v4 => ?_) (fun v4 => ?_) <;> try simp only [decide_eq_true_eq, decide_eq_false_iff_not, beq_iff_eq, beq_eq_false_iff_ne, ne_eq, Bool.not_eq_true', Bool.not_eq_false', bne_iff_ne, bne_eq_false_iff_eq, Bool.not_eq_true, Bool.not_eq_false, Bool.and_eq_true, Bool.or_eq_true] at v4
  · conv => whnf
    exact hbad (by omega)
  have hK := hk ⟨by omega, by omega, by omega, by omega⟩
  conv => whnf
  refine rpage_x _ _ he.1 ?_
  conv => whnf
  refine loop_at [7, 6] [2, 3, 4] (fun q vs cs h' => h = h' ∧ ∃ (j : Nat), j ≤ L.length ∧ q = L.length - j ∧ vs = [.v (.int .i64 j), .v (.int .i64 (atI L (fixE e) j))] ∧ cs = [some [.int .i64 size, .slice b1 L.length c1], some (fixE e).cells, some [.int .i64 0, .slice none 0 0]]) L.length ⟨rfl, 0, by omega, by omega, rfl, rfl⟩ ?_
  rintro q vs cs mm bx _ ⟨rfl, j, hj, rfl, rfl, rfl⟩
  have hat := atI_lt L (fixE e) j
  conv => whnf
  refine bsel_intro (fun q1 => ?_) (fun q1 => ?_) <;> try simp only [decide_eq_true_eq, decide_eq_false_iff_not, beq_iff_eq, beq_eq_false_iff_ne, ne_eq, Bool.not_eq_true', Bool.not_eq_false', bne_iff_ne, bne_eq_false_iff_eq, Bool.not_eq_true, Bool.not_eq_false, Bool.and_eq_true, Bool.or_eq_true] at q1
  · have hjl : j < L.length := by omega
    have hget : L[j]? = some L[j] := List.getElem?_eq_getElem hjl
    have g1 := f1 j _ hget
    obtain ⟨a1, rfl, l1⟩ := g1
    have hLj := hok _ (List.getElem_mem hjl)
    conv => whnf
    first | refine need_intro (by omega) ?_ | refine must.mk (by omega) ?_
    conv => whnf
    refine ⟨_, l1, ?_⟩
    conv => whnf
    refine rsame_x L[j] (fixE e) hLj.1 hfo hLj.2 (by show 0 ≤ e.asid; omega) ?_
    refine ⟨trivial, ?_⟩
    conv => whnf
    have hs2 : atI L (fixE e) (j + 1) = if keyI L[j] = keyI (fixE e) then (j : Int) else atI L (fixE e) j := by
      show (match L[j]? with | some x => _ | none => _) = _
      rw [hget]
    refine bsel_intro (fun q2 => ?_) (fun q2 => ?_) <;> try simp only [decide_eq_true_eq, decide_eq_false_iff_not, beq_iff_eq, beq_eq_false_iff_ne, ne_eq, Bool.not_eq_true', Bool.not_eq_false', bne_iff_ne, bne_eq_false_iff_eq, Bool.not_eq_true, Bool.not_eq_false, Bool.and_eq_true, Bool.or_eq_true] at q2
    · rw [if_pos q2] at hs2
      conv => whnf
      first | refine ov_i64 (by omega) ?_ | refine ov_u64 (by omega) ?_ | refine ov_i64 (by decide) ?_ | refine ov_u64 (by decide) ?_ | refine ov_u8 (by omega) ?_ | refine ov_i32 (by omega) ?_ | refine ov_u32 (by omega) ?_
      conv => whnf
      exact ⟨L.length - (j + 1), by omega, rfl, j + 1, by omega, rfl, by rw [hs2]; rfl, rfl⟩
    · rw [if_neg q2] at hs2
      conv => whnf
      first | refine ov_i64 (by omega) ?_ | refine ov_u64 (by omega) ?_ | refine ov_i64 (by decide) ?_ | refine ov_u64 (by decide) ?_ | refine ov_u8 (by omega) ?_ | refine ov_i32 (by omega) ?_ | refine ov_u32 (by omega) ?_
      conv => whnf
      exact ⟨L.length - (j + 1), by omega, rfl, j + 1, by omega, rfl, by rw [hs2]; rfl, rfl⟩
  · obtain rfl : j = L.length := by omega
    conv => whnf
    unfold raddI at hK
    generalize hat0 : atI L (fixE e) L.length = at0 at *
    refine bsel_intro (fun q2 => ?_) (fun q2 => ?_) <;> try simp only [decide_eq_true_eq, decide_eq_false_iff_not, beq_iff_eq, beq_eq_false_iff_ne, ne_eq, Bool.not_eq_true', Bool.not_eq_false', bne_iff_ne, bne_eq_false_iff_eq, Bool.not_eq_true, Bool.not_eq_false, Bool.and_eq_true, Bool.or_eq_true] at q2
    · rw [if_neg (by omega)] at hK
      conv => whnf
      refine bsel_intro (fun q3 => ?_) (fun q3 => ?_) <;> try simp only [decide_eq_true_eq, decide_eq_false_iff_not, beq_iff_eq, beq_eq_false_iff_ne, ne_eq, Bool.not_eq_true', Bool.not_eq_false', bne_iff_ne, bne_eq_false_iff_eq, Bool.not_eq_true, Bool.not_eq_false, Bool.and_eq_true, Bool.or_eq_true] at q3
      · rw [if_pos q3] at hK
        have hL2 : ∃ L2, L2 = witI L 0 := ⟨_, rfl⟩
        obtain ⟨L2, hL2⟩ := hL2
        rw [← hL2] at hK
        conv => whnf
        refine without_x size 0 h _ hl hs (fun s2 H2 hle2 r2 => ?_)
        rw [← hL2] at r2
        have hwl : L2.length ≤ L.length := by rw [hL2]; exact witI_le L 0
        have hob_ := rdE r2
        obtain ⟨b2, c2, rfl, f2⟩ := hob_
        conv => whnf
        refine new_intro (o := rowO 25 []) (fun b0 H3 n_b0 le_b0 at_b0 ot_b0 => ?_)
        conv => whnf
        refine appMany (t := 37) (e := 25) (i := Try.prog.types[25]) (z := En.v ⟨0, 0, 0, 0⟩) (size := 4) (bytes := 32) (by kernel_rfl) (by kernel_rfl) (by kernel_rfl) (by kernel_rfl) (by kernel_rfl) rfl (by decide) (h := H3) (cs := []) (n := 0) (ob := some b0) (news := L2.flatMap En.cells) rfl rfl rfl ⟨rfl, .inr ⟨b0, 0, [], rfl, rfl, Nat.le_refl _, rfl, at_b0⟩⟩ (flat_length enLen _) (fun j v hj => (by obtain ⟨a, e1, e2⟩ := cellsE f2 j v hj; exact ⟨a, e1, cell_le le_b0 e2⟩)) (baseE f2) (enOne _) (by omega) (fun s7 h7 ob7 hg7 ht7 => ?_)
        have t7 := ht7.le (Hp.le_trans hle2 le_b0) (fun x hx => by cases hx; exact none_le hle2 n_b0)
        rw [Nat.zero_add, List.nil_append] at hg7
        refine ⟨trivial, ?_⟩
        conv => whnf
        refine new_intro (o := rowO 25 (En.cells (fixE e))) (fun bn H6 n_bn le_bn at_bn ot_bn => ?_)
        conv => whnf
        refine appOne (t := 37) (e := 25) (i := Try.prog.types[25]) (z := En.v ⟨0, 0, 0, 0⟩) (size := 4) (bytes := 32) (by kernel_rfl) (by kernel_rfl) (by kernel_rfl) (by kernel_rfl) (by kernel_rfl) rfl (by decide) (h := H6) rfl rfl rfl (hg7.le le_bn) at_bn (enLen _) rfl (by omega) (fun s8 h8 ob8 hg8 ht8 => ?_)
        have t8 := ht8.le (Hp.le_trans t7.1 le_bn) t7.2
        have hob_ := hg8.shape
        obtain ⟨a8, c8, rfl⟩ := hob_
        refine ⟨trivial, ?_⟩
        conv => whnf
        refine hK _ _ t8.1 ?_
        refine Gr.rdN (el := 25) tEnA tEnS enLen (ob := ob8) ?_
        rw [List.length_append, List.flatMap_append]
        simp only [List.flatMap_cons, List.flatMap_nil, List.append_nil, List.length_singleton]
        exact hg8
      · rw [if_neg (by omega)] at hK
        have hL2 : ∃ L2, L2 = L := ⟨_, rfl⟩
        obtain ⟨L2, hL2⟩ := hL2
        have hle2 := Hp.le_refl h
        have f2 := f1
        rw [← hL2] at hK f2
        have hwl : L2.length ≤ L.length := by rw [hL2]; exact Nat.le_refl _
        conv => whnf
        refine bsel_false ?_ ?_
        · rw [decide_eq_false_iff_not]; omega
        conv => whnf
        rw [← hL2]
        refine new_intro (o := rowO 25 []) (fun b0 H3 n_b0 le_b0 at_b0 ot_b0 => ?_)
        conv => whnf
        refine appMany (t := 37) (e := 25) (i := Try.prog.types[25]) (z := En.v ⟨0, 0, 0, 0⟩) (size := 4) (bytes := 32) (by kernel_rfl) (by kernel_rfl) (by kernel_rfl) (by kernel_rfl) (by kernel_rfl) rfl (by decide) (h := H3) (cs := []) (n := 0) (ob := some b0) (news := L2.flatMap En.cells) rfl rfl rfl ⟨rfl, .inr ⟨b0, 0, [], rfl, rfl, Nat.le_refl _, rfl, at_b0⟩⟩ (flat_length enLen _) (fun j v hj => (by obtain ⟨a, e1, e2⟩ := cellsE f2 j v hj; exact ⟨a, e1, cell_le le_b0 e2⟩)) (baseE f2) (enOne _) (by omega) (fun s7 h7 ob7 hg7 ht7 => ?_)
        have t7 := ht7.le (Hp.le_trans hle2 le_b0) (fun x hx => by cases hx; exact none_le hle2 n_b0)
        rw [Nat.zero_add, List.nil_append] at hg7
        refine ⟨trivial, ?_⟩
        conv => whnf
        refine new_intro (o := rowO 25 (En.cells (fixE e))) (fun bn H6 n_bn le_bn at_bn ot_bn => ?_)
        conv => whnf
        refine appOne (t := 37) (e := 25) (i := Try.prog.types[25]) (z := En.v ⟨0, 0, 0, 0⟩) (size := 4) (bytes := 32) (by kernel_rfl) (by kernel_rfl) (by kernel_rfl) (by kernel_rfl) (by kernel_rfl) rfl (by decide) (h := H6) rfl rfl rfl (hg7.le le_bn) at_bn (enLen _) rfl (by omega) (fun s8 h8 ob8 hg8 ht8 => ?_)
        have t8 := ht8.le (Hp.le_trans t7.1 le_bn) t7.2
        have hob_ := hg8.shape
        obtain ⟨a8, c8, rfl⟩ := hob_
        refine ⟨trivial, ?_⟩
        conv => whnf
        refine hK _ _ t8.1 ?_
        refine Gr.rdN (el := 25) tEnA tEnS enLen (ob := ob8) ?_
        rw [List.length_append, List.flatMap_append]
        simp only [List.flatMap_cons, List.flatMap_nil, List.append_nil, List.length_singleton]
        exact hg8
    · rw [if_pos (by omega)] at hK
      have hL2 : ∃ L2, L2 = witI L at0 := ⟨_, rfl⟩
      obtain ⟨L2, hL2⟩ := hL2
      rw [← hL2] at hK
      conv => whnf
      refine bsel_true ?_ ?_
      · rw [decide_eq_true_iff]; omega
      conv => whnf
      refine without_x size at0 h _ hl hs (fun s2 H2 hle2 r2 => ?_)
      rw [← hL2] at r2
      have hwl : L2.length ≤ L.length := by rw [hL2]; exact witI_le L at0
      have hob_ := rdE r2
      obtain ⟨b2, c2, rfl, f2⟩ := hob_
      conv => whnf
      refine new_intro (o := rowO 25 []) (fun b0 H3 n_b0 le_b0 at_b0 ot_b0 => ?_)
      conv => whnf
      refine appMany (t := 37) (e := 25) (i := Try.prog.types[25]) (z := En.v ⟨0, 0, 0, 0⟩) (size := 4) (bytes := 32) (by kernel_rfl) (by kernel_rfl) (by kernel_rfl) (by kernel_rfl) (by kernel_rfl) rfl (by decide) (h := H3) (cs := []) (n := 0) (ob := some b0) (news := L2.flatMap En.cells) rfl rfl rfl ⟨rfl, .inr ⟨b0, 0, [], rfl, rfl, Nat.le_refl _, rfl, at_b0⟩⟩ (flat_length enLen _) (fun j v hj => (by obtain ⟨a, e1, e2⟩ := cellsE f2 j v hj; exact ⟨a, e1, cell_le le_b0 e2⟩)) (baseE f2) (enOne _) (by omega) (fun s7 h7 ob7 hg7 ht7 => ?_)
      have t7 := ht7.le (Hp.le_trans hle2 le_b0) (fun x hx => by cases hx; exact none_le hle2 n_b0)
      rw [Nat.zero_add, List.nil_append] at hg7
      refine ⟨trivial, ?_⟩
      conv => whnf
      refine new_intro (o := rowO 25 (En.cells (fixE e))) (fun bn H6 n_bn le_bn at_bn ot_bn => ?_)
      conv => whnf
      refine appOne (t := 37) (e := 25) (i := Try.prog.types[25]) (z := En.v ⟨0, 0, 0, 0⟩) (size := 4) (bytes := 32) (by kernel_rfl) (by kernel_rfl) (by kernel_rfl) (by kernel_rfl) (by kernel_rfl) rfl (by decide) (h := H6) rfl rfl rfl (hg7.le le_bn) at_bn (enLen _) rfl (by omega) (fun s8 h8 ob8 hg8 ht8 => ?_)
      have t8 := ht8.le (Hp.le_trans t7.1 le_bn) t7.2
      have hob_ := hg8.shape
      obtain ⟨a8, c8, rfl⟩ := hob_
      refine ⟨trivial, ?_⟩
      conv => whnf
      refine hK _ _ t8.1 ?_
      refine Gr.rdN (el := 25) tEnA tEnS enLen (ob := ob8) ?_
      rw [List.length_append, List.flatMap_append]
      simp only [List.flatMap_cons, List.flatMap_nil, List.append_nil, List.length_singleton]
      exact hg8
/-- Does a translation serve an address? -/
def mt (e : En) (asid va : Int) : Bool := (globI e.pte || decide (e.asid = asid)) && decide (pageI va e.level = pageI e.page e.level)
/-- Is it better than the best one up to here? -/
def better (L : List En) (e : En) : Option Nat → Bool
  | none => true
  | some i => match L[i]? with
    | some x => decide (e.level < x.level) || (decide (e.level = x.level) && !globI e.pte)
    | none => true
def bestI (L : List En) (asid va : Int) : Nat → Option Nat
  | 0 => none
  | j + 1 => match L[j]? with
    | some e => if mt e asid va = true ∧ better L e (bestI L asid va j) = true then some j else bestI L asid va j
    | none => bestI L asid va j
def optI : Option Nat → Int
  | some i => i
  | none => -1
theorem bestI_lt (L : List En) (asid va : Int) : ∀ (j i : Nat), bestI L asid va j = some i → i < j
  | 0, i, h => by cases h
  | j + 1, i, h => by
    unfold bestI at h
    split at h
    · split at h
      · cases h; omega
      · have := bestI_lt L asid va j i h; omega
    · have := bestI_lt L asid va j i h; omega
theorem rdK_at {x : Option Value} {K : Value → Hp → Prop} {h : Hp} {v : Value} (hf : x = some v) (hk : K v h) : ∃ v, x = some v ∧ K v h := ⟨v, hf, hk⟩
theorem rfind_x {s : Value} {L : List En} (size asid va : Int) (hok : ∀ x ∈ L, x.ok) (hva : 0 ≤ va ∧ va < 2 ^ 64) (h : Hp) (K : Value → Hp → Prop) (hl : L.length ≤ 2 ^ 20) (hs : RdE h s L)
    (hk : K (.int .i64 (optI (bestI L asid va L.length))) h) :
    X Try.prog 29 #[rT size s, .int .i64 asid, .int .u64 va] h K := by
  obtain ⟨b1, c1, rfl, f1⟩ := rdE hs
  refine fnv (args := _) mixed [(3, 3), (12, 3), (18, 3), (51, 3), (62, 3), (9, 9), (23, 9), (29, 9), (36, 9), (39, 9), (41, 9), (49, 9), (60, 9)] [] [] Try.func29 rfl (by kernel_rfl) ?_
  conv => whnf
  refine loop_at [8, 7] [3] (fun q vs cs h' => h = h' ∧ ∃ (j : Nat), j ≤ L.length ∧ q = L.length - j ∧ vs = [.v (.int .i64 j), .v (.int .i64 (optI (bestI L asid va j)))] ∧ cs = [some [.int .i64 size, .slice b1 L.length c1]]) L.length ⟨rfl, 0, by omega, by omega, rfl, rfl⟩ ?_
  rintro q vs cs mm bx _ ⟨rfl, j, hj, rfl, rfl, rfl⟩
  have hbl := bestI_lt L asid va j
  conv => whnf
  refine bsel_intro (fun q1 => ?_) (fun q1 => ?_) <;> try simp only [decide_eq_true_eq, decide_eq_false_iff_not, beq_iff_eq, beq_eq_false_iff_ne, ne_eq, Bool.not_eq_true', Bool.not_eq_false', bne_iff_ne, bne_eq_false_iff_eq, Bool.not_eq_true, Bool.not_eq_false, Bool.and_eq_true, Bool.or_eq_true] at q1
  · have hjl : j < L.length := by omega
    have hget : L[j]? = some L[j] := List.getElem?_eq_getElem hjl
    have g1 := f1 j _ hget
    obtain ⟨a1, rfl, l1⟩ := g1
    have hLj := hok _ (List.getElem_mem hjl)
    have hnx : bestI L asid va (j + 1) = if mt L[j] asid va = true ∧ better L L[j] (bestI L asid va j) = true then some j else bestI L asid va j := by
      show (match L[j]? with | some e => _ | none => _) = _
      rw [hget]
    generalize bestI L asid va j = bj at *
    have hij : -1 ≤ optI bj ∧ optI bj < j := by
      cases bj with
      | none => show (-1 : Int) ≤ -1 ∧ (-1 : Int) < j; omega
      | some i => have := hbl i rfl; show -1 ≤ (i : Int) ∧ (i : Int) < j; omega
    have hbt : better L L[j] bj = (decide (optI bj < 0) || (decide (L[j].level < (L.getD (optI bj).toNat ⟨0, 0, 0, 0⟩).level) || (decide (L[j].level = (L.getD (optI bj).toNat ⟨0, 0, 0, 0⟩).level) && !globI L[j].pte))) := by
      cases bj with
      | none => rfl
      | some i =>
        have := hbl i rfl
        have hgi : L[i]? = some L[i] := List.getElem?_eq_getElem (by omega)
        show (match L[i]? with | some x => _ | none => _) = _
        rw [hgi]
        have e1 : decide (optI (some i) < 0) = false := by rw [decide_eq_false_iff_not]; show ¬ ((i : Int) < 0); omega
        have e2 : L.getD (optI (some i)).toNat ⟨0, 0, 0, 0⟩ = L[i] := by
          show L.getD i _ = _
          rw [List.getD_eq_getElem?_getD, hgi]; rfl
        rw [e1, e2, Bool.false_or]
    have l3 : 0 ≤ optI bj → loadH Try.prog 3 h ((a1.add ((optI bj).toNat * 4)).add 2) = some (.int .i64 (L.getD (optI bj).toNat ⟨0, 0, 0, 0⟩).level) := by
      intro hp
      have hil : (optI bj).toNat < L.length := by omega
      have g2 := f1 _ _ (List.getElem?_eq_getElem hil)
      obtain ⟨a2, e2, l2⟩ := g2
      cases e2
      rw [loadH_cell aggI, List.getD_eq_getElem?_getD, List.getElem?_eq_getElem hil]
      exact loadH_cellOf tEnA tEnS l2 rfl
    have hfin : ∀ r : Int, r = optI (bestI L asid va (j + 1)) → r = (if mt L[j] asid va = true ∧ better L L[j] bj = true then (j : Int) else optI bj) := by
      intro r hr
      rw [hr, hnx]
      split <;> rfl
    have hfin2 : ∀ r : Int, r = (if mt L[j] asid va = true ∧ better L L[j] bj = true then (j : Int) else optI bj) → optI (bestI L asid va (j + 1)) = r := by
      intro r hr
      rw [hr, hnx]
      split <;> rfl
    clear hfin hnx hbl
    rw [hbt] at hfin2
    unfold mt at hfin2
    generalize optI bj = ib at *
    generalize (L.getD ib.toNat ⟨0, 0, 0, 0⟩).level = lv at *
    conv => whnf
    first | refine need_intro (by omega) ?_ | refine must.mk (by omega) ?_
    conv => whnf
    refine ⟨_, l1, ?_⟩
    conv => whnf
    refine rglob_x _ hLj.2 ?_
    generalize hgl : globI L[j].pte = gl at *
    conv => whnf
    repeat' first
      | (refine need_intro (by omega) ?_; conv => whnf)
      | (refine rpage_x _ _ hva ?_; conv => whnf)
      | (refine rpage_x _ _ hLj.1 ?_; conv => whnf)
      | (refine (rdK_at (l3 (by omega)) ?_); conv => whnf)
      | ((first | refine ov_i64 (by omega) ?_ | refine ov_u64 (by omega) ?_ | refine ov_i64 (by decide) ?_ | refine ov_u64 (by decide) ?_ | refine ov_u8 (by omega) ?_ | refine ov_i32 (by omega) ?_ | refine ov_u32 (by omega) ?_); conv => whnf)
      | (refine ⟨trivial, ?_⟩; conv => whnf)
      | (refine bsel_intro (fun hq => ?_) (fun hq => ?_) <;> (try simp only [decide_eq_true_eq, decide_eq_false_iff_not, beq_iff_eq, beq_eq_false_iff_ne, ne_eq, Bool.not_eq_true', Bool.not_eq_false', bne_iff_ne, bne_eq_false_iff_eq, Bool.not_eq_true, Bool.not_eq_false, Bool.and_eq_true, Bool.or_eq_true] at hq) <;> conv => whnf)
    all_goals
      refine ⟨L.length - (j + 1), by omega, rfl, j + 1, by omega, rfl, ?_, rfl⟩
      show [MV.v _, MV.v (.int .i64 _)] = _
      rw [hfin2 _ rfl]
      clear hfin2 l1 l3 hbt hs hok hk f1 hget hLj hl
      first
        | (simp [*]; done)
        | (simp_all; done)
  · obtain rfl : j = L.length := by omega
    conv => whnf
    exact hk
end
end Go.Proofs.Yteapmakpbmmleaa
