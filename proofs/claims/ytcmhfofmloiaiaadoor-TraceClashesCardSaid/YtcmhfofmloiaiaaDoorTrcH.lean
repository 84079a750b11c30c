/-
  Clashes: all pairs.
-/
import Derived.Test.YtcmhfofmloiaiaaDoorTrcG
namespace Go.Proofs.YtcmhfofmloiaiaaDoor
set_option linter.unusedSimpArgs false
set_option linter.unusedVariables false
open Go Go.Mid Go.RowKit
attribute [local irreducible] mid
section
set_option maxHeartbeats 8000000
set_option maxRecDepth 10000
variable {h : Hp} {K : Value → Hp → Prop}
def clN (L : List Ev) (i k : Nat) : Bool := match L[i]?, L[k]? with
  | some a, some b => decide (i < k) && clashB a b
  | _, _ => false
theorem clN_at {L : List Ev} {i k : Nat} {a b : Ev} (ha : L[i]? = some a) (hb : L[k]? = some b) (h : i < k) : clN L i k = clashB a b := by
  unfold clN
  rw [ha, hb]
  simp [h]
def rowUp (L : List Ev) (i k : Nat) : List (Nat × Nat) := ((List.range k).filter fun j => clN L i j).map fun j => (i, j)
theorem rowUp_succ (L : List Ev) (i k : Nat) : rowUp L i (k + 1) = rowUp L i k ++ if clN L i k = true then [(i, k)] else [] := by
  unfold rowUp
  rw [List.range_succ, List.filter_append, List.map_append]
  congr 1
  by_cases hc : clN L i k = true
  · simp [hc]
  · simp [hc]
theorem clN_le {L : List Ev} {i k : Nat} (h : k ≤ i) : clN L i k = false := by
  unfold clN
  split
  · rw [decide_eq_false (by omega)]; rfl
  · rfl
theorem rowUp_start (L : List Ev) (i : Nat) : rowUp L i (i + 1) = [] := by
  unfold rowUp
  rw [List.filter_eq_nil_iff.2 (fun j hj => by rw [clN_le (by have := List.mem_range.1 hj; omega)]; simp)]
  rfl
/-- The pairs ahead of (i, k). -/
def pre (L : List Ev) (i k : Nat) : List (Nat × Nat) := (List.range i).flatMap (fun j => rowUp L j L.length) ++ rowUp L i k
theorem pre_next (L : List Ev) (i : Nat) : pre L (i + 1) (i + 2) = pre L i L.length := by
  unfold pre
  rw [rowUp_start, List.append_nil, List.range_succ, List.flatMap_append]
  simp
theorem pre_succ (L : List Ev) (i k : Nat) : pre L i (k + 1) = pre L i k ++ if clN L i k = true then [(i, k)] else [] := by
  unfold pre
  rw [rowUp_succ, List.append_assoc]
theorem pre_zero (L : List Ev) : pre L 0 1 = [] := by
  unfold pre
  rw [rowUp_start]
  rfl
/-- All pairs that clash. -/
def wantL (L : List Ev) : List (Nat × Nat) := (List.range L.length).flatMap fun j => rowUp L j L.length
theorem pre_end (L : List Ev) : pre L L.length (L.length + 1) = wantL L := by
  unfold pre wantL
  rw [rowUp_start, List.append_nil]
theorem rowUp_pre (L : List Ev) (i : Nat) : ∀ (d k : Nat), rowUp L i k <+: rowUp L i (k + d)
  | 0, k => List.prefix_refl _
  | d + 1, k => by
    refine (rowUp_pre L i d k).trans ?_
    rw [show k + (d + 1) = k + d + 1 by omega, rowUp_succ]
    exact List.prefix_append _ _
theorem pre_want {L : List Ev} {i k : Nat} (hi : i < L.length) (hk : k ≤ L.length) : pre L i k <+: wantL L := by
  unfold pre wantL
  obtain ⟨d, hd⟩ : ∃ d, L.length = i + 1 + d := ⟨L.length - (i + 1), by omega⟩
  have h1 : rowUp L i k <+: rowUp L i L.length := by
    have := rowUp_pre L i (L.length - k) k
    rwa [show k + (L.length - k) = L.length by omega] at this
  have h2 : (List.range (i + 1)).flatMap (fun j => rowUp L j L.length) = (List.range i).flatMap (fun j => rowUp L j L.length) ++ rowUp L i L.length := by
    rw [List.range_succ, List.flatMap_append]; simp
  have h3 : (List.range (i + 1)).flatMap (fun j => rowUp L j L.length) <+: (List.range L.length).flatMap (fun j => rowUp L j L.length) := by
    have h4 : List.range L.length = List.range (i + 1) ++ (List.range d).map (fun x => i + 1 + x) := by rw [hd, List.range_add]
    rw [h4, List.flatMap_append]
    exact List.prefix_append _ _
  rw [h2] at h3
  exact ((List.prefix_append_right_inj _).2 h1).trans h3
theorem want_at {L : List Ev} {i k : Nat} (hi : i < L.length) (hk : k < L.length) (hc : clN L i k = true) : (wantL L)[(pre L i k).length]? = some (i, k) := by
  have h1 := pre_want hi (show k + 1 ≤ L.length by omega)
  rw [pre_succ, if_pos hc] at h1
  obtain ⟨r, hr⟩ := h1
  rw [← hr, List.append_assoc, List.getElem?_append_right (Nat.le_refl _)]
  simp
theorem rdE_at {s : Value} {L : List Ev} (r : RdE h s L) : ∃ base cap, s = .slice base L.length cap ∧ ∀ (i : Nat) (x : Ev), L[i]? = some x → ∃ a, base = some a ∧ loadH Tryd.prog 42 h (a.add (((i : Int)).toNat * 65)) = some (.agg x.cs.toArray) := by
  obtain ⟨base, cap, e, f⟩ := rdE r
  exact ⟨base, cap, e, fun i x hx => by rw [Int.toNat_natCast]; exact f i x hx⟩
theorem aggEs : isAggT Tryd.prog 22 = some false := by kernel_rfl
theorem clashes_x (base : Option Addr) (len cap : Nat) (hk : ∀ b h', h b = none → h.le h' → h' b = some (rowO 22 [.slice base len cap]) → (∀ c, c ≠ b → h' c = h c) → K (.func (.func 9) #[] #[.pointer (some ⟨b, 0, none⟩)]) h') :
    X Tryd.prog 5 #[.slice base len cap] h K := by
  refine fnv (args := _) mixed [] [] [] Tryd.func5 rfl (by kernel_rfl) ?_
  conv => whnf
  refine new_intro (o := rowO 22 [.slice base len cap]) (fun b h1 n_b le_b at_b ot_b => ?_)
  conv => whnf
  exact hk b h1 n_b le_b at_b ot_b
theorem clashes1_x (y : Value) (b : Nat) (s : Value) (L : List Ev) (I : Nat → Hp → Prop) (hL : L.length ≤ 60) (hok : ∀ e ∈ L, e.ok)
    (hI : ∀ m h', I m h' → h' b = some (rowO 22 [s]) ∧ RdE h' s L) (h0 : I 0 h)
    (hs : ∀ m (i k : Nat) h', (wantL L)[m]? = some (i, k) → I m h' → YV Tryd.prog y [.int .i64 i, .int .i64 k] h' fun v h'' => ∃ go : Bool, v = .bool go ∧ (go = true → I (m + 1) h'') ∧ (go = false → K (.tuple #[]) h''))
    (hk : ∀ h', I (wantL L).length h' → K (.tuple #[]) h') : X Tryd.prog 9 #[y, .pointer (some ⟨b, 0, none⟩)] h K := by
  obtain ⟨hb0, hr0⟩ := hI 0 h h0
  obtain ⟨base0, cap0, es, _⟩ := rdE hr0
  subst es
  refine fnv (args := _) mixed [] [] [] Tryd.func9 rfl (by kernel_rfl) ?_
  conv => whnf
  refine ⟨_, loadC0 aggEs hb0 rfl, ?_⟩
  conv => whnf
  refine loop_at [7] [] (fun r vs _ h' => ∃ i : Nat, i ≤ L.length ∧ r = L.length - i ∧ vs = [.v (.int .i64 i)] ∧ I (pre L i (i + 1)).length h') L.length ⟨0, by omega, by omega, rfl, by rw [pre_zero]; exact h0⟩ ?_
  rintro r vs cs mm bx h1 ⟨i, hi, rfl, rfl, hi1⟩
  conv => whnf
  refine bsel_intro (fun q1 => ?_) (fun q1 => ?_) <;> try simp only [decide_eq_true_eq, decide_eq_false_iff_not, beq_iff_eq, beq_eq_false_iff_ne, ne_eq, Bool.not_eq_true', Bool.not_eq_false', bne_iff_ne, bne_eq_false_iff_eq, Bool.not_eq_true, Bool.not_eq_false, Bool.and_eq_true, Bool.or_eq_true, bs_size] at q1
  · have hiL : i < L.length := by omega
    obtain ⟨ea, hea⟩ : ∃ e, L[i]? = some e := ⟨_, List.getElem?_eq_getElem hiL⟩
    have hao := hok ea (List.mem_of_getElem? hea)
    conv => whnf
    first | refine ov_i64 (by omega) ?_ | refine ov_u64 (by omega) ?_ | refine ov_i64 (by decide) ?_ | refine ov_u64 (by decide) ?_ | refine ov_u8 (by omega) ?_ | refine ov_i32 (by omega) ?_ | refine ov_u32 (by omega) ?_
    conv => whnf
    refine loop_at [4] [] (fun r vs _ h' => ∃ k : Nat, i + 1 ≤ k ∧ k ≤ L.length ∧ r = L.length - k ∧ vs = [.v (.int .i64 k)] ∧ I (pre L i k).length h') (L.length - (i + 1)) ⟨i + 1, by omega, by omega, rfl, by rfl, hi1⟩ ?_
    rintro r vs cs mm bx h2 ⟨k, k1, k2, rfl, rfl, hi2⟩
    obtain ⟨hb2, hr2⟩ := hI _ _ hi2
    obtain ⟨_, _, e0, f2⟩ := rdE_at hr2
    cases e0
    conv => whnf
    refine ⟨_, loadC0 aggEs hb2 rfl, ?_⟩
    conv => whnf
    refine bsel_intro (fun q2 => ?_) (fun q2 => ?_) <;> try simp only [decide_eq_true_eq, decide_eq_false_iff_not, beq_iff_eq, beq_eq_false_iff_ne, ne_eq, Bool.not_eq_true', Bool.not_eq_false', bne_iff_ne, bne_eq_false_iff_eq, Bool.not_eq_true, Bool.not_eq_false, Bool.and_eq_true, Bool.or_eq_true, bs_size] at q2
    · have hkL : k < L.length := by omega
      obtain ⟨eb, heb⟩ : ∃ e, L[k]? = some e := ⟨_, List.getElem?_eq_getElem hkL⟩
      have hbo := hok eb (List.mem_of_getElem? heb)
      obtain ⟨a3, rfl, l1⟩ := f2 i ea hea
      obtain ⟨_, ea3, l2⟩ := f2 k eb heb
      cases ea3
      have hcl := clN_at hea heb (show i < k by omega)
      conv => whnf
      refine ⟨_, loadC0 aggEs hb2 rfl, ?_⟩
      conv => whnf
      first | refine need_intro (⟨by omega, by omega⟩) ?_ | refine must.mk (⟨by omega, by omega⟩) ?_
      conv => whnf
      refine ⟨_, l1, ?_⟩
      conv => whnf
      refine ⟨_, loadC0 aggEs hb2 rfl, ?_⟩
      conv => whnf
      first | refine need_intro (⟨by omega, by omega⟩) ?_ | refine must.mk (⟨by omega, by omega⟩) ?_
      conv => whnf
      refine ⟨_, l2, ?_⟩
      conv => whnf
      refine clash_x ea eb hao hbo ?_
      refine ⟨trivial, ?_⟩
      conv => whnf
      refine bsel_intro (fun q3 => ?_) (fun q3 => ?_)
      · have hc : clN L i k = true := hcl.trans q3
        have hy := hs _ i k h2 (want_at hiL hkL hc) hi2
        have hps := pre_succ L i k
        rw [if_pos hc] at hps
        have hpl : (pre L i (k + 1)).length = (pre L i k).length + 1 := by rw [hps]; simp
        conv => whnf
        refine aRunK_yv rfl rfl rfl (hy.mono ?_)
        rintro v h3 ⟨go, rfl, g1, g2⟩
        cases go with
        | false =>
          refine ⟨trivial, ?_⟩
          conv => whnf
          exact g2 rfl
        | true =>
          refine ⟨trivial, ?_⟩
          conv => whnf
          first | refine ov_i64 (by omega) ?_ | refine ov_u64 (by omega) ?_ | refine ov_i64 (by decide) ?_ | refine ov_u64 (by decide) ?_ | refine ov_u8 (by omega) ?_ | refine ov_i32 (by omega) ?_ | refine ov_u32 (by omega) ?_
          conv => whnf
          refine ⟨L.length - (k + 1), by omega, k + 1, by omega, by omega, rfl, rfl, ?_⟩
          rw [hpl]; exact g1 rfl
      · have hc : clN L i k = false := hcl.trans q3
        have hps := pre_succ L i k
        rw [if_neg (by simp [hc]), List.append_nil] at hps
        conv => whnf
        first | refine ov_i64 (by omega) ?_ | refine ov_u64 (by omega) ?_ | refine ov_i64 (by decide) ?_ | refine ov_u64 (by decide) ?_ | refine ov_u8 (by omega) ?_ | refine ov_i32 (by omega) ?_ | refine ov_u32 (by omega) ?_
        conv => whnf
        refine ⟨L.length - (k + 1), by omega, k + 1, by omega, by omega, rfl, rfl, ?_⟩
        rw [hps]; exact hi2
    · have : k = L.length := by omega
      subst this
      conv => whnf
      first | refine ov_i64 (by omega) ?_ | refine ov_u64 (by omega) ?_ | refine ov_i64 (by decide) ?_ | refine ov_u64 (by decide) ?_ | refine ov_u8 (by omega) ?_ | refine ov_i32 (by omega) ?_ | refine ov_u32 (by omega) ?_
      conv => whnf
      refine ⟨L.length - (i + 1), by omega, i + 1, by omega, rfl, rfl, ?_⟩
      rw [pre_next]; exact hi2
  · have : i = L.length := by omega
    subst this
    rw [pre_end] at hi1
    conv => whnf
    exact hk _ hi1
end
end Go.Proofs.YtcmhfofmloiaiaaDoor
