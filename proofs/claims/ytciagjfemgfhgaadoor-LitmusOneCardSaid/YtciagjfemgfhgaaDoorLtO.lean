/-
  An outcome's text.
-/
import Derived.Test.YtciagjfemgfhgaaDoorLtN
import Derived.Test.YtciagjfemgfhgaaDoorLibCy
import Derived.Test.YtciagjfemgfhgaaDoorLibNr
namespace Go.Proofs.YtciagjfemgfhgaaDoor
set_option linter.unusedSimpArgs false
set_option linter.unusedVariables false
open Go Go.Mid Go.RowKit
attribute [local irreducible] mid
abbrev dg (n : Nat) : Str := Lib.decDigits n
/-- Four words. -/
def four (a b c d : Nat) : Str := dg a ++ [32] ++ dg b ++ [32] ++ dg c ++ [32] ++ dg d
def four4 : List Nat → Str
  | [a, b, c, d] => four a b c d
  | _ => []
/-- An outcome's text. -/
def showT (W : List Nat) (n : Nat) : Str := four4 (W.take 4) ++ (List.range n).flatMap fun t => [32, 124, 32] ++ four4 ((W.drop (4 + t * 4)).take 4)
theorem showT_zero (W : List Nat) : showT W 0 = four4 (W.take 4) := by simp [showT]
theorem showT_succ (W : List Nat) (n : Nat) : showT W (n + 1) = showT W n ++ ([32, 124, 32] ++ four4 ((W.drop (4 + n * 4)).take 4)) := by
  unfold showT
  rw [List.range_succ, List.flatMap_append, ← List.append_assoc]
  simp
theorem dg_ne (n : Nat) : dg n ≠ [] := fun e => by
  have : (dg n).length = Lib.nDigits n := Lib.decDigits_length n
  rw [e] at this
  unfold Lib.nDigits at this
  split at this <;> simp at this
theorem four_len {a b c d : Nat} (ha : a < 18446744073709551616) (hb : b < 18446744073709551616) (hc : c < 18446744073709551616) (hd : d < 18446744073709551616) : (four a b c d).length ≤ 83 := by
  have : (dg a).length ≤ 20 := dec_len ha
  have : (dg b).length ≤ 20 := dec_len hb
  have : (dg c).length ≤ 20 := dec_len hc
  have : (dg d).length ≤ 20 := dec_len hd
  simp only [four, List.length_append, List.length_singleton]
  omega
theorem quad {W : List Nat} (h : W.length = 16) (i : Nat) (hi : i ≤ 12) : ∃ a b c d, (W.drop i).take 4 = [a, b, c, d] := by
  have : ((W.drop i).take 4).length = 4 := by rw [List.length_take, List.length_drop]; omega
  match (W.drop i).take 4, this with
  | [a, b, c, d], _ => exact ⟨a, b, c, d, rfl⟩
theorem quad_lt {W : List Nat} (hw : ∀ x ∈ W, x < 18446744073709551616) {i a b c d : Nat} (h : (W.drop i).take 4 = [a, b, c, d]) : a < 18446744073709551616 ∧ b < 18446744073709551616 ∧ c < 18446744073709551616 ∧ d < 18446744073709551616 := by
  have k : ∀ x ∈ [a, b, c, d], x < 18446744073709551616 := fun x hx => by
    rw [← h] at hx
    exact hw x (List.mem_of_mem_drop (List.mem_of_mem_take hx))
  exact ⟨k a (by simp), k b (by simp), k c (by simp), k d (by simp)⟩
theorem quad_cs {o : Oc} {i a b c d : Nat} (h : (o.W.drop i).take 4 = [a, b, c, d]) : (o.cs.drop i).take 4 = [uv a, uv b, uv c, uv d] := by
  unfold Oc.cs
  rw [← List.map_drop, ← List.map_take, h]
  rfl
theorem showT_len {W : List Nat} (h : W.length = 16) (hw : ∀ x ∈ W, x < 18446744073709551616) : ∀ n, n ≤ 3 → (showT W n).length ≤ 83 + n * 86
  | 0, _ => by
    obtain ⟨a, b, c, d, e⟩ := quad h 0 (by decide)
    obtain ⟨h1, h2, h3, h4⟩ := quad_lt hw e
    rw [List.drop_zero] at e
    rw [showT_zero, e]
    exact four_len h1 h2 h3 h4
  | n + 1, hn => by
    have ih := showT_len h hw n (by omega)
    obtain ⟨a, b, c, d, e⟩ := quad h (4 + n * 4) (by omega)
    obtain ⟨h1, h2, h3, h4⟩ := quad_lt hw e
    have := four_len h1 h2 h3 h4
    rw [showT_succ, e]
    simp only [List.length_append, List.length_cons, List.length_nil, four4]
    omega
section
set_option maxHeartbeats 8000000
set_option maxRecDepth 10000
variable {h : Hp} {K : Value → Hp → Prop}
theorem showc_x {k : Hp} (hp : Pow k) (b : Nat) (l : Str) (a0 a1 a2 a3 : Nat) (h0 : a0 < 18446744073709551616) (h1 : a1 < 18446744073709551616) (h2 : a2 < 18446744073709551616) (h3 : a3 < 18446744073709551616) (hB : Bds 61 k h b l) (hl : l.length ≤ 2 ^ 20)
    (hk : ∀ h', Bds 61 k h' b (l ++ four a0 a1 a2 a3) → K (.tuple #[]) h') : X Tryd.prog 19 #[.agg #[uv a0, uv a1, uv a2, uv a3], .pointer (some ⟨b, 0, none⟩)] h K := by
  have g0 : (dg a0).length ≤ 20 := dec_len h0
  have g0' := dec_len h0
  have g1 : (dg a1).length ≤ 20 := dec_len h1
  have g1' := dec_len h1
  have g2 : (dg a2).length ≤ 20 := dec_len h2
  have g2' := dec_len h2
  have g3 : (dg a3).length ≤ 20 := dec_len h3
  have g3' := dec_len h3
  refine fnv (args := _) mixed [(2, 2)] [] [] Tryd.func19 rfl (by kernel_rfl) ?_
  conv => whnf
  refine loop_step ?_
  conv => whnf
  refine fmtU_x (hp.le hB.le) a0 h0 ?_
  conv => whnf
  refine hB.ws liesB (dg a0) (dg_ne _) (by omega) fun h4 hB => ?_
  conv => whnf
  first | refine ov_i64 (by omega) ?_ | refine ov_u64 (by omega) ?_ | refine ov_i64 (by decide) ?_ | refine ov_u64 (by decide) ?_ | refine ov_u8 (by omega) ?_ | refine ov_i32 (by omega) ?_ | refine ov_u32 (by omega) ?_
  conv => whnf
  refine loop_step ?_
  conv => whnf
  refine hB.wb liesB 32 (by simp only [List.length_append, List.length_singleton]; omega) fun h5 hB => ?_
  conv => whnf
  refine fmtU_x (hp.le hB.le) a1 h1 ?_
  conv => whnf
  refine hB.ws liesB (dg a1) (dg_ne _) (by simp only [List.length_append, List.length_singleton]; omega) fun h6 hB => ?_
  conv => whnf
  first | refine ov_i64 (by omega) ?_ | refine ov_u64 (by omega) ?_ | refine ov_i64 (by decide) ?_ | refine ov_u64 (by decide) ?_ | refine ov_u8 (by omega) ?_ | refine ov_i32 (by omega) ?_ | refine ov_u32 (by omega) ?_
  conv => whnf
  refine loop_step ?_
  conv => whnf
  refine hB.wb liesB 32 (by simp only [List.length_append, List.length_singleton]; omega) fun h7 hB => ?_
  conv => whnf
  refine fmtU_x (hp.le hB.le) a2 h2 ?_
  conv => whnf
  refine hB.ws liesB (dg a2) (dg_ne _) (by simp only [List.length_append, List.length_singleton]; omega) fun h8 hB => ?_
  conv => whnf
  first | refine ov_i64 (by omega) ?_ | refine ov_u64 (by omega) ?_ | refine ov_i64 (by decide) ?_ | refine ov_u64 (by decide) ?_ | refine ov_u8 (by omega) ?_ | refine ov_i32 (by omega) ?_ | refine ov_u32 (by omega) ?_
  conv => whnf
  refine loop_step ?_
  conv => whnf
  refine hB.wb liesB 32 (by simp only [List.length_append, List.length_singleton]; omega) fun h9 hB => ?_
  conv => whnf
  refine fmtU_x (hp.le hB.le) a3 h3 ?_
  conv => whnf
  refine hB.ws liesB (dg a3) (dg_ne _) (by simp only [List.length_append, List.length_singleton]; omega) fun h10 hB => ?_
  conv => whnf
  first | refine ov_i64 (by omega) ?_ | refine ov_u64 (by omega) ?_ | refine ov_i64 (by decide) ?_ | refine ov_u64 (by decide) ?_ | refine ov_u8 (by omega) ?_ | refine ov_i32 (by omega) ?_ | refine ov_u32 (by omega) ?_
  conv => whnf
  refine loop_step ?_
  conv => whnf
  refine hk _ ?_
  simpa [four] using hB
theorem four_x (a0 a1 a2 a3 : Nat) (h0 : a0 < 18446744073709551616) (h1 : a1 < 18446744073709551616) (h2 : a2 < 18446744073709551616) (h3 : a3 < 18446744073709551616)
    (hk : K (.string (bs (four a0 a1 a2 a3))) h) : X Tryd.prog 24 #[.agg #[uv a0, uv a1, uv a2, uv a3]] h K := by
  have g0 : (dg a0).length ≤ 20 := dec_len h0
  have g0' := dec_len h0
  have g1 : (dg a1).length ≤ 20 := dec_len h1
  have g1' := dec_len h1
  have g2 : (dg a2).length ≤ 20 := dec_len h2
  have g2' := dec_len h2
  have g3 : (dg a3).length ≤ 20 := dec_len h3
  have g3' := dec_len h3
  refine fnv (args := _) mixed [(1, 1), (15, 1)] [] [] Tryd.func24 rfl (by kernel_rfl) ?_
  conv => whnf
  refine loop_step ?_
  conv => whnf
  refine rPlain_x a0 h0 ?_
  conv => whnf
  refine cat_by (m := dg a0) (by simp; omega) (by simp) ?_
  conv => whnf
  first | refine ov_i64 (by omega) ?_ | refine ov_u64 (by omega) ?_ | refine ov_i64 (by decide) ?_ | refine ov_u64 (by decide) ?_ | refine ov_u8 (by omega) ?_ | refine ov_i32 (by omega) ?_ | refine ov_u32 (by omega) ?_
  conv => whnf
  refine loop_step ?_
  conv => whnf
  refine cat_intro (a := dg a0) (by simp; omega) ?_
  conv => whnf
  refine rPlain_x a1 h1 ?_
  conv => whnf
  refine cat_intro (a := dg a0 ++ [32]) (by simp; omega) ?_
  conv => whnf
  first | refine ov_i64 (by omega) ?_ | refine ov_u64 (by omega) ?_ | refine ov_i64 (by decide) ?_ | refine ov_u64 (by decide) ?_ | refine ov_u8 (by omega) ?_ | refine ov_i32 (by omega) ?_ | refine ov_u32 (by omega) ?_
  conv => whnf
  refine loop_step ?_
  conv => whnf
  refine cat_intro (a := dg a0 ++ [32] ++ dg a1) (by simp; omega) ?_
  conv => whnf
  refine rPlain_x a2 h2 ?_
  conv => whnf
  refine cat_intro (a := dg a0 ++ [32] ++ dg a1 ++ [32]) (by simp; omega) ?_
  conv => whnf
  first | refine ov_i64 (by omega) ?_ | refine ov_u64 (by omega) ?_ | refine ov_i64 (by decide) ?_ | refine ov_u64 (by decide) ?_ | refine ov_u8 (by omega) ?_ | refine ov_i32 (by omega) ?_ | refine ov_u32 (by omega) ?_
  conv => whnf
  refine loop_step ?_
  conv => whnf
  refine cat_intro (a := dg a0 ++ [32] ++ dg a1 ++ [32] ++ dg a2) (by simp; omega) ?_
  conv => whnf
  refine rPlain_x a3 h3 ?_
  conv => whnf
  refine cat_intro (a := dg a0 ++ [32] ++ dg a1 ++ [32] ++ dg a2 ++ [32]) (by simp; omega) ?_
  conv => whnf
  first | refine ov_i64 (by omega) ?_ | refine ov_u64 (by omega) ?_ | refine ov_i64 (by decide) ?_ | refine ov_u64 (by decide) ?_ | refine ov_u8 (by omega) ?_ | refine ov_i32 (by omega) ?_ | refine ov_u32 (by omega) ?_
  conv => whnf
  refine loop_step ?_
  conv => whnf
  exact hk
theorem show_x (hp : Pow h) (o : Oc) (hw : ∀ x ∈ o.W, x < 18446744073709551616) (th : Int) (hk : ∀ h', h.le h' → K (.string (bs (showT o.W (min th.toNat 3)))) h') : X Tryd.prog 7 #[.agg o.cs.toArray, zv th] h K := by
  obtain ⟨n, hn⟩ : ∃ n : Nat, n = min th.toNat 3 := ⟨_, rfl⟩
  rw [← hn] at hk
  have hol := ocs_len o
  have hlen := showT_len o.len hw
  refine fnv (args := _) mixed [] [] [] Tryd.func7 rfl (by kernel_rfl) ?_
  conv => whnf
  refine new_intro (o := rowO 29 o.cs) (fun bo h1 n_bo le_bo at_bo ot_bo => ?_)
  conv => whnf
  refine new_intro (o := rowO 61 [.pointer none, .slice none 0 0]) (fun b h2 n_b le_b at_b ot_b => ?_)
  conv => whnf
  have hB := Bds.of (k := h1) le_b n_b at_b
  have hp1 := hp.le le_bo
  obtain ⟨a0, a1, a2, a3, e0⟩ := quad o.len 0 (by decide)
  obtain ⟨g0, g1, g2, g3⟩ := quad_lt hw e0
  have s0 := showT_zero o.W
  have c0 := quad_cs e0
  rw [List.drop_zero] at e0
  rw [e0] at s0
  have at2 := le_b _ _ at_bo
  clear ot_b at_b le_b n_b
  conv => whnf
  refine ⟨_, loadP (k := 0) agg4 siz4 at2 c0 rfl, ?_⟩
  conv => whnf
  refine showc_x hp1 b [] a0 a1 a2 a3 g0 g1 g2 g3 hB (by decide) fun h3 hB3 => ?_
  rw [List.nil_append, show four a0 a1 a2 a3 = showT o.W 0 from s0.symm] at hB3
  conv => whnf
  refine loop_at [16] [] (fun r vs _ h' => ∃ i : Nat, i ≤ n ∧ r = n - i ∧ vs = [.v (zv i)] ∧ Bds 61 h1 h' b (showT o.W i)) n ⟨0, by omega, by omega, rfl, hB3⟩ ?_
  clear hB hB3 e0 c0 s0 g0 g1 g2 g3
  rintro r vs cs mm bx h4 ⟨i, hi, rfl, rfl, hB4⟩
  have hl := hlen i (by omega)
  conv => whnf
  refine bsel_intro (fun q1 => ?_) (fun q1 => ?_) <;> try simp only [decide_eq_true_eq, decide_eq_false_iff_not, beq_iff_eq, beq_eq_false_iff_ne, ne_eq, Bool.not_eq_true', Bool.not_eq_false', bne_iff_ne, bne_eq_false_iff_eq, Bool.not_eq_true, Bool.not_eq_false, Bool.and_eq_true, Bool.or_eq_true, bs_size] at q1
  · have hin : i < n := by
      rw [hn]
      omega
    have hi3 : i < 3 := by omega
    have hsc := showT_succ o.W i
    obtain ⟨a0, a1, a2, a3, e0⟩ := quad o.len (4 + i * 4) (by omega)
    obtain ⟨g0, g1, g2, g3⟩ := quad_lt hw e0
    have c0 := quad_cs e0
    rw [e0] at hsc
    conv => whnf
    refine hB4.ws liesB [32, 124, 32] (by simp) (by simp; omega) fun h5 hB5 => ?_
    have at5 := hB5.le _ _ at_bo
    conv => whnf
    first | refine need_intro (⟨by omega, by omega⟩) ?_ | refine must.mk (⟨by omega, by omega⟩) ?_
    conv => whnf
    refine ⟨_, loadPA (k := 4 + i * 4) (show ((⟨bo, 0, none⟩ : Addr).add 4).add (((i : Nat) : Int).toNat * 4) = ⟨bo, 4 + i * 4, none⟩ by simp [addr_add]) agg4 siz4 at5 c0 rfl, ?_⟩
    conv => whnf
    refine showc_x hp1 b _ a0 a1 a2 a3 g0 g1 g2 g3 hB5 (by simp; omega) fun h6 hB6 => ?_
    have hB6 : Bds 61 h1 h6 b (showT o.W (i + 1)) := by
      rw [hsc, ← List.append_assoc]; exact hB6
    conv => whnf
    first | refine ov_i64 (by omega) ?_ | refine ov_u64 (by omega) ?_ | refine ov_i64 (by decide) ?_ | refine ov_u64 (by decide) ?_ | refine ov_u8 (by omega) ?_ | refine ov_i32 (by omega) ?_ | refine ov_u32 (by omega) ?_
    conv => whnf
    exact ⟨n - (i + 1), by omega, i + 1, by omega, rfl, rfl, hB6⟩
  · have hin : i = n := by
      rw [hn] at hi ⊢
      omega
    subst hin
    conv => whnf
    refine hB4.str (by omega) fun h7 hle => ?_
    conv => whnf
    exact hk _ (Hp.le_trans le_bo hle)
theorem rshow_x (o : Oc) (hw : ∀ x ∈ o.W, x < 18446744073709551616) (th : Int) (hk : ∀ h', h.le h' → K (.string (bs (showT o.W (min th.toNat 3)))) h') : X Tryd.prog 8 #[.agg o.cs.toArray, zv th] h K := by
  obtain ⟨n, hn⟩ : ∃ n : Nat, n = min th.toNat 3 := ⟨_, rfl⟩
  rw [← hn] at hk
  have hol := ocs_len o
  have hlen := showT_len o.len hw
  refine fnv (args := _) mixed [] [] [] Tryd.func8 rfl (by kernel_rfl) ?_
  conv => whnf
  refine new_intro (o := rowO 32 o.cs) (fun bo h1 n_bo le_bo at_bo ot_bo => ?_)
  conv => whnf
  obtain ⟨a0, a1, a2, a3, e0⟩ := quad o.len 0 (by decide)
  obtain ⟨g0, g1, g2, g3⟩ := quad_lt hw e0
  have s0 := showT_zero o.W
  have c0 := quad_cs e0
  rw [List.drop_zero] at e0
  rw [e0] at s0
  conv => whnf
  refine ⟨_, loadP (k := 0) agg4 siz4 at_bo c0 rfl, ?_⟩
  conv => whnf
  refine four_x a0 a1 a2 a3 g0 g1 g2 g3 ?_
  rw [show four a0 a1 a2 a3 = showT o.W 0 from s0.symm]
  conv => whnf
  refine loop_at [6, 5] [] (fun r vs _ h' => h1 = h' ∧ ∃ i : Nat, i ≤ n ∧ r = n - i ∧ vs = [.v (zv i), .v (.string (bs (showT o.W i)))]) n ⟨rfl, 0, by omega, by omega, rfl⟩ ?_
  clear e0 c0 s0 g0 g1 g2 g3
  rintro r vs cs mm bx _ ⟨rfl, i, hi, rfl, rfl⟩
  have hl := hlen i (by omega)
  conv => whnf
  refine bsel_intro (fun q1 => ?_) (fun q1 => ?_) <;> try simp only [decide_eq_true_eq, decide_eq_false_iff_not, beq_iff_eq, beq_eq_false_iff_ne, ne_eq, Bool.not_eq_true', Bool.not_eq_false', bne_iff_ne, bne_eq_false_iff_eq, Bool.not_eq_true, Bool.not_eq_false, Bool.and_eq_true, Bool.or_eq_true, bs_size] at q1
  · conv => whnf
    refine bsel_intro (fun q2 => ?_) (fun q2 => ?_) <;> try simp only [decide_eq_true_eq, decide_eq_false_iff_not, beq_iff_eq, beq_eq_false_iff_ne, ne_eq, Bool.not_eq_true', Bool.not_eq_false', bne_iff_ne, bne_eq_false_iff_eq, Bool.not_eq_true, Bool.not_eq_false, Bool.and_eq_true, Bool.or_eq_true, bs_size] at q2
    · have hin : i < n := by omega
      have hi3 : i < 3 := by omega
      have hsc := showT_succ o.W i
      obtain ⟨a0, a1, a2, a3, e0⟩ := quad o.len (4 + i * 4) (by omega)
      obtain ⟨g0, g1, g2, g3⟩ := quad_lt hw e0
      have c0 := quad_cs e0
      have hfl := four_len g0 g1 g2 g3
      rw [e0] at hsc
      conv => whnf
      refine cat_intro (by simp; omega) ?_
      conv => whnf
      first | refine need_intro (⟨by omega, by omega⟩) ?_ | refine must.mk (⟨by omega, by omega⟩) ?_
      conv => whnf
      refine ⟨_, loadPA (k := 4 + i * 4) (show ((⟨bo, 0, none⟩ : Addr).add 4).add (((i : Nat) : Int).toNat * 4) = ⟨bo, 4 + i * 4, none⟩ by simp [addr_add]) agg4 siz4 at_bo c0 rfl, ?_⟩
      conv => whnf
      refine four_x a0 a1 a2 a3 g0 g1 g2 g3 ?_
      conv => whnf
      refine cat_by (m := showT o.W (i + 1)) (by simp; omega) (by rw [hsc, ← List.append_assoc]; rfl) ?_
      conv => whnf
      first | refine ov_i64 (by omega) ?_ | refine ov_u64 (by omega) ?_ | refine ov_i64 (by decide) ?_ | refine ov_u64 (by decide) ?_ | refine ov_u8 (by omega) ?_ | refine ov_i32 (by omega) ?_ | refine ov_u32 (by omega) ?_
      conv => whnf
      exact ⟨n - (i + 1), by omega, rfl, i + 1, by omega, rfl, rfl⟩
    · have hin2 : i = n := by omega
      subst hin2
      conv => whnf
      exact hk _ le_bo
  · have hin2 : i = n := by omega
    subst hin2
    conv => whnf
    exact hk _ le_bo
end
end Go.Proofs.YtciagjfemgfhgaaDoor
