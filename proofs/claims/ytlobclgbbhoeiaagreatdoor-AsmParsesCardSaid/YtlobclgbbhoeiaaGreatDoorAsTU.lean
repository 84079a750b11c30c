/-
  Numbers that are written: the document's and the program's are one.
-/
import Derived.Test.YtlobclgbbhoeiaaGreatDoorLibQ
import Derived.Test.YtlobclgbbhoeiaaGreatDoorAsP
import Derived.Test.YtlobclgbbhoeiaaGreatDoorAsS
/-! Numbers that are written: the document's and the program's are one. -/
namespace Go.Proofs.YtlobclgbbhoeiaaGreatDoor
set_option linter.unusedSimpArgs false
set_option linter.unusedVariables false
open Go Go.Mid Go.RowKit
attribute [local irreducible] mid
def NumS (s : Str) (k : Int) (ok : Bool) : Prop := (ok = true → Lib.itoa k = s ∧ -9223372036854775808 ≤ k ∧ k ≤ 9223372036854775807) ∧ (∀ v : Int, -9223372036854775808 ≤ v → v ≤ 9223372036854775807 → Lib.itoa v = s → ok = true ∧ k = v) ∧ (ok = false → k = 0)
theorem NumS.no {s : Str} (h : ∀ v : Int, -9223372036854775808 ≤ v → v ≤ 9223372036854775807 → Lib.itoa v ≠ s) : NumS s 0 false := ⟨fun e => (by cases e), fun v v1 v2 e => absurd e (h v v1 v2), fun _ => rfl⟩
theorem numA_itoa {v : Int} (h1 : -9223372036854775808 ≤ v) (h2 : v ≤ 9223372036854775807) : numA (Lib.itoa v) = some v := by
  unfold numA
  rw [parse_itoa h1 h2]
  simp
theorem numA_some {s : Str} {v : Int} (h : numA s = some v) : Lib.itoa v = s := by
  unfold numA at h
  split at h
  · split at h
    · rename_i h2; cases h; exact h2
    · cases h
  · cases h
theorem NumS.eq {s : Str} {k : Int} {ok : Bool} (h : NumS s k ok) : k = (numA s).getD 0 ∧ ok = (numA s).isSome := by
  obtain ⟨h1, h2, h3⟩ := h
  cases hn : numA s with
  | some v =>
    have := h2 v (numA_rng hn).1 (numA_rng hn).2 (numA_some hn)
    exact ⟨this.2, this.1⟩
  | none =>
    cases ok with
    | true =>
      obtain ⟨e, r1, r2⟩ := h1 rfl
      rw [← e, numA_itoa r1 r2] at hn; cases hn
    | false => exact ⟨h3 rfl, rfl⟩
theorem numF2 (s t : Str) (below : Bool) (hb : below = true → s = 45 :: t) (hn : below = false → t = s ∧ ∀ c r, s = c :: r → c ≠ 45) (v : Int) (h1 : -9223372036854775808 ≤ v) (h2 : v ≤ 9223372036854775807) (e : Lib.itoa v = s) :
    (below = true ↔ v < 0) ∧ digs t ∧ dv t = v.natAbs ∧ t ≠ [] ∧ t.length ≤ 19 := by
  have l19 : ∀ n : Nat, n ≤ 9223372036854775808 → (Lib.decDigits n).length ≤ 19 := fun n hn => by
    rw [Lib.decDigits_length]
    exact nDig_le 18 n (by omega)
  rcases Int.lt_or_le v 0 with h | h
  · obtain ⟨u, rfl⟩ : ∃ u : Nat, v = -(u : Int) := ⟨v.natAbs, by omega⟩
    rw [Lib.itoa_neg u (by omega)] at e
    obtain ⟨d1, d2⟩ := dec_dv u
    cases below with
    | true =>
      have := hb rfl
      rw [← e] at this
      obtain rfl : Lib.decDigits u = t := (List.cons.inj this).2
      exact ⟨⟨fun _ => h, fun _ => rfl⟩, d2, by rw [d1]; omega, dec_ne u, l19 u (by omega)⟩
    | false => exact absurd rfl ((hn rfl).2 45 _ e.symm)
  · obtain ⟨u, rfl⟩ : ∃ u : Nat, v = u := ⟨v.toNat, by omega⟩
    rw [Lib.itoa_nonneg] at e
    obtain ⟨d1, d2⟩ := dec_dv u
    cases below with
    | true =>
      have := hb rfl
      rw [← e] at this
      have := d2 45 (by rw [this]; simp)
      exact absurd this.1 (by decide)
    | false =>
      obtain ⟨rfl, _⟩ := hn rfl
      subst e
      exact ⟨⟨fun e => (by cases e), fun hh => by omega⟩, d2, by rw [d1]; omega, dec_ne u, l19 u (by omega)⟩
section
set_option maxHeartbeats 8000000
set_option maxRecDepth 10000
variable {h : Hp} {K : Value → Hp → Prop}
theorem number2_x (s : Str) (hs : s.length ≤ 2 ^ 40) (hk : ∀ k ok, NumS s k ok → K (.tuple #[.int .i64 k, .bool ok]) h) : X Tryz.prog 11 #[sv s] h K := by
  have hno : (∀ v : Int, -9223372036854775808 ≤ v → v ≤ 9223372036854775807 → Lib.itoa v ≠ s) → K (.tuple #[.int .i64 0, .bool false]) h := fun hh => hk 0 false (NumS.no hh)
  refine fnv (args := _) mixed [] [] [] Tryz.func11 rfl (by kernel_rfl) ?_; conv => whnf
  by_cases hc : ∃ r, s = 45 :: r
  · obtain ⟨t, rfl⟩ := hc
    have hnum := numF2 (45 :: t) t true (fun _ => rfl) (fun e => by cases e)
    conv => whnf
    refine bsel_true (by rw [bs_size]; simp) ?_; conv => whnf
    refine ch_intro ((45 : UInt8)) (by omega) (rfl) ?_; conv => whnf
    refine need_intro (by rw [bs_size, List.length_cons]; omega) ?_
    conv => whnf
    refine sub_from (m := t) rfl ?_
    conv => whnf
    conv => whnf
    refine bsel_intro (fun q1 => ?_) (fun q1 => ?_) <;> try simp only [bsL] at q1
    · conv => whnf
      exact hno fun v v1 v2 e => (hnum v v1 v2 e).2.2.2.1 (List.eq_nil_of_length_eq_zero (by omega))
    conv => whnf
    refine bsel_intro (fun q2 => ?_) (fun q2 => ?_) <;> try simp only [bsL] at q2
    · conv => whnf
      exact hno fun v v1 v2 e => by have := (hnum v v1 v2 e).2.2.2.2; omega
    conv => whnf
    refine loop_at [7, 6] [] (fun r vs _ h' => h = h' ∧ ∃ i : Nat, i ≤ t.length ∧ r = t.length - i ∧ vs = [.v (.int .i64 i), .v (.int .u64 (dv (t.take i) : Nat))] ∧ digs (t.take i)) t.length ⟨rfl, 0, by omega, by omega, rfl, by simp [digs]⟩ ?_
    rintro r vs cs mm bx _ ⟨rfl, i, hi, rfl, rfl, hdg⟩
    conv => whnf
    refine bsel_intro (fun q3 => ?_) (fun q3 => ?_) <;> try simp only [bsL] at q3
    · have hiT : i < t.length := by omega
      obtain ⟨b, hb⟩ : ∃ b, t[i]? = some b := ⟨_, List.getElem?_eq_getElem hiT⟩
      have hb' : t[((i : Nat) : Int).toNat]? = some b := by rw [Int.toNat_natCast]; exact hb
      have hdv := dv_lt 18 (t.take i) (by rw [List.length_take]; omega) hdg
      have hb8 := b.toNat_lt
      have htk : t.take (i + 1) = t.take i ++ [b] := by rw [List.take_add_one, hb]; rfl
      have hdv2 := dv_snoc (t.take i) b
      rw [← htk] at hdv2
      have hbd : ∀ v : Int, -9223372036854775808 ≤ v → v ≤ 9223372036854775807 → Lib.itoa v = _ → 48 ≤ b.toNat ∧ b.toNat ≤ 57 := fun v v1 v2 e => (hnum v v1 v2 e).2.1 b (List.mem_of_getElem? hb)
      generalize dv (t.take i) = D at *
      conv => whnf
      refine ch_intro (b) (by omega) (hb') ?_; conv => whnf
      refine bsel_intro (fun q4 => ?_) (fun q4 => ?_) <;> try simp only [bsL] at q4
      · conv => whnf
        exact hno fun v v1 v2 e => by have := hbd v v1 v2 e; omega
      conv => whnf
      refine ch_intro (b) (by omega) (hb') ?_; conv => whnf
      refine bsel_intro (fun q5 => ?_) (fun q5 => ?_) <;> try simp only [bsL] at q5
      · conv => whnf
        exact hno fun v v1 v2 e => by have := hbd v v1 v2 e; omega
      conv => whnf
      (first | refine ov_c (by simp only [loK, hiK]; omega) ?_ | refine ov_c (by decide) ?_); conv => whnf
      refine ch_intro (b) (by omega) (hb') ?_; conv => whnf
      (first | refine ov_c (by simp only [loK, hiK]; omega) ?_ | refine ov_c (by decide) ?_); conv => whnf
      (first | refine ov_c (by simp only [loK, hiK]; omega) ?_ | refine ov_c (by decide) ?_); conv => whnf
      (first | refine ov_c (by simp only [loK, hiK]; omega) ?_ | refine ov_c (by decide) ?_); conv => whnf
      (first | refine ov_c (by simp only [loK, hiK]; omega) ?_ | refine ov_c (by decide) ?_); conv => whnf
      refine ⟨t.length - (i + 1), by omega, rfl, i + 1, by omega, rfl, ?_, ?_⟩
      · show [MV.v (.int .i64 ((i : Int) + 1)), MV.v (.int .u64 (10 * (D : Int) + ((b.toNat : Int) - 48)))] = _
        rw [show 10 * (D : Int) + ((b.toNat : Int) - 48) = ((dv (t.take (i + 1)) : Nat) : Int) by omega]
        rfl
      · intro x hx
        rw [htk] at hx
        rcases List.mem_append.1 hx with hx | hx
        · exact hdg x hx
        · simp only [List.mem_singleton] at hx; subst hx; omega
    have hin : i = t.length := by omega
    subst hin
    rw [List.take_length] at hdg ⊢
    have hdv := dv_lt 19 t (by omega) hdg
    have hnn : ∀ v : Int, -9223372036854775808 ≤ v → v ≤ 9223372036854775807 → Lib.itoa v = _ → dv t = v.natAbs ∧ (v < 0) := fun v v1 v2 e => ⟨(hnum v v1 v2 e).2.2.1, (hnum v v1 v2 e).1.1 rfl⟩
    generalize dv t = D at *
    conv => whnf
    refine bsel_intro (fun q6 => ?_) (fun q6 => ?_) <;> try simp only [bsL] at q6
    · conv => whnf
      exact hno fun v v1 v2 e => by have := hnn v v1 v2 e; omega
    conv => whnf
    refine ov_by (y := if D = 9223372036854775808 then -9223372036854775808 else (D : Int)) (by rw [wrapI64]; split <;> omega) ?_
    conv => whnf
    refine ov_by (y := if D = 0 then 0 else 18446744073709551616 - (D : Int)) (by rw [wrap_u64]; split <;> omega) ?_
    conv => whnf
    refine ov_by (y := -(D : Int)) (by rw [wrapI64]; split <;> omega) ?_
    conv => whnf
    refine rDigits_x (-(D : Int)) (by omega) (by omega) ?_
    conv => whnf
    refine seq_intro ?_
    conv => whnf
    refine bsel_intro (fun q9 => ?_) (fun q9 => ?_) <;> try simp only [bsL] at q9
    · conv => whnf
      exact hno fun v v1 v2 e => by
        have h1 := hnn v v1 v2 e
        obtain rfl : v = -(D : Int) := by omega
        exact q9 e
    · conv => whnf
      exact hk _ true ⟨fun _ => ⟨q9, by omega, by omega⟩, fun v v1 v2 e => ⟨rfl, by have := hnn v v1 v2 e; omega⟩, fun e => by cases e⟩
  · obtain ⟨t, hts⟩ : ∃ t, t = s := ⟨s, rfl⟩
    subst hts
    have hnum := numF2 t t false (fun e => by cases e) (fun _ => ⟨rfl, fun c r e e2 => hc ⟨r, by rw [e, e2]⟩⟩)
    refine bsel_intro (fun q0 => ?_) (fun q0 => ?_) <;> try simp only [bsL] at q0
    · obtain ⟨b0, hb0⟩ : ∃ b, t[0]? = some b := ⟨_, List.getElem?_eq_getElem (by omega)⟩
      have hb45 : b0.toNat ≠ 45 := fun e => hc ⟨t.drop 1, by
        have e2 : b0 = 45 := UInt8.toNat_inj.1 e
        cases t with
        | nil => simp at hb0
        | cons x y => simp at hb0; rw [hb0, e2]; rfl⟩
      conv => whnf
      refine ch_intro (b0) (by omega) (hb0) ?_; conv => whnf
      refine bsel_false (by simp; omega) ?_; conv => whnf
      conv => whnf
      refine bsel_intro (fun q1 => ?_) (fun q1 => ?_) <;> try simp only [bsL] at q1
      · conv => whnf
        exact hno fun v v1 v2 e => (hnum v v1 v2 e).2.2.2.1 (List.eq_nil_of_length_eq_zero (by omega))
      conv => whnf
      refine bsel_intro (fun q2 => ?_) (fun q2 => ?_) <;> try simp only [bsL] at q2
      · conv => whnf
        exact hno fun v v1 v2 e => by have := (hnum v v1 v2 e).2.2.2.2; omega
      conv => whnf
      refine loop_at [7, 6] [] (fun r vs _ h' => h = h' ∧ ∃ i : Nat, i ≤ t.length ∧ r = t.length - i ∧ vs = [.v (.int .i64 i), .v (.int .u64 (dv (t.take i) : Nat))] ∧ digs (t.take i)) t.length ⟨rfl, 0, by omega, by omega, rfl, by simp [digs]⟩ ?_
      rintro r vs cs mm bx _ ⟨rfl, i, hi, rfl, rfl, hdg⟩
      conv => whnf
      refine bsel_intro (fun q3 => ?_) (fun q3 => ?_) <;> try simp only [bsL] at q3
      · have hiT : i < t.length := by omega
        obtain ⟨b, hb⟩ : ∃ b, t[i]? = some b := ⟨_, List.getElem?_eq_getElem hiT⟩
        have hb' : t[((i : Nat) : Int).toNat]? = some b := by rw [Int.toNat_natCast]; exact hb
        have hdv := dv_lt 18 (t.take i) (by rw [List.length_take]; omega) hdg
        have hb8 := b.toNat_lt
        have htk : t.take (i + 1) = t.take i ++ [b] := by rw [List.take_add_one, hb]; rfl
        have hdv2 := dv_snoc (t.take i) b
        rw [← htk] at hdv2
        have hbd : ∀ v : Int, -9223372036854775808 ≤ v → v ≤ 9223372036854775807 → Lib.itoa v = _ → 48 ≤ b.toNat ∧ b.toNat ≤ 57 := fun v v1 v2 e => (hnum v v1 v2 e).2.1 b (List.mem_of_getElem? hb)
        generalize dv (t.take i) = D at *
        conv => whnf
        refine ch_intro (b) (by omega) (hb') ?_; conv => whnf
        refine bsel_intro (fun q4 => ?_) (fun q4 => ?_) <;> try simp only [bsL] at q4
        · conv => whnf
          exact hno fun v v1 v2 e => by have := hbd v v1 v2 e; omega
        conv => whnf
        refine ch_intro (b) (by omega) (hb') ?_; conv => whnf
        refine bsel_intro (fun q5 => ?_) (fun q5 => ?_) <;> try simp only [bsL] at q5
        · conv => whnf
          exact hno fun v v1 v2 e => by have := hbd v v1 v2 e; omega
        conv => whnf
        (first | refine ov_c (by simp only [loK, hiK]; omega) ?_ | refine ov_c (by decide) ?_); conv => whnf
        refine ch_intro (b) (by omega) (hb') ?_; conv => whnf
        (first | refine ov_c (by simp only [loK, hiK]; omega) ?_ | refine ov_c (by decide) ?_); conv => whnf
        (first | refine ov_c (by simp only [loK, hiK]; omega) ?_ | refine ov_c (by decide) ?_); conv => whnf
        (first | refine ov_c (by simp only [loK, hiK]; omega) ?_ | refine ov_c (by decide) ?_); conv => whnf
        (first | refine ov_c (by simp only [loK, hiK]; omega) ?_ | refine ov_c (by decide) ?_); conv => whnf
        refine ⟨t.length - (i + 1), by omega, rfl, i + 1, by omega, rfl, ?_, ?_⟩
        · show [MV.v (.int .i64 ((i : Int) + 1)), MV.v (.int .u64 (10 * (D : Int) + ((b.toNat : Int) - 48)))] = _
          rw [show 10 * (D : Int) + ((b.toNat : Int) - 48) = ((dv (t.take (i + 1)) : Nat) : Int) by omega]
          rfl
        · intro x hx
          rw [htk] at hx
          rcases List.mem_append.1 hx with hx | hx
          · exact hdg x hx
          · simp only [List.mem_singleton] at hx; subst hx; omega
      have hin : i = t.length := by omega
      subst hin
      rw [List.take_length] at hdg ⊢
      have hdv := dv_lt 19 t (by omega) hdg
      have hnn : ∀ v : Int, -9223372036854775808 ≤ v → v ≤ 9223372036854775807 → Lib.itoa v = _ → dv t = v.natAbs ∧ (0 ≤ v) := fun v v1 v2 e => ⟨(hnum v v1 v2 e).2.2.1, by have := (hnum v v1 v2 e).1; have h9 : ¬ v < 0 := fun hh => (by cases this.2 hh); omega⟩
      generalize dv t = D at *
      conv => whnf
      refine bsel_intro (fun q6 => ?_) (fun q6 => ?_) <;> try simp only [bsL] at q6
      · conv => whnf
        exact hno fun v v1 v2 e => by have := hnn v v1 v2 e; omega
      conv => whnf
      refine bsel_intro (fun q7 => ?_) (fun q7 => ?_) <;> try simp only [bsL] at q7
      · conv => whnf
        exact hno fun v v1 v2 e => by have := hnn v v1 v2 e; omega
      conv => whnf
      (first | refine ov_c (by simp only [loK, hiK]; omega) ?_ | refine ov_c (by decide) ?_); conv => whnf
      refine rDigits_x (D : Int) (by omega) (by omega) ?_
      conv => whnf
      refine seq_intro ?_
      conv => whnf
      refine bsel_intro (fun q9 => ?_) (fun q9 => ?_) <;> try simp only [bsL] at q9
      · conv => whnf
        exact hno fun v v1 v2 e => by
          have h1 := hnn v v1 v2 e
          obtain rfl : v = (D : Int) := by omega
          exact q9 e
      · conv => whnf
        exact hk _ true ⟨fun _ => ⟨q9, by omega, by omega⟩, fun v v1 v2 e => ⟨rfl, by have := hnn v v1 v2 e; omega⟩, fun e => by cases e⟩
    · have ht0 : t = [] := List.eq_nil_of_length_eq_zero (by omega)
      conv => whnf
      conv => whnf
      refine bsel_intro (fun q1 => ?_) (fun q1 => ?_) <;> try simp only [bsL] at q1
      · conv => whnf
        exact hno fun v v1 v2 e => (hnum v v1 v2 e).2.2.2.1 (List.eq_nil_of_length_eq_zero (by omega))
      conv => whnf
      refine bsel_intro (fun q2 => ?_) (fun q2 => ?_) <;> try simp only [bsL] at q2
      · conv => whnf
        exact hno fun v v1 v2 e => by have := (hnum v v1 v2 e).2.2.2.2; omega
      conv => whnf
      refine loop_at [7, 6] [] (fun r vs _ h' => h = h' ∧ ∃ i : Nat, i ≤ t.length ∧ r = t.length - i ∧ vs = [.v (.int .i64 i), .v (.int .u64 (dv (t.take i) : Nat))] ∧ digs (t.take i)) t.length ⟨rfl, 0, by omega, by omega, rfl, by simp [digs]⟩ ?_
      rintro r vs cs mm bx _ ⟨rfl, i, hi, rfl, rfl, hdg⟩
      conv => whnf
      refine bsel_intro (fun q3 => ?_) (fun q3 => ?_) <;> try simp only [bsL] at q3
      · have hiT : i < t.length := by omega
        obtain ⟨b, hb⟩ : ∃ b, t[i]? = some b := ⟨_, List.getElem?_eq_getElem hiT⟩
        have hb' : t[((i : Nat) : Int).toNat]? = some b := by rw [Int.toNat_natCast]; exact hb
        have hdv := dv_lt 18 (t.take i) (by rw [List.length_take]; omega) hdg
        have hb8 := b.toNat_lt
        have htk : t.take (i + 1) = t.take i ++ [b] := by rw [List.take_add_one, hb]; rfl
        have hdv2 := dv_snoc (t.take i) b
        rw [← htk] at hdv2
        have hbd : ∀ v : Int, -9223372036854775808 ≤ v → v ≤ 9223372036854775807 → Lib.itoa v = _ → 48 ≤ b.toNat ∧ b.toNat ≤ 57 := fun v v1 v2 e => (hnum v v1 v2 e).2.1 b (List.mem_of_getElem? hb)
        generalize dv (t.take i) = D at *
        conv => whnf
        refine ch_intro (b) (by omega) (hb') ?_; conv => whnf
        refine bsel_intro (fun q4 => ?_) (fun q4 => ?_) <;> try simp only [bsL] at q4
        · conv => whnf
          exact hno fun v v1 v2 e => by have := hbd v v1 v2 e; omega
        conv => whnf
        refine ch_intro (b) (by omega) (hb') ?_; conv => whnf
        refine bsel_intro (fun q5 => ?_) (fun q5 => ?_) <;> try simp only [bsL] at q5
        · conv => whnf
          exact hno fun v v1 v2 e => by have := hbd v v1 v2 e; omega
        conv => whnf
        (first | refine ov_c (by simp only [loK, hiK]; omega) ?_ | refine ov_c (by decide) ?_); conv => whnf
        refine ch_intro (b) (by omega) (hb') ?_; conv => whnf
        (first | refine ov_c (by simp only [loK, hiK]; omega) ?_ | refine ov_c (by decide) ?_); conv => whnf
        (first | refine ov_c (by simp only [loK, hiK]; omega) ?_ | refine ov_c (by decide) ?_); conv => whnf
        (first | refine ov_c (by simp only [loK, hiK]; omega) ?_ | refine ov_c (by decide) ?_); conv => whnf
        (first | refine ov_c (by simp only [loK, hiK]; omega) ?_ | refine ov_c (by decide) ?_); conv => whnf
        refine ⟨t.length - (i + 1), by omega, rfl, i + 1, by omega, rfl, ?_, ?_⟩
        · show [MV.v (.int .i64 ((i : Int) + 1)), MV.v (.int .u64 (10 * (D : Int) + ((b.toNat : Int) - 48)))] = _
          rw [show 10 * (D : Int) + ((b.toNat : Int) - 48) = ((dv (t.take (i + 1)) : Nat) : Int) by omega]
          rfl
        · intro x hx
          rw [htk] at hx
          rcases List.mem_append.1 hx with hx | hx
          · exact hdg x hx
          · simp only [List.mem_singleton] at hx; subst hx; omega
      have hin : i = t.length := by omega
      subst hin
      rw [List.take_length] at hdg ⊢
      have hdv := dv_lt 19 t (by omega) hdg
      have hnn : ∀ v : Int, -9223372036854775808 ≤ v → v ≤ 9223372036854775807 → Lib.itoa v = _ → dv t = v.natAbs ∧ (0 ≤ v) := fun v v1 v2 e => ⟨(hnum v v1 v2 e).2.2.1, by have := (hnum v v1 v2 e).1; have h9 : ¬ v < 0 := fun hh => (by cases this.2 hh); omega⟩
      generalize dv t = D at *
      conv => whnf
      refine bsel_intro (fun q6 => ?_) (fun q6 => ?_) <;> try simp only [bsL] at q6
      · conv => whnf
        exact hno fun v v1 v2 e => by have := hnn v v1 v2 e; omega
      conv => whnf
      refine bsel_intro (fun q7 => ?_) (fun q7 => ?_) <;> try simp only [bsL] at q7
      · conv => whnf
        exact hno fun v v1 v2 e => by have := hnn v v1 v2 e; omega
      conv => whnf
      (first | refine ov_c (by simp only [loK, hiK]; omega) ?_ | refine ov_c (by decide) ?_); conv => whnf
      refine rDigits_x (D : Int) (by omega) (by omega) ?_
      conv => whnf
      refine seq_intro ?_
      conv => whnf
      refine bsel_intro (fun q9 => ?_) (fun q9 => ?_) <;> try simp only [bsL] at q9
      · conv => whnf
        exact hno fun v v1 v2 e => by
          have h1 := hnn v v1 v2 e
          obtain rfl : v = (D : Int) := by omega
          exact q9 e
      · conv => whnf
        exact hk _ true ⟨fun _ => ⟨q9, by omega, by omega⟩, fun v v1 v2 e => ⟨rfl, by have := hnn v v1 v2 e; omega⟩, fun e => by cases e⟩
theorem rnumber_x (s : Str) (hs : s.length ≤ 2 ^ 40) (hk : K (okV (numA s)) h) : X Tryz.prog 11 #[sv s] h K :=
  number2_x s hs fun k ok hn => by
    obtain ⟨rfl, rfl⟩ := hn.eq
    exact hk
end
end Go.Proofs.YtlobclgbbhoeiaaGreatDoor
/-! Instructions as text: the document's op of a first word (printed by a program). -/
namespace Go.Proofs.YtlobclgbbhoeiaaGreatDoor
set_option linter.unusedSimpArgs false
set_option linter.unusedVariables false
open Go Go.Mid Go.RowKit
attribute [local irreducible] mid
def endsB (s t : Str) : Bool := decide (t.length ≤ s.length) && decide (s.drop (s.length - t.length) = t)
def classR (n : Int) (s : Str) : Int := if s = [108, 117, 105] ∨ s = [97, 117, 105, 112, 99] then 2 else if s = [106, 97, 108] ∨ s = [106, 97, 108, 114] then 3 else if n < 11 then 4 else if s = [102, 101, 110, 99, 101] ∨ s = [102, 101, 110, 99, 101, 46, 105] then 9 else if s = [101, 99, 97, 108, 108] ∨ s = [101, 98, 114, 101, 97, 107] ∨ s = [109, 114, 101, 116] ∨ s = [115, 114, 101, 116] ∨ s = [119, 102, 105] ∨ s = [115, 102, 101, 110, 99, 101, 46, 118, 109, 97] then 10 else if endsB s [46, 119] = true ∨ endsB s [46, 100] = true then 7 else if 3 < s.length ∧ s.take 3 = [99, 115, 114] then 8 else if s.length ≤ 3 ∧ s[0]? = some 108 then 5 else if s = [115, 98] ∨ s = [115, 104] ∨ s = [115, 119] ∨ s = [115, 100] then 6 else 1
theorem class_eq {n : Int} (h : 1 ≤ n ∧ n ≤ 98) : classR n (opName n) = classN n := by
  have key : ∀ k : Nat, k < 98 → classR ((k + 1 : Nat) : Int) (opName ((k + 1 : Nat) : Int)) = classN ((k + 1 : Nat) : Int) := by decide +kernel
  have := key (n.toNat - 1) (by omega)
  rwa [show ((n.toNat - 1 + 1 : Nat) : Int) = n by omega] at this
section
set_option maxHeartbeats 8000000
set_option maxRecDepth 10000
variable {h : Hp} {K : Value → Hp → Prop}
theorem ends_x (s t : Str) (hs : s.length ≤ 2 ^ 40) (hk : K (.bool (endsB s t)) h) : X Tryz.prog 113 #[.string (bs s), .string (bs t)] h K := by
  have l1 : (bs s).size = s.length := bs_size s
  have l2 : (bs t).size = t.length := bs_size t
  unfold endsB at hk
  refine fnv (args := _) mixed [] [] [] Tryz.func113 rfl (by kernel_rfl) ?_; conv => whnf
  refine bsel_intro (fun q1 => ?_) (fun q1 => ?_) <;> try simp only [bsL] at q1
  · rw [decide_eq_true (by omega)] at hk
    conv => whnf
    (first | refine ov_c (by simp only [loK, hiK]; omega) ?_ | refine ov_c (by decide) ?_); conv => whnf
    (first | refine need_intro (⟨by omega, by omega⟩) ?_ | refine must.mk (⟨by omega, by omega⟩) ?_); conv => whnf
    refine sub_from (m := s.drop (s.length - t.length)) (by congr 1; omega) ?_
    conv => whnf
    by_cases e : s.drop (s.length - t.length) = t
    · rw [decide_eq_true e] at hk
      refine seq_true (e) ?_; conv => whnf
      exact hk
    · rw [decide_eq_false e] at hk
      refine seq_false (e) ?_; conv => whnf
      exact hk
  · rw [decide_eq_false (by omega)] at hk
    conv => whnf
    exact hk
theorem rclass_x (n : Int) (h1 : 1 ≤ n ∧ n ≤ 98) (hk : K (.int .i64 (classN n)) h) : X Tryz.prog 81 #[.int .i64 n] h K := by
  refine X.forget ?_
  rw [← class_eq h1] at hk
  obtain ⟨n1, n2⟩ := opName_ne h1
  have hg := names0_get h1
  generalize opName n = s at hk n1 n2 hg
  have hsz : (bs s).size = s.length := bs_size s
  unfold classR at hk
  refine fnv (args := _) mixed [] [] [] Tryz.func81 rfl (by kernel_rfl) ?_; conv => whnf
  refine bsel_false (by simp; omega) ?_; conv => whnf
  refine bsel_false (by simp; omega) ?_; conv => whnf
  refine rnames_x fun b1 h1 le1 hb1 => ?_
  conv => whnf
  (first | refine need_intro (⟨by omega, by omega⟩) ?_ | refine must.mk (⟨by omega, by omega⟩) ?_); conv => whnf
  refine ⟨_, loadI aggStr hb1 (j := n.toNat) (by omega) hg, ?_⟩; conv => whnf
  by_cases e0_0 : s = [108, 117, 105]
  · rw [if_pos (by simp [e0_0])] at hk
    refine seq_true (e0_0) ?_; conv => whnf
    exact ⟨h, le1, hk⟩
  refine seq_false (e0_0) ?_; conv => whnf
  by_cases e0_1 : s = [97, 117, 105, 112, 99]
  · rw [if_pos (by simp [e0_1])] at hk
    refine seq_true (e0_1) ?_; conv => whnf
    exact ⟨h, le1, hk⟩
  refine seq_false (e0_1) ?_; conv => whnf
  rw [if_neg (by simp [e0_0, e0_1])] at hk
  by_cases e1_0 : s = [106, 97, 108]
  · rw [if_pos (by simp [e1_0])] at hk
    refine seq_true (e1_0) ?_; conv => whnf
    exact ⟨h, le1, hk⟩
  refine seq_false (e1_0) ?_; conv => whnf
  by_cases e1_1 : s = [106, 97, 108, 114]
  · rw [if_pos (by simp [e1_1])] at hk
    refine seq_true (e1_1) ?_; conv => whnf
    exact ⟨h, le1, hk⟩
  refine seq_false (e1_1) ?_; conv => whnf
  rw [if_neg (by simp [e1_0, e1_1])] at hk
  refine bsel_intro (fun e2 => ?_) (fun e2 => ?_) <;> try simp only [bsL] at e2
  · rw [if_pos (by omega)] at hk
    conv => whnf
    exact ⟨h, le1, hk⟩
  rw [if_neg (by omega)] at hk
  conv => whnf
  by_cases e3_0 : s = [102, 101, 110, 99, 101]
  · rw [if_pos (by simp [e3_0])] at hk
    refine seq_true (e3_0) ?_; conv => whnf
    exact ⟨h, le1, hk⟩
  refine seq_false (e3_0) ?_; conv => whnf
  by_cases e3_1 : s = [102, 101, 110, 99, 101, 46, 105]
  · rw [if_pos (by simp [e3_1])] at hk
    refine seq_true (e3_1) ?_; conv => whnf
    exact ⟨h, le1, hk⟩
  refine seq_false (e3_1) ?_; conv => whnf
  rw [if_neg (by simp [e3_0, e3_1])] at hk
  by_cases e4_0 : s = [101, 99, 97, 108, 108]
  · rw [if_pos (by simp [e4_0])] at hk
    refine seq_true (e4_0) ?_; conv => whnf
    exact ⟨h, le1, hk⟩
  refine seq_false (e4_0) ?_; conv => whnf
  by_cases e4_1 : s = [101, 98, 114, 101, 97, 107]
  · rw [if_pos (by simp [e4_1])] at hk
    refine seq_true (e4_1) ?_; conv => whnf
    exact ⟨h, le1, hk⟩
  refine seq_false (e4_1) ?_; conv => whnf
  by_cases e4_2 : s = [109, 114, 101, 116]
  · rw [if_pos (by simp [e4_2])] at hk
    refine seq_true (e4_2) ?_; conv => whnf
    exact ⟨h, le1, hk⟩
  refine seq_false (e4_2) ?_; conv => whnf
  by_cases e4_3 : s = [115, 114, 101, 116]
  · rw [if_pos (by simp [e4_3])] at hk
    refine seq_true (e4_3) ?_; conv => whnf
    exact ⟨h, le1, hk⟩
  refine seq_false (e4_3) ?_; conv => whnf
  by_cases e4_4 : s = [119, 102, 105]
  · rw [if_pos (by simp [e4_4])] at hk
    refine seq_true (e4_4) ?_; conv => whnf
    exact ⟨h, le1, hk⟩
  refine seq_false (e4_4) ?_; conv => whnf
  by_cases e4_5 : s = [115, 102, 101, 110, 99, 101, 46, 118, 109, 97]
  · rw [if_pos (by simp [e4_5])] at hk
    refine seq_true (e4_5) ?_; conv => whnf
    exact ⟨h, le1, hk⟩
  refine seq_false (e4_5) ?_; conv => whnf
  rw [if_neg (by simp [e4_0, e4_1, e4_2, e4_3, e4_4, e4_5])] at hk
  refine ends_x s [46, 119] (by omega) ?_
  cases e5 : endsB s [46, 119] with
  | true =>
    rw [if_pos (.inl e5)] at hk
    conv => whnf
    exact ⟨h, le1, hk⟩
  | false =>
    conv => whnf
    refine ends_x s [46, 100] (by omega) ?_
    cases f5 : endsB s [46, 100] with
    | true =>
      rw [if_pos (.inr f5)] at hk
      conv => whnf
      exact ⟨h, le1, hk⟩
    | false =>
      rw [if_neg (by simp [e5, f5])] at hk
      conv => whnf
      by_cases e6 : 3 < s.length ∧ s.take 3 = [99, 115, 114]
      · rw [if_pos e6] at hk
        refine bsel_true (by rw [bs_size]; simp; omega) ?_; conv => whnf
        (first | refine need_intro (⟨by omega, by omega⟩) ?_ | refine must.mk (⟨by omega, by omega⟩) ?_); conv => whnf
        refine sub_by (m := s.take 3) rfl ?_
        conv => whnf
        refine seq_true (e6.2) ?_; conv => whnf
        exact ⟨h, le1, hk⟩
      rw [if_neg e6] at hk
      refine bsel_intro (fun q7 => ?_) (fun q7 => ?_) <;> try simp only [bsL] at q7
      · have e7b : s.take 3 ≠ [99, 115, 114] := fun e => e6 ⟨by omega, e⟩
        conv => whnf
        (first | refine need_intro (⟨by omega, by omega⟩) ?_ | refine must.mk (⟨by omega, by omega⟩) ?_); conv => whnf
        refine sub_by (m := s.take 3) rfl ?_
        conv => whnf
        refine seq_false (e7b) ?_; conv => whnf
        by_cases e7 : s.length ≤ 3 ∧ s[0]? = some 108
        · rw [if_pos e7] at hk
          refine bsel_true (by rw [bs_size]; simp; omega) ?_; conv => whnf
          refine ch_intro ((108 : UInt8)) (by omega) (e7.2) ?_; conv => whnf
          exact ⟨h, le1, hk⟩
        rw [if_neg e7] at hk
        refine bsel_intro (fun f7 => ?_) (fun f7 => ?_) <;> try simp only [bsL] at f7
        · obtain ⟨c, hc⟩ : ∃ c, s[0]? = some c := ⟨_, List.getElem?_eq_getElem (List.length_pos_iff.2 n1)⟩
          have hcn : c ≠ 108 := fun e => e7 ⟨by omega, by rw [hc, e]⟩
          conv => whnf
          refine ch_intro (c) (by omega) (hc) ?_; conv => whnf
          refine bsel_false (by simpa using fun e => hcn (UInt8.toNat_inj.1 (by have : (108 : UInt8).toNat = 108 := rfl; omega))) ?_; conv => whnf
          by_cases e9_0 : s = [115, 98]
          · rw [if_pos (by simp [e9_0])] at hk
            refine seq_true (e9_0) ?_; conv => whnf
            exact ⟨h, le1, hk⟩
          refine seq_false (e9_0) ?_; conv => whnf
          by_cases e9_1 : s = [115, 104]
          · rw [if_pos (by simp [e9_1])] at hk
            refine seq_true (e9_1) ?_; conv => whnf
            exact ⟨h, le1, hk⟩
          refine seq_false (e9_1) ?_; conv => whnf
          by_cases e9_2 : s = [115, 119]
          · rw [if_pos (by simp [e9_2])] at hk
            refine seq_true (e9_2) ?_; conv => whnf
            exact ⟨h, le1, hk⟩
          refine seq_false (e9_2) ?_; conv => whnf
          by_cases e9_3 : s = [115, 100]
          · rw [if_pos (by simp [e9_3])] at hk
            refine seq_true (e9_3) ?_; conv => whnf
            exact ⟨h, le1, hk⟩
          refine seq_false (e9_3) ?_; conv => whnf
          rw [if_neg (by simp [e9_0, e9_1, e9_2, e9_3])] at hk
          exact ⟨h, le1, hk⟩
        · conv => whnf
          by_cases e9_0 : s = [115, 98]
          · rw [if_pos (by simp [e9_0])] at hk
            refine seq_true (e9_0) ?_; conv => whnf
            exact ⟨h, le1, hk⟩
          refine seq_false (e9_0) ?_; conv => whnf
          by_cases e9_1 : s = [115, 104]
          · rw [if_pos (by simp [e9_1])] at hk
            refine seq_true (e9_1) ?_; conv => whnf
            exact ⟨h, le1, hk⟩
          refine seq_false (e9_1) ?_; conv => whnf
          by_cases e9_2 : s = [115, 119]
          · rw [if_pos (by simp [e9_2])] at hk
            refine seq_true (e9_2) ?_; conv => whnf
            exact ⟨h, le1, hk⟩
          refine seq_false (e9_2) ?_; conv => whnf
          by_cases e9_3 : s = [115, 100]
          · rw [if_pos (by simp [e9_3])] at hk
            refine seq_true (e9_3) ?_; conv => whnf
            exact ⟨h, le1, hk⟩
          refine seq_false (e9_3) ?_; conv => whnf
          rw [if_neg (by simp [e9_0, e9_1, e9_2, e9_3])] at hk
          exact ⟨h, le1, hk⟩
      · conv => whnf
        by_cases e7 : s.length ≤ 3 ∧ s[0]? = some 108
        · rw [if_pos e7] at hk
          refine bsel_true (by rw [bs_size]; simp; omega) ?_; conv => whnf
          refine ch_intro ((108 : UInt8)) (by omega) (e7.2) ?_; conv => whnf
          exact ⟨h, le1, hk⟩
        rw [if_neg e7] at hk
        refine bsel_intro (fun f7 => ?_) (fun f7 => ?_) <;> try simp only [bsL] at f7
        · obtain ⟨c, hc⟩ : ∃ c, s[0]? = some c := ⟨_, List.getElem?_eq_getElem (List.length_pos_iff.2 n1)⟩
          have hcn : c ≠ 108 := fun e => e7 ⟨by omega, by rw [hc, e]⟩
          conv => whnf
          refine ch_intro (c) (by omega) (hc) ?_; conv => whnf
          refine bsel_false (by simpa using fun e => hcn (UInt8.toNat_inj.1 (by have : (108 : UInt8).toNat = 108 := rfl; omega))) ?_; conv => whnf
          by_cases e9_0 : s = [115, 98]
          · rw [if_pos (by simp [e9_0])] at hk
            refine seq_true (e9_0) ?_; conv => whnf
            exact ⟨h, le1, hk⟩
          refine seq_false (e9_0) ?_; conv => whnf
          by_cases e9_1 : s = [115, 104]
          · rw [if_pos (by simp [e9_1])] at hk
            refine seq_true (e9_1) ?_; conv => whnf
            exact ⟨h, le1, hk⟩
          refine seq_false (e9_1) ?_; conv => whnf
          by_cases e9_2 : s = [115, 119]
          · rw [if_pos (by simp [e9_2])] at hk
            refine seq_true (e9_2) ?_; conv => whnf
            exact ⟨h, le1, hk⟩
          refine seq_false (e9_2) ?_; conv => whnf
          by_cases e9_3 : s = [115, 100]
          · rw [if_pos (by simp [e9_3])] at hk
            refine seq_true (e9_3) ?_; conv => whnf
            exact ⟨h, le1, hk⟩
          refine seq_false (e9_3) ?_; conv => whnf
          rw [if_neg (by simp [e9_0, e9_1, e9_2, e9_3])] at hk
          exact ⟨h, le1, hk⟩
        · conv => whnf
          by_cases e9_0 : s = [115, 98]
          · rw [if_pos (by simp [e9_0])] at hk
            refine seq_true (e9_0) ?_; conv => whnf
            exact ⟨h, le1, hk⟩
          refine seq_false (e9_0) ?_; conv => whnf
          by_cases e9_1 : s = [115, 104]
          · rw [if_pos (by simp [e9_1])] at hk
            refine seq_true (e9_1) ?_; conv => whnf
            exact ⟨h, le1, hk⟩
          refine seq_false (e9_1) ?_; conv => whnf
          by_cases e9_2 : s = [115, 119]
          · rw [if_pos (by simp [e9_2])] at hk
            refine seq_true (e9_2) ?_; conv => whnf
            exact ⟨h, le1, hk⟩
          refine seq_false (e9_2) ?_; conv => whnf
          by_cases e9_3 : s = [115, 100]
          · rw [if_pos (by simp [e9_3])] at hk
            refine seq_true (e9_3) ?_; conv => whnf
            exact ⟨h, le1, hk⟩
          refine seq_false (e9_3) ?_; conv => whnf
          rw [if_neg (by simp [e9_0, e9_1, e9_2, e9_3])] at hk
          exact ⟨h, le1, hk⟩
/-- What may stand behind an op's name. -/
def tailsL : List Str := [[], [46, 97, 113], [46, 114, 108], [46, 97, 113, 114, 108]]
/-- An op's name, with marks. -/
def wordK (i k : Nat) : Str := opNames.getD i [] ++ tailsL.getD k []
def okK (i k : Nat) : Prop := k = 0 ∨ classN (i + 1 : Nat) = 7
instance (i k : Nat) : Decidable (okK i k) := by unfold okK; infer_instance
theorem opA_word : ∀ i : Nat, i < 98 → ∀ k : Nat, k < 4 → okK i k → opA (wordK i k) = some (i, decide (k = 1 ∨ k = 3), decide (1 < k)) := by
  have key : ((List.range 98).all fun i => (List.range 4).all fun k => !(decide (okK i k)) || decide (opA (wordK i k) = some (i, decide (k = 1 ∨ k = 3), decide (1 < k)))) = true := by decide +kernel
  intro i hi k hk hok
  have := List.all_eq_true.1 (List.all_eq_true.1 key i (List.mem_range.2 hi)) k (List.mem_range.2 hk)
  rw [decide_eq_true hok] at this
  exact of_decide_eq_true this
theorem opA_inv {w : Str} {i : Nat} {aq rl : Bool} (h : opA w = some (i, aq, rl)) : i < 98 ∧ ∃ k, k < 4 ∧ okK i k ∧ wordK i k = w := by
  have hget : ∀ {l : Str} {j : Nat}, opIx l = some j → opNames.getD j [] = l := fun {l j} e => by
    unfold opIx at e
    rw [List.findIdx?_eq_some_iff_getElem] at e
    obtain ⟨hj, e1, _⟩ := e
    rw [List.getD_eq_getElem?_getD, List.getElem?_eq_getElem hj]
    simpa using e1
  unfold opA at h
  cases h1 : opIx w with
  | some j =>
    rw [h1] at h
    simp only [Option.some.injEq, Prod.mk.injEq] at h
    obtain ⟨rfl, rfl, rfl⟩ := h
    exact ⟨opIx_lt h1, 0, by decide, .inl rfl, by unfold wordK; rw [hget h1]; simp [tailsL]⟩
  | none =>
    rw [h1] at h
    simp only at h
    split at h
    · cases h
    · cases h2 : opIx (w.take (Lib.lastIndexByte (bs w) 46).toNat) with
      | none => rw [h2] at h; cases h
      | some j =>
        rw [h2] at h
        simp only at h
        split at h
        · cases h
        · rename_i hc
          have hc : classN (j + 1 : Nat) = 7 := by simpa using hc
          have hw := List.take_append_drop (Lib.lastIndexByte (bs w) 46).toNat w
          have hlt := opIx_lt h2
          have hj := hget h2
          generalize w.take (Lib.lastIndexByte (bs w) 46).toNat = a at hw hj
          generalize w.drop (Lib.lastIndexByte (bs w) 46).toNat = d at hw h
          split at h
          · rename_i hd
            simp only [Option.some.injEq, Prod.mk.injEq] at h
            obtain ⟨rfl, rfl, rfl⟩ := h
            exact ⟨hlt, 1, by decide, .inr hc, by unfold wordK; rw [hj, ← hw, hd]; rfl⟩
          · split at h
            · rename_i hd
              simp only [Option.some.injEq, Prod.mk.injEq] at h
              obtain ⟨rfl, rfl, rfl⟩ := h
              exact ⟨hlt, 2, by decide, .inr hc, by unfold wordK; rw [hj, ← hw, hd]; rfl⟩
            · split at h
              · rename_i hd
                simp only [Option.some.injEq, Prod.mk.injEq] at h
                obtain ⟨rfl, rfl, rfl⟩ := h
                exact ⟨hlt, 3, by decide, .inr hc, by unfold wordK; rw [hj, ← hw, hd]; rfl⟩
              · cases h
def firstV (w : Str) : Value := match opA w with
  | some (i, aq, rl) => .tuple #[insnO i aq rl, .bool true]
  | none => .tuple #[.agg insn0.toArray, .bool false]
theorem names0_nat {i : Nat} (h : i < 98) : (opNames0.map sv)[i + 1]? = some (sv (opNames.getD i [])) := by
  unfold opNames0
  rw [List.map_cons, List.getElem?_cons_succ, List.getElem?_map, List.getD_eq_getElem?_getD, List.getElem?_eq_getElem (by rw [opNames_len]; omega)]
  rfl
theorem nm_len {i : Nat} (h : i < 98) : (opNames.getD i []).length ≤ 20 := by
  rw [List.getD_eq_getElem?_getD, List.getElem?_eq_getElem (by rw [opNames_len]; omega)]
  exact (opNames_ne _ (List.getElem_mem _)).2
theorem tails_len : ∀ k : Nat, k < 4 → (tailsL.getD k []).length ≤ 5 ∧ (tailsL.map sv)[k]? = some (sv (tailsL.getD k [])) := by
  intro k hk
  match k, hk with
  | 0, _ => exact ⟨by decide, rfl⟩
  | 1, _ => exact ⟨by decide, rfl⟩
  | 2, _ => exact ⟨by decide, rfl⟩
  | 3, _ => exact ⟨by decide, rfl⟩
theorem rfirst_x (w : Str) (hk : K (firstV w) h) : X Tryz.prog 46 #[.string (bs w)] h K := by
  refine X.forget ?_
  refine fnv (args := _) mixed [(2, 2)] [] [] Tryz.func46 rfl (by kernel_rfl) ?_; conv => whnf
  refine rnames_x fun b1 h1 le1 hb1 => ?_
  conv => whnf
  refine new_intro (o := rowO 9 (tailsL.map sv)) (fun b2 h2 n_b2 le_b2 at_b2 ot_b2 => ?_); conv => whnf
  have hle : h.le h2 := Hp.le_trans le1 le_b2
  have hb1' := le_b2 _ _ hb1
  clear le1 le_b2 n_b2 ot_b2
  refine loop_at [6] [2] (fun r vs cs h' => h2 = h' ∧ cs = [some insn0] ∧ ∃ i : Nat, i ≤ 98 ∧ r = 98 - i ∧ vs = [.v (.int .i64 ((i : Int) + 1))] ∧ ∀ j k, j < i → k < 4 → okK j k → wordK j k ≠ w) 98 ⟨rfl, rfl, 0, by omega, rfl, rfl, fun j k hj => absurd hj (Nat.not_lt_zero _)⟩ ?_
  rintro r vs cs mm bx _ ⟨rfl, rfl, i, hi, rfl, rfl, hno⟩
  conv => whnf
  refine bsel_intro (fun q1 => ?_) (fun q1 => ?_) <;> try simp only [bsL] at q1
  · have hi98 : i < 98 := by omega
    have g1 := names0_nat hi98
    have l1 := nm_len hi98
    conv => whnf
    refine loop_at [7] [2] (fun r vs cs h' => h2 = h' ∧ cs = [some insn0] ∧ ∃ k : Nat, k ≤ 4 ∧ r = 4 - k ∧ vs = [.v (.int .i64 k)] ∧ ∀ k', k' < k → okK i k' → wordK i k' ≠ w) 4 ⟨rfl, rfl, 0, by omega, rfl, rfl, fun k hk => absurd hk (Nat.not_lt_zero _)⟩ ?_
    rintro r vs cs mm2 bx2 _ ⟨rfl, rfl, k, hk4, rfl, rfl, hno2⟩
    conv => whnf
    refine bsel_intro (fun q2 => ?_) (fun q2 => ?_) <;> try simp only [bsL] at q2
    · have hk4' : k < 4 := by omega
      obtain ⟨l2, g2⟩ := tails_len k hk4'
      have hw1 : opNames.getD i [] ++ tailsL.getD k [] = wordK i k := rfl
      generalize opNames.getD i [] = nm at hw1 g1 l1
      generalize tailsL.getD k [] = tl at hw1 g2 l2
      conv => whnf
      (first | refine need_intro (⟨by omega, by omega⟩) ?_ | refine must.mk (⟨by omega, by omega⟩) ?_); conv => whnf
      refine ⟨_, loadI aggStr hb1' (j := i + 1) (by omega) g1, ?_⟩; conv => whnf
      (first | refine need_intro (⟨by omega, by omega⟩) ?_ | refine must.mk (⟨by omega, by omega⟩) ?_); conv => whnf
      refine ⟨_, loadI aggStr at_b2 (j := k) (by omega) g2, ?_⟩; conv => whnf
      refine cat_by (m := wordK i k) (by omega) hw1 ?_
      conv => whnf
      by_cases hm : wordK i k = w
      · refine seq_true (hm) ?_; conv => whnf
        have hk3 : k = 0 ∨ k = 1 ∨ k = 2 ∨ k = 3 := by omega
        rcases hk3 with rfl | rfl | rfl | rfl
        · have OKK : okK i 0 := .inl rfl
          have hA := opA_word i hi98 _ hk4' OKK
          rw [hm] at hA
          unfold firstV at hk
          rw [hA] at hk
          simp only at hk
          conv => whnf
          exact ⟨h, hle, hk⟩
        · conv => whnf
          refine rclass_x _ (by omega) ?_
          refine ⟨trivial, ?_⟩; conv => whnf
          by_cases hc : classN (i + 1 : Nat) = 7
          · have OKK : okK i 1 := .inr hc
            have hA := opA_word i hi98 _ hk4' OKK
            rw [hm] at hA
            unfold firstV at hk
            rw [hA] at hk
            simp only at hk
            refine bsel_true (by rw [show ((i : Int) + 1) = ((i + 1 : Nat) : Int) by omega, hc]; rfl) ?_; conv => whnf
            exact ⟨h, hle, hk⟩
          · refine bsel_false (by simpa using hc) ?_; conv => whnf
            (first | refine ov_c (by simp only [loK, hiK]; omega) ?_ | refine ov_c (by decide) ?_); conv => whnf
            refine ⟨4 - (1 + 1), by omega, rfl, rfl, 1 + 1, by omega, rfl, rfl, fun k' hk' ok' => ?_⟩
            rcases Nat.lt_succ_iff_lt_or_eq.1 hk' with hk' | rfl
            · exact hno2 k' hk' ok'
            · exact fun _ => (ok'.resolve_left (by decide) |> hc)
        · conv => whnf
          refine rclass_x _ (by omega) ?_
          refine ⟨trivial, ?_⟩; conv => whnf
          by_cases hc : classN (i + 1 : Nat) = 7
          · have OKK : okK i 2 := .inr hc
            have hA := opA_word i hi98 _ hk4' OKK
            rw [hm] at hA
            unfold firstV at hk
            rw [hA] at hk
            simp only at hk
            refine bsel_true (by rw [show ((i : Int) + 1) = ((i + 1 : Nat) : Int) by omega, hc]; rfl) ?_; conv => whnf
            exact ⟨h, hle, hk⟩
          · refine bsel_false (by simpa using hc) ?_; conv => whnf
            (first | refine ov_c (by simp only [loK, hiK]; omega) ?_ | refine ov_c (by decide) ?_); conv => whnf
            refine ⟨4 - (2 + 1), by omega, rfl, rfl, 2 + 1, by omega, rfl, rfl, fun k' hk' ok' => ?_⟩
            rcases Nat.lt_succ_iff_lt_or_eq.1 hk' with hk' | rfl
            · exact hno2 k' hk' ok'
            · exact fun _ => (ok'.resolve_left (by decide) |> hc)
        · conv => whnf
          refine rclass_x _ (by omega) ?_
          refine ⟨trivial, ?_⟩; conv => whnf
          by_cases hc : classN (i + 1 : Nat) = 7
          · have OKK : okK i 3 := .inr hc
            have hA := opA_word i hi98 _ hk4' OKK
            rw [hm] at hA
            unfold firstV at hk
            rw [hA] at hk
            simp only at hk
            refine bsel_true (by rw [show ((i : Int) + 1) = ((i + 1 : Nat) : Int) by omega, hc]; rfl) ?_; conv => whnf
            exact ⟨h, hle, hk⟩
          · refine bsel_false (by simpa using hc) ?_; conv => whnf
            (first | refine ov_c (by simp only [loK, hiK]; omega) ?_ | refine ov_c (by decide) ?_); conv => whnf
            refine ⟨4 - (3 + 1), by omega, rfl, rfl, 3 + 1, by omega, rfl, rfl, fun k' hk' ok' => ?_⟩
            rcases Nat.lt_succ_iff_lt_or_eq.1 hk' with hk' | rfl
            · exact hno2 k' hk' ok'
            · exact fun _ => (ok'.resolve_left (by decide) |> hc)
      · refine seq_false (hm) ?_; conv => whnf
        (first | refine ov_c (by simp only [loK, hiK]; omega) ?_ | refine ov_c (by decide) ?_); conv => whnf
        refine ⟨4 - (k + 1), by omega, rfl, rfl, k + 1, by omega, rfl, rfl, fun k' hk' ok' => ?_⟩
        rcases Nat.lt_succ_iff_lt_or_eq.1 hk' with hk' | rfl
        · exact hno2 k' hk' ok'
        · exact hm
    · obtain rfl : k = 4 := by omega
      conv => whnf
      (first | refine ov_c (by simp only [loK, hiK]; omega) ?_ | refine ov_c (by decide) ?_); conv => whnf
      refine ⟨98 - (i + 1), by omega, rfl, rfl, i + 1, by omega, rfl, by rw [show (((i + 1 : Nat) : Int) + 1) = (i : Int) + 1 + 1 by omega]; rfl, fun j k hj hk4 hok => ?_⟩
      rcases Nat.lt_succ_iff_lt_or_eq.1 hj with hj | rfl
      · exact hno j k hj hk4 hok
      · exact hno2 k hk4 hok
  · have hn : opA w = none := by
      cases hA : opA w with
      | none => rfl
      | some t =>
        obtain ⟨i', aq, rl⟩ := t
        obtain ⟨h1, k, h2, h3, h4⟩ := opA_inv hA
        exact absurd h4 (hno i' k (by omega) h2 h3)
    unfold firstV at hk
    rw [hn] at hk
    conv => whnf
    exact ⟨h, hle, hk⟩
end
end Go.Proofs.YtlobclgbbhoeiaaGreatDoor
