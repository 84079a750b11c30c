/-
  Numbers that are written: the document's and the program's are one.
-/
import Derived.Test.YtlobclgbbhoeiaaGreatDoorLibQ
import Derived.Test.YtlobclgbbhoeiaaGreatDoorAsP
namespace Go.Proofs.YtlobclgbbhoeiaaGreatDoor
set_option linter.unusedSimpArgs false
set_option linter.unusedVariables false
open Go Go.Mid Go.RowKit
attribute [local irreducible] mid
def NumS (s : Str) (k : Int) (ok : Bool) : Prop := (ok = true → Lib.itoa k = s ∧ -9223372036854775808 ≤ k ∧ k ≤ 9223372036854775807) ∧ (∀ v : Int, -9223372036854775808 ≤ v → v ≤ 9223372036854775807 → Lib.itoa v = s → ok = true ∧ k = v) ∧ (ok = false → k = 0)
theorem NumS.no {s : Str} (h : ∀ v : Int, -9223372036854775808 ≤ v → v ≤ 9223372036854775807 → Lib.itoa v ≠ s) : NumS s 0 false := ⟨fun e => (by cases e), fun v v1 v2 e => absurd e (h v v1 v2), fun _ => rfl⟩
theorem pm_dv2 {M : Nat} (hM : M = 18446744073709551615) : ∀ (l : Str) (acc : Nat), digs l → (l.foldl (fun a b => 10 * a + (b.toNat - 48)) acc) ≤ M → Lib.parseUintM M acc l = .ok (l.foldl (fun a b => 10 * a + (b.toNat - 48)) acc)
  | [], acc, _, _ => rfl
  | b :: r, acc, hd, hle => by
    have hb := hd b (by simp)
    have mono : ∀ (q : Str) (a : Nat), a ≤ q.foldl (fun a b => 10 * a + (b.toNat - 48)) a := fun q => by
      induction q with
      | nil => intro a; exact Nat.le_refl _
      | cons y q ih => intro a; exact Nat.le_trans (by omega) (ih (10 * a + (y.toNat - 48)))
    have hm := mono r (10 * acc + (b.toNat - 48))
    simp only [List.foldl_cons] at hle ⊢
    unfold Lib.parseUintM
    rw [if_pos hb, if_neg (by omega), if_neg (by omega), show acc * 10 + (b.toNat - 48) = 10 * acc + (b.toNat - 48) by omega]
    exact pm_dv2 hM r _ (fun x hx => hd x (by simp [hx])) hle
theorem dec_ub {n : Nat} (h : n < 18446744073709551616) : Lib.parseUintB 64 (Lib.decDigits n) = .ok n := by
  obtain ⟨h1, h2⟩ := dec_dv n
  unfold Lib.parseUintB
  rw [if_neg (dec_ne n)]
  have := pm_dv2 (M := 2 ^ 64 - 1) (by decide) (Lib.decDigits n) 0 h2 (by
    show dv _ ≤ _
    rw [h1]; omega)
  rw [this]
  show Lib.NumEnd.ok (dv _) = _
  rw [h1]
theorem parse_itoa {v : Int} (h1 : -9223372036854775808 ≤ v) (h2 : v ≤ 9223372036854775807) : Lib.parseIntB 64 (Lib.itoa v) = .ok v := by
  rcases Int.lt_or_le v 0 with h | h
  · obtain ⟨u, rfl⟩ : ∃ u : Nat, v = -(u : Int) := ⟨v.natAbs, by omega⟩
    rw [Lib.itoa_neg u (by omega), Lib.parseIntB_minus, dec_ub (by omega)]
    show (if 2 ^ (64 - 1) < u then _ else _) = _
    rw [if_neg (by omega)]
  · obtain ⟨u, rfl⟩ : ∃ u : Nat, v = u := ⟨v.toNat, by omega⟩
    rw [Lib.itoa_nonneg]
    have hu := dec_ub (n := u) (by omega)
    have hd := (dec_dv u).2
    cases hl : Lib.decDigits u with
    | nil => exact absurd hl (dec_ne u)
    | cons c r =>
      have hc := hd c (by rw [hl]; simp)
      rw [hl] at hu
      rw [Lib.parseIntB_plain 64 c r (by omega) (by omega), hu]
      show (if 2 ^ (64 - 1) ≤ u then _ else _) = _
      rw [if_neg (by omega)]
theorem numA_itoa {v : Int} (h1 : -9223372036854775808 ≤ v) (h2 : v ≤ 9223372036854775807) : numA (Lib.itoa v) = some v := by
  unfold numA
  rw [parse_itoa h1 h2]
  simp
theorem numA_some {s : Str} {v : Int} (h : numA s = some v) : Lib.itoa v = s := by
  unfold numA at h
  split at h
  · split at h
    · rename_i h2; cases h; exact h2
    · cases h
  · cases h
theorem NumS.eq {s : Str} {k : Int} {ok : Bool} (h : NumS s k ok) : k = (numA s).getD 0 ∧ ok = (numA s).isSome := by
  obtain ⟨h1, h2, h3⟩ := h
  cases hn : numA s with
  | some v =>
    have := h2 v (numA_rng hn).1 (numA_rng hn).2 (numA_some hn)
    exact ⟨this.2, this.1⟩
  | none =>
    cases ok with
    | true =>
      obtain ⟨e, r1, r2⟩ := h1 rfl
      rw [← e, numA_itoa r1 r2] at hn; cases hn
    | false => exact ⟨h3 rfl, rfl⟩
theorem numF2 (s t : Str) (below : Bool) (hb : below = true → s = 45 :: t) (hn : below = false → t = s ∧ ∀ c r, s = c :: r → c ≠ 45) (v : Int) (h1 : -9223372036854775808 ≤ v) (h2 : v ≤ 9223372036854775807) (e : Lib.itoa v = s) :
    (below = true ↔ v < 0) ∧ digs t ∧ dv t = v.natAbs ∧ t ≠ [] ∧ t.length ≤ 19 := by
  have l19 : ∀ n : Nat, n ≤ 9223372036854775808 → (Lib.decDigits n).length ≤ 19 := fun n hn => by
    rw [Lib.decDigits_length]
    exact nDig_le 18 n (by omega)
  rcases Int.lt_or_le v 0 with h | h
  · obtain ⟨u, rfl⟩ : ∃ u : Nat, v = -(u : Int) := ⟨v.natAbs, by omega⟩
    rw [Lib.itoa_neg u (by omega)] at e
    obtain ⟨d1, d2⟩ := dec_dv u
    cases below with
    | true =>
      have := hb rfl
      rw [← e] at this
      obtain rfl : Lib.decDigits u = t := (List.cons.inj this).2
      exact ⟨⟨fun _ => h, fun _ => rfl⟩, d2, by rw [d1]; omega, dec_ne u, l19 u (by omega)⟩
    | false => exact absurd rfl ((hn rfl).2 45 _ e.symm)
  · obtain ⟨u, rfl⟩ : ∃ u : Nat, v = u := ⟨v.toNat, by omega⟩
    rw [Lib.itoa_nonneg] at e
    obtain ⟨d1, d2⟩ := dec_dv u
    cases below with
    | true =>
      have := hb rfl
      rw [← e] at this
      have := d2 45 (by rw [this]; simp)
      exact absurd this.1 (by decide)
    | false =>
      obtain ⟨rfl, _⟩ := hn rfl
      subst e
      exact ⟨⟨fun e => (by cases e), fun hh => by omega⟩, d2, by rw [d1]; omega, dec_ne u, l19 u (by omega)⟩
section
set_option maxHeartbeats 8000000
set_option maxRecDepth 10000
variable {h : Hp} {K : Value → Hp → Prop}
theorem number2_x (s : Str) (hs : s.length ≤ 2 ^ 40) (hk : ∀ k ok, NumS s k ok → K (.tuple #[.int .i64 k, .bool ok]) h) : X Tryz.prog 11 #[sv s] h K := by
  have hno : (∀ v : Int, -9223372036854775808 ≤ v → v ≤ 9223372036854775807 → Lib.itoa v ≠ s) → K (.tuple #[.int .i64 0, .bool false]) h := fun hh => hk 0 false (NumS.no hh)
  refine fnv (args := _) mixed [] [] [] Tryz.func11 rfl (by kernel_rfl) ?_
  conv => whnf
  by_cases hc : ∃ r, s = 45 :: r
  · obtain ⟨t, rfl⟩ := hc
    have hnum := numF2 (45 :: t) t true (fun _ => rfl) (fun e => by cases e)
    conv => whnf
    refine bsel_true ?_ ?_
    · rw [bs_size]; simp
    conv => whnf
    refine ch_intro ((45 : UInt8)) (by omega) (rfl) ?_
    conv => whnf
    refine need_intro (by rw [bs_size, List.length_cons]; omega) ?_
    conv => whnf
    refine sub_from (m := t) rfl ?_
    conv => whnf
    conv => whnf
    refine bsel_intro (fun q1 => ?_) (fun q1 => ?_) <;> try simp only [bsL] at q1
    · conv => whnf
      exact hno fun v v1 v2 e => (hnum v v1 v2 e).2.2.2.1 (List.eq_nil_of_length_eq_zero (by omega))
    conv => whnf
    refine bsel_intro (fun q2 => ?_) (fun q2 => ?_) <;> try simp only [bsL] at q2
    · conv => whnf
      exact hno fun v v1 v2 e => by have := (hnum v v1 v2 e).2.2.2.2; omega
    conv => whnf
    refine loop_at [7, 6] [] (fun r vs _ h' => h = h' ∧ ∃ i : Nat, i ≤ t.length ∧ r = t.length - i ∧ vs = [.v (.int .i64 i), .v (.int .u64 (dv (t.take i) : Nat))] ∧ digs (t.take i)) t.length ⟨rfl, 0, by omega, by omega, rfl, by simp [digs]⟩ ?_
    rintro r vs cs mm bx _ ⟨rfl, i, hi, rfl, rfl, hdg⟩
    conv => whnf
    refine bsel_intro (fun q3 => ?_) (fun q3 => ?_) <;> try simp only [bsL] at q3
    · have hiT : i < t.length := by omega
      obtain ⟨b, hb⟩ : ∃ b, t[i]? = some b := ⟨_, List.getElem?_eq_getElem hiT⟩
      have hb' : t[((i : Nat) : Int).toNat]? = some b := by rw [Int.toNat_natCast]; exact hb
      have hdv := dv_lt 18 (t.take i) (by rw [List.length_take]; omega) hdg
      have hb8 := b.toNat_lt
      have htk : t.take (i + 1) = t.take i ++ [b] := by rw [List.take_add_one, hb]; rfl
      have hdv2 := dv_snoc (t.take i) b
      rw [← htk] at hdv2
      have hbd : ∀ v : Int, -9223372036854775808 ≤ v → v ≤ 9223372036854775807 → Lib.itoa v = _ → 48 ≤ b.toNat ∧ b.toNat ≤ 57 := fun v v1 v2 e => (hnum v v1 v2 e).2.1 b (List.mem_of_getElem? hb)
      generalize dv (t.take i) = D at *
      conv => whnf
      refine ch_intro (b) (by omega) (hb') ?_
      conv => whnf
      refine bsel_intro (fun q4 => ?_) (fun q4 => ?_) <;> try simp only [bsL] at q4
      · conv => whnf
        exact hno fun v v1 v2 e => by have := hbd v v1 v2 e; omega
      conv => whnf
      refine ch_intro (b) (by omega) (hb') ?_
      conv => whnf
      refine bsel_intro (fun q5 => ?_) (fun q5 => ?_) <;> try simp only [bsL] at q5
      · conv => whnf
        exact hno fun v v1 v2 e => by have := hbd v v1 v2 e; omega
      conv => whnf
      first | refine ov_i64 (by omega) ?_ | refine ov_u64 (by omega) ?_ | refine ov_i64 (by decide) ?_ | refine ov_u64 (by decide) ?_ | refine ov_u8 (by omega) ?_ | refine ov_i32 (by omega) ?_ | refine ov_u32 (by omega) ?_
      conv => whnf
      refine ch_intro (b) (by omega) (hb') ?_
      conv => whnf
      first | refine ov_i64 (by omega) ?_ | refine ov_u64 (by omega) ?_ | refine ov_i64 (by decide) ?_ | refine ov_u64 (by decide) ?_ | refine ov_u8 (by omega) ?_ | refine ov_i32 (by omega) ?_ | refine ov_u32 (by omega) ?_
      conv => whnf
      first | refine ov_i64 (by omega) ?_ | refine ov_u64 (by omega) ?_ | refine ov_i64 (by decide) ?_ | refine ov_u64 (by decide) ?_ | refine ov_u8 (by omega) ?_ | refine ov_i32 (by omega) ?_ | refine ov_u32 (by omega) ?_
      conv => whnf
      first | refine ov_i64 (by omega) ?_ | refine ov_u64 (by omega) ?_ | refine ov_i64 (by decide) ?_ | refine ov_u64 (by decide) ?_ | refine ov_u8 (by omega) ?_ | refine ov_i32 (by omega) ?_ | refine ov_u32 (by omega) ?_
      conv => whnf
      first | refine ov_i64 (by omega) ?_ | refine ov_u64 (by omega) ?_ | refine ov_i64 (by decide) ?_ | refine ov_u64 (by decide) ?_ | refine ov_u8 (by omega) ?_ | refine ov_i32 (by omega) ?_ | refine ov_u32 (by omega) ?_
      conv => whnf
      refine ⟨t.length - (i + 1), by omega, rfl, i + 1, by omega, rfl, ?_, ?_⟩
      · show [MV.v (.int .i64 ((i : Int) + 1)), MV.v (.int .u64 (10 * (D : Int) + ((b.toNat : Int) - 48)))] = _
        rw [show 10 * (D : Int) + ((b.toNat : Int) - 48) = ((dv (t.take (i + 1)) : Nat) : Int) by omega]
        rfl
      · intro x hx
        rw [htk] at hx
        rcases List.mem_append.1 hx with hx | hx
        · exact hdg x hx
        · simp only [List.mem_singleton] at hx; subst hx; omega
    have hin : i = t.length := by omega
    subst hin
    rw [List.take_length] at hdg ⊢
    have hdv := dv_lt 19 t (by omega) hdg
    have hnn : ∀ v : Int, -9223372036854775808 ≤ v → v ≤ 9223372036854775807 → Lib.itoa v = _ → dv t = v.natAbs ∧ (v < 0) := fun v v1 v2 e => ⟨(hnum v v1 v2 e).2.2.1, (hnum v v1 v2 e).1.1 rfl⟩
    generalize dv t = D at *
    conv => whnf
    refine bsel_intro (fun q6 => ?_) (fun q6 => ?_) <;> try simp only [bsL] at q6
    · conv => whnf
      exact hno fun v v1 v2 e => by have := hnn v v1 v2 e; omega
    conv => whnf
    refine ov_by (y := if D = 9223372036854775808 then -9223372036854775808 else (D : Int)) (by rw [wrapI64]; split <;> omega) ?_
    conv => whnf
    refine ov_by (y := if D = 0 then 0 else 18446744073709551616 - (D : Int)) (by rw [wrap_u64]; split <;> omega) ?_
    conv => whnf
    refine ov_by (y := -(D : Int)) (by rw [wrapI64]; split <;> omega) ?_
    conv => whnf
    refine rDigits_x (-(D : Int)) (by omega) (by omega) ?_
    conv => whnf
    refine seq_intro ?_
    conv => whnf
    refine bsel_intro (fun q9 => ?_) (fun q9 => ?_) <;> try simp only [bsL] at q9
    · conv => whnf
      exact hno fun v v1 v2 e => by
        have h1 := hnn v v1 v2 e
        obtain rfl : v = -(D : Int) := by omega
        exact q9 e
    · conv => whnf
      exact hk _ true ⟨fun _ => ⟨q9, by omega, by omega⟩, fun v v1 v2 e => ⟨rfl, by have := hnn v v1 v2 e; omega⟩, fun e => by cases e⟩
  · obtain ⟨t, hts⟩ : ∃ t, t = s := ⟨s, rfl⟩
    subst hts
    have hnum := numF2 t t false (fun e => by cases e) (fun _ => ⟨rfl, fun c r e e2 => hc ⟨r, by rw [e, e2]⟩⟩)
    refine bsel_intro (fun q0 => ?_) (fun q0 => ?_) <;> try simp only [bsL] at q0
    · obtain ⟨b0, hb0⟩ : ∃ b, t[0]? = some b := ⟨_, List.getElem?_eq_getElem (by omega)⟩
      have hb45 : b0.toNat ≠ 45 := fun e => hc ⟨t.drop 1, by
        have e2 : b0 = 45 := UInt8.toNat_inj.1 e
        cases t with
        | nil => simp at hb0
        | cons x y => simp at hb0; rw [hb0, e2]; rfl⟩
      conv => whnf
      refine ch_intro (b0) (by omega) (hb0) ?_
      conv => whnf
      refine bsel_false ?_ ?_
      · simp; omega
      conv => whnf
      conv => whnf
      refine bsel_intro (fun q1 => ?_) (fun q1 => ?_) <;> try simp only [bsL] at q1
      · conv => whnf
        exact hno fun v v1 v2 e => (hnum v v1 v2 e).2.2.2.1 (List.eq_nil_of_length_eq_zero (by omega))
      conv => whnf
      refine bsel_intro (fun q2 => ?_) (fun q2 => ?_) <;> try simp only [bsL] at q2
      · conv => whnf
        exact hno fun v v1 v2 e => by have := (hnum v v1 v2 e).2.2.2.2; omega
      conv => whnf
      refine loop_at [7, 6] [] (fun r vs _ h' => h = h' ∧ ∃ i : Nat, i ≤ t.length ∧ r = t.length - i ∧ vs = [.v (.int .i64 i), .v (.int .u64 (dv (t.take i) : Nat))] ∧ digs (t.take i)) t.length ⟨rfl, 0, by omega, by omega, rfl, by simp [digs]⟩ ?_
      rintro r vs cs mm bx _ ⟨rfl, i, hi, rfl, rfl, hdg⟩
      conv => whnf
      refine bsel_intro (fun q3 => ?_) (fun q3 => ?_) <;> try simp only [bsL] at q3
      · have hiT : i < t.length := by omega
        obtain ⟨b, hb⟩ : ∃ b, t[i]? = some b := ⟨_, List.getElem?_eq_getElem hiT⟩
        have hb' : t[((i : Nat) : Int).toNat]? = some b := by rw [Int.toNat_natCast]; exact hb
        have hdv := dv_lt 18 (t.take i) (by rw [List.length_take]; omega) hdg
        have hb8 := b.toNat_lt
        have htk : t.take (i + 1) = t.take i ++ [b] := by rw [List.take_add_one, hb]; rfl
        have hdv2 := dv_snoc (t.take i) b
        rw [← htk] at hdv2
        have hbd : ∀ v : Int, -9223372036854775808 ≤ v → v ≤ 9223372036854775807 → Lib.itoa v = _ → 48 ≤ b.toNat ∧ b.toNat ≤ 57 := fun v v1 v2 e => (hnum v v1 v2 e).2.1 b (List.mem_of_getElem? hb)
        generalize dv (t.take i) = D at *
        conv => whnf
        refine ch_intro (b) (by omega) (hb') ?_
        conv => whnf
        refine bsel_intro (fun q4 => ?_) (fun q4 => ?_) <;> try simp only [bsL] at q4
        · conv => whnf
          exact hno fun v v1 v2 e => by have := hbd v v1 v2 e; omega
        conv => whnf
        refine ch_intro (b) (by omega) (hb') ?_
        conv => whnf
        refine bsel_intro (fun q5 => ?_) (fun q5 => ?_) <;> try simp only [bsL] at q5
        · conv => whnf
          exact hno fun v v1 v2 e => by have := hbd v v1 v2 e; omega
        conv => whnf
        first | refine ov_i64 (by omega) ?_ | refine ov_u64 (by omega) ?_ | refine ov_i64 (by decide) ?_ | refine ov_u64 (by decide) ?_ | refine ov_u8 (by omega) ?_ | refine ov_i32 (by omega) ?_ | refine ov_u32 (by omega) ?_
        conv => whnf
        refine ch_intro (b) (by omega) (hb') ?_
        conv => whnf
        first | refine ov_i64 (by omega) ?_ | refine ov_u64 (by omega) ?_ | refine ov_i64 (by decide) ?_ | refine ov_u64 (by decide) ?_ | refine ov_u8 (by omega) ?_ | refine ov_i32 (by omega) ?_ | refine ov_u32 (by omega) ?_
        conv => whnf
        first | refine ov_i64 (by omega) ?_ | refine ov_u64 (by omega) ?_ | refine ov_i64 (by decide) ?_ | refine ov_u64 (by decide) ?_ | refine ov_u8 (by omega) ?_ | refine ov_i32 (by omega) ?_ | refine ov_u32 (by omega) ?_
        conv => whnf
        first | refine ov_i64 (by omega) ?_ | refine ov_u64 (by omega) ?_ | refine ov_i64 (by decide) ?_ | refine ov_u64 (by decide) ?_ | refine ov_u8 (by omega) ?_ | refine ov_i32 (by omega) ?_ | refine ov_u32 (by omega) ?_
        conv => whnf
        first | refine ov_i64 (by omega) ?_ | refine ov_u64 (by omega) ?_ | refine ov_i64 (by decide) ?_ | refine ov_u64 (by decide) ?_ | refine ov_u8 (by omega) ?_ | refine ov_i32 (by omega) ?_ | refine ov_u32 (by omega) ?_
        conv => whnf
        refine ⟨t.length - (i + 1), by omega, rfl, i + 1, by omega, rfl, ?_, ?_⟩
        · show [MV.v (.int .i64 ((i : Int) + 1)), MV.v (.int .u64 (10 * (D : Int) + ((b.toNat : Int) - 48)))] = _
          rw [show 10 * (D : Int) + ((b.toNat : Int) - 48) = ((dv (t.take (i + 1)) : Nat) : Int) by omega]
          rfl
        · intro x hx
          rw [htk] at hx
          rcases List.mem_append.1 hx with hx | hx
          · exact hdg x hx
          · simp only [List.mem_singleton] at hx; subst hx; omega
      have hin : i = t.length := by omega
      subst hin
      rw [List.take_length] at hdg ⊢
      have hdv := dv_lt 19 t (by omega) hdg
      have hnn : ∀ v : Int, -9223372036854775808 ≤ v → v ≤ 9223372036854775807 → Lib.itoa v = _ → dv t = v.natAbs ∧ (0 ≤ v) := fun v v1 v2 e => ⟨(hnum v v1 v2 e).2.2.1, by have := (hnum v v1 v2 e).1; have h9 : ¬ v < 0 := fun hh => (by cases this.2 hh); omega⟩
      generalize dv t = D at *
      conv => whnf
      refine bsel_intro (fun q6 => ?_) (fun q6 => ?_) <;> try simp only [bsL] at q6
      · conv => whnf
        exact hno fun v v1 v2 e => by have := hnn v v1 v2 e; omega
      conv => whnf
      refine bsel_intro (fun q7 => ?_) (fun q7 => ?_) <;> try simp only [bsL] at q7
      · conv => whnf
        exact hno fun v v1 v2 e => by have := hnn v v1 v2 e; omega
      conv => whnf
      first | refine ov_i64 (by omega) ?_ | refine ov_u64 (by omega) ?_ | refine ov_i64 (by decide) ?_ | refine ov_u64 (by decide) ?_ | refine ov_u8 (by omega) ?_ | refine ov_i32 (by omega) ?_ | refine ov_u32 (by omega) ?_
      conv => whnf
      refine rDigits_x (D : Int) (by omega) (by omega) ?_
      conv => whnf
      refine seq_intro ?_
      conv => whnf
      refine bsel_intro (fun q9 => ?_) (fun q9 => ?_) <;> try simp only [bsL] at q9
      · conv => whnf
        exact hno fun v v1 v2 e => by
          have h1 := hnn v v1 v2 e
          obtain rfl : v = (D : Int) := by omega
          exact q9 e
      · conv => whnf
        exact hk _ true ⟨fun _ => ⟨q9, by omega, by omega⟩, fun v v1 v2 e => ⟨rfl, by have := hnn v v1 v2 e; omega⟩, fun e => by cases e⟩
    · have ht0 : t = [] := List.eq_nil_of_length_eq_zero (by omega)
      conv => whnf
      conv => whnf
      refine bsel_intro (fun q1 => ?_) (fun q1 => ?_) <;> try simp only [bsL] at q1
      · conv => whnf
        exact hno fun v v1 v2 e => (hnum v v1 v2 e).2.2.2.1 (List.eq_nil_of_length_eq_zero (by omega))
      conv => whnf
      refine bsel_intro (fun q2 => ?_) (fun q2 => ?_) <;> try simp only [bsL] at q2
      · conv => whnf
        exact hno fun v v1 v2 e => by have := (hnum v v1 v2 e).2.2.2.2; omega
      conv => whnf
      refine loop_at [7, 6] [] (fun r vs _ h' => h = h' ∧ ∃ i : Nat, i ≤ t.length ∧ r = t.length - i ∧ vs = [.v (.int .i64 i), .v (.int .u64 (dv (t.take i) : Nat))] ∧ digs (t.take i)) t.length ⟨rfl, 0, by omega, by omega, rfl, by simp [digs]⟩ ?_
      rintro r vs cs mm bx _ ⟨rfl, i, hi, rfl, rfl, hdg⟩
      conv => whnf
      refine bsel_intro (fun q3 => ?_) (fun q3 => ?_) <;> try simp only [bsL] at q3
      · have hiT : i < t.length := by omega
        obtain ⟨b, hb⟩ : ∃ b, t[i]? = some b := ⟨_, List.getElem?_eq_getElem hiT⟩
        have hb' : t[((i : Nat) : Int).toNat]? = some b := by rw [Int.toNat_natCast]; exact hb
        have hdv := dv_lt 18 (t.take i) (by rw [List.length_take]; omega) hdg
        have hb8 := b.toNat_lt
        have htk : t.take (i + 1) = t.take i ++ [b] := by rw [List.take_add_one, hb]; rfl
        have hdv2 := dv_snoc (t.take i) b
        rw [← htk] at hdv2
        have hbd : ∀ v : Int, -9223372036854775808 ≤ v → v ≤ 9223372036854775807 → Lib.itoa v = _ → 48 ≤ b.toNat ∧ b.toNat ≤ 57 := fun v v1 v2 e => (hnum v v1 v2 e).2.1 b (List.mem_of_getElem? hb)
        generalize dv (t.take i) = D at *
        conv => whnf
        refine ch_intro (b) (by omega) (hb') ?_
        conv => whnf
        refine bsel_intro (fun q4 => ?_) (fun q4 => ?_) <;> try simp only [bsL] at q4
        · conv => whnf
          exact hno fun v v1 v2 e => by have := hbd v v1 v2 e; omega
        conv => whnf
        refine ch_intro (b) (by omega) (hb') ?_
        conv => whnf
        refine bsel_intro (fun q5 => ?_) (fun q5 => ?_) <;> try simp only [bsL] at q5
        · conv => whnf
          exact hno fun v v1 v2 e => by have := hbd v v1 v2 e; omega
        conv => whnf
        first | refine ov_i64 (by omega) ?_ | refine ov_u64 (by omega) ?_ | refine ov_i64 (by decide) ?_ | refine ov_u64 (by decide) ?_ | refine ov_u8 (by omega) ?_ | refine ov_i32 (by omega) ?_ | refine ov_u32 (by omega) ?_
        conv => whnf
        refine ch_intro (b) (by omega) (hb') ?_
        conv => whnf
        first | refine ov_i64 (by omega) ?_ | refine ov_u64 (by omega) ?_ | refine ov_i64 (by decide) ?_ | refine ov_u64 (by decide) ?_ | refine ov_u8 (by omega) ?_ | refine ov_i32 (by omega) ?_ | refine ov_u32 (by omega) ?_
        conv => whnf
        first | refine ov_i64 (by omega) ?_ | refine ov_u64 (by omega) ?_ | refine ov_i64 (by decide) ?_ | refine ov_u64 (by decide) ?_ | refine ov_u8 (by omega) ?_ | refine ov_i32 (by omega) ?_ | refine ov_u32 (by omega) ?_
        conv => whnf
        first | refine ov_i64 (by omega) ?_ | refine ov_u64 (by omega) ?_ | refine ov_i64 (by decide) ?_ | refine ov_u64 (by decide) ?_ | refine ov_u8 (by omega) ?_ | refine ov_i32 (by omega) ?_ | refine ov_u32 (by omega) ?_
        conv => whnf
        first | refine ov_i64 (by omega) ?_ | refine ov_u64 (by omega) ?_ | refine ov_i64 (by decide) ?_ | refine ov_u64 (by decide) ?_ | refine ov_u8 (by omega) ?_ | refine ov_i32 (by omega) ?_ | refine ov_u32 (by omega) ?_
        conv => whnf
        refine ⟨t.length - (i + 1), by omega, rfl, i + 1, by omega, rfl, ?_, ?_⟩
        · show [MV.v (.int .i64 ((i : Int) + 1)), MV.v (.int .u64 (10 * (D : Int) + ((b.toNat : Int) - 48)))] = _
          rw [show 10 * (D : Int) + ((b.toNat : Int) - 48) = ((dv (t.take (i + 1)) : Nat) : Int) by omega]
          rfl
        · intro x hx
          rw [htk] at hx
          rcases List.mem_append.1 hx with hx | hx
          · exact hdg x hx
          · simp only [List.mem_singleton] at hx; subst hx; omega
      have hin : i = t.length := by omega
      subst hin
      rw [List.take_length] at hdg ⊢
      have hdv := dv_lt 19 t (by omega) hdg
      have hnn : ∀ v : Int, -9223372036854775808 ≤ v → v ≤ 9223372036854775807 → Lib.itoa v = _ → dv t = v.natAbs ∧ (0 ≤ v) := fun v v1 v2 e => ⟨(hnum v v1 v2 e).2.2.1, by have := (hnum v v1 v2 e).1; have h9 : ¬ v < 0 := fun hh => (by cases this.2 hh); omega⟩
      generalize dv t = D at *
      conv => whnf
      refine bsel_intro (fun q6 => ?_) (fun q6 => ?_) <;> try simp only [bsL] at q6
      · conv => whnf
        exact hno fun v v1 v2 e => by have := hnn v v1 v2 e; omega
      conv => whnf
      refine bsel_intro (fun q7 => ?_) (fun q7 => ?_) <;> try simp only [bsL] at q7
      · conv => whnf
        exact hno fun v v1 v2 e => by have := hnn v v1 v2 e; omega
      conv => whnf
      first | refine ov_i64 (by omega) ?_ | refine ov_u64 (by omega) ?_ | refine ov_i64 (by decide) ?_ | refine ov_u64 (by decide) ?_ | refine ov_u8 (by omega) ?_ | refine ov_i32 (by omega) ?_ | refine ov_u32 (by omega) ?_
      conv => whnf
      refine rDigits_x (D : Int) (by omega) (by omega) ?_
      conv => whnf
      refine seq_intro ?_
      conv => whnf
      refine bsel_intro (fun q9 => ?_) (fun q9 => ?_) <;> try simp only [bsL] at q9
      · conv => whnf
        exact hno fun v v1 v2 e => by
          have h1 := hnn v v1 v2 e
          obtain rfl : v = (D : Int) := by omega
          exact q9 e
      · conv => whnf
        exact hk _ true ⟨fun _ => ⟨q9, by omega, by omega⟩, fun v v1 v2 e => ⟨rfl, by have := hnn v v1 v2 e; omega⟩, fun e => by cases e⟩
theorem rnumber_x (s : Str) (hs : s.length ≤ 2 ^ 40) (hk : K (okV (numA s)) h) : X Tryz.prog 11 #[sv s] h K :=
  number2_x s hs fun k ok hn => by
    obtain ⟨rfl, rfl⟩ := hn.eq
    exact hk
end
end Go.Proofs.YtlobclgbbhoeiaaGreatDoor
