/-
  The document's digits.
-/
import Derived.Test.YtciagjfemgfhgaaDoorLibN
namespace Go.Proofs.YtciagjfemgfhgaaDoor
set_option linter.unusedSimpArgs false
set_option linter.unusedVariables false
open Go Go.Mid Go.RowKit
attribute [local irreducible] mid
section
set_option maxHeartbeats 8000000
set_option maxRecDepth 10000
variable {h : Hp} {K : Value → Hp → Prop}
theorem dig10 : ∀ n : Nat, n < 10 → (([48, 49, 50, 51, 52, 53, 54, 55, 56, 57] : Str).take ((n : Int) + 1).toNat).drop (n : Int).toNat = [UInt8.ofNat (48 + n)] := by decide +kernel
/-- The document's digits. -/
theorem rplain_x (u : Nat) (hu : u < 18446744073709551616) (hk : K (.string (bs (Lib.decDigits u))) h) : X Tryd.prog 50 #[.int .u64 u] h K := by
  have hlen := dec_len hu
  have step : ∀ (n : Nat) (s : Str), Lib.decDigits u = (if n < 10 then [] else Lib.decDigits (n / 10)) ++ s → 9 < n → Lib.decDigits u = (if n / 10 < 10 then [] else Lib.decDigits (n / 10 / 10)) ++ (UInt8.ofNat (48 + n / 10 % 10) :: s) := fun n s e hn => by
    rw [if_neg (by omega)] at e
    rw [e, Lib.decDigits]
    by_cases h2 : n / 10 < 10
    · rw [dif_pos h2, if_pos h2, Nat.mod_eq_of_lt h2]; rfl
    · rw [dif_neg h2, if_neg h2, List.append_assoc]; rfl
  have first : Lib.decDigits u = (if u < 10 then [] else Lib.decDigits (u / 10)) ++ [UInt8.ofNat (48 + u % 10)] := by
    rw [Lib.decDigits]
    by_cases h2 : u < 10
    · rw [dif_pos h2, if_pos h2, Nat.mod_eq_of_lt h2]; rfl
    · rw [dif_neg h2, if_neg h2]
  have dgt : ∀ n : Nat, (([48, 49, 50, 51, 52, 53, 54, 55, 56, 57] : Str).take ((n : Int).tmod 10 + 1).toNat).drop ((n : Int).tmod 10).toNat = [UInt8.ofNat (48 + n % 10)] := fun n => dig10 (n % 10) (Nat.mod_lt _ (by decide))
  have tm : ∀ n : Nat, (n : Int).tmod 10 = ((n % 10 : Nat) : Int) := fun n => rfl
  have td : ∀ n : Nat, (n : Int).tdiv 10 = ((n / 10 : Nat) : Int) := fun n => rfl
  refine fnv (args := _) mixed [] [] [] Tryd.func50 rfl (by kernel_rfl) ?_
  conv => whnf
  refine ov_u64 (by rw [tm]; omega) ?_
  conv => whnf
  first | refine need_intro (⟨by rw [tm]; omega, by rw [tm]; show _ ≤ ((10 : Nat) : Int); omega⟩) ?_ | refine must.mk (⟨by rw [tm]; omega, by rw [tm]; show _ ≤ ((10 : Nat) : Int); omega⟩) ?_
  conv => whnf
  first | refine need_intro (⟨by rw [tm]; omega, by rw [tm]; omega⟩) ?_ | refine must.mk (⟨by rw [tm]; omega, by rw [tm]; omega⟩) ?_
  conv => whnf
  refine sub_by (dgt u) ?_
  conv => whnf
  refine loop_at [0, 4] [] (fun r vs _ h' => h = h' ∧ ∃ (n : Nat) (s : Str), n ≤ u ∧ r = n ∧ vs = [.v (.int .u64 n), .v (.string (bs s))] ∧ Lib.decDigits u = (if n < 10 then [] else Lib.decDigits (n / 10)) ++ s) u ⟨rfl, u, _, Nat.le_refl _, rfl, rfl, first⟩ ?_
  rintro n vs cs mm bx _ ⟨rfl, _, s, hnu, rfl, rfl, hs⟩
  have hls : s.length ≤ 20 := by rw [hs, List.length_append] at hlen; omega
  conv => whnf
  refine bsel_intro (fun q1 => ?_) (fun q1 => ?_) <;> try simp only [decide_eq_true_eq, decide_eq_false_iff_not, beq_iff_eq, beq_eq_false_iff_ne, ne_eq, Bool.not_eq_true', Bool.not_eq_false', bne_iff_ne, bne_eq_false_iff_eq, Bool.not_eq_true, Bool.not_eq_false, Bool.and_eq_true, Bool.or_eq_true, bs_size] at q1
  · have hn : 9 < n := by omega
    conv => whnf
    rw [td]
    refine ov_u64 (by omega) ?_
    conv => whnf
    refine ov_u64 (by rw [tm]; omega) ?_
    conv => whnf
    first | refine need_intro (⟨by rw [tm]; omega, by rw [tm]; show _ ≤ ((10 : Nat) : Int); omega⟩) ?_ | refine must.mk (⟨by rw [tm]; omega, by rw [tm]; show _ ≤ ((10 : Nat) : Int); omega⟩) ?_
    conv => whnf
    first | refine need_intro (⟨by rw [tm]; omega, by rw [tm]; omega⟩) ?_ | refine must.mk (⟨by rw [tm]; omega, by rw [tm]; omega⟩) ?_
    conv => whnf
    refine sub_by (dgt (n / 10)) ?_
    conv => whnf
    refine cat_intro (by simp; omega) ?_
    conv => whnf
    refine ⟨n / 10, by omega, rfl, n / 10, _, by omega, rfl, rfl, ?_⟩
    exact step n s hs hn
  · have hn : n < 10 := by omega
    rw [if_pos hn, List.nil_append] at hs
    rw [hs] at hk
    conv => whnf
    exact hk
theorem rPlain_x (u : Nat) (hu : u < 18446744073709551616) (hk : K (.string (bs (Lib.decDigits u))) h) : X Tryd.prog 39 #[.int .u64 u] h K := by
  refine fnv (args := _) mixed [] [] [] Tryd.func39 rfl (by kernel_rfl) ?_
  conv => whnf
  refine rplain_x u hu ?_
  conv => whnf
  exact hk
end
end Go.Proofs.YtciagjfemgfhgaaDoor
