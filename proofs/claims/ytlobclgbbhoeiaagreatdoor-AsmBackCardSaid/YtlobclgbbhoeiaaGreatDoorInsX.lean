/-
  Words by their bits: the program's (package bits).
-/
import Derived.Test.YtlobclgbbhoeiaaGreatDoorLib0
import Derived.Test.YtlobclgbbhoeiaaGreatDoorMidXY
import Derived.Test.YtlobclgbbhoeiaaGreatDoorBitV
import Derived.Test.YtlobclgbbhoeiaaGreatDoorBitZ
import Derived.Test.YtlobclgbbhoeiaaGreatDoorAsZc
import Derived.Test.YtlobclgbbhoeiaaGreatDoorAsP
/-! Words by their bits: the program's (package bits). -/
namespace Go.Proofs.YtlobclgbbhoeiaaGreatDoor
set_option linter.unusedSimpArgs false
set_option linter.unusedVariables false
open Go Go.Mid Go.RowKit Go.Bits
attribute [local irreducible] mid
abbrev ux (n : Nat) : Value := .int .u64 n
abbrev wx (n : Nat) : Value := .int .u32 n
theorem ov_is {x y : Int} {K : Int → Prop} (e : x = y) (h : -9223372036854775808 ≤ y ∧ y ≤ 9223372036854775807) (hk : K y) : ovK .i64 x K := by
  subst e; exact ov_i64 h hk
theorem wrapI64N (w : Nat) (hw : w < 2 ^ 64) : IntKind.i64.wrap (w : Int) = i64N w := by
  unfold i64N
  rw [IntKind.wrap_i64]
  split <;> omega
theorem wrapU64N (n : Int) : IntKind.u64.wrap n = (u64N n : Nat) := by
  unfold u64N
  exact toU64 n
section
set_option maxHeartbeats 8000000
set_option maxRecDepth 10000
variable {h : Hp} {K : Value → Hp → Prop}
theorem bspan_x (a s : Nat) (ha : a ≤ 63) (hs : 1 ≤ s ∧ a + s ≤ 64) (hk : K (.tuple #[.int .i64 a, .int .i64 (a + s : Nat)]) h) : X Tryz.prog 161 #[.int .i64 a, .int .i64 s] h K := by
  refine fnv (args := _) mixed [] [] [] Tryz.func161 rfl (by kernel_rfl) ?_; conv => whnf
  refine bsel_false (by simp; omega) ?_; conv => whnf
  refine bsel_false (by simp; omega) ?_; conv => whnf
  (first | refine ov_c (by simp only [loK, hiK]; omega) ?_ | refine ov_c (by decide) ?_); conv => whnf
  have e : (a : Int) + (if (64 - (a : Int)) < (s : Int) then (64 - (a : Int)) else (s : Int)) = ((a + s : Nat) : Int) := by split <;> omega
  refine ov_is e (by omega) ?_
  conv => whnf
  exact hk
theorem ones_eq (s : Nat) (hs : 1 ≤ s ∧ s ≤ 64) : 18446744073709551615 / 2 ^ (64 - s) = 2 ^ s - 1 := by
  have e : 2 ^ s * 2 ^ (64 - s) = 18446744073709551616 := by rw [← Nat.pow_add, show s + (64 - s) = 64 by omega]
  have hp : 0 < 2 ^ (64 - s) := Nat.pow_pos (by decide)
  have h1 : 1 ≤ 2 ^ s := Nat.pow_pos (by decide)
  rw [Nat.div_eq_iff hp]
  have e2 : (2 ^ s - 1) * 2 ^ (64 - s) = 18446744073709551616 - 2 ^ (64 - s) := by rw [Nat.sub_mul, e, Nat.one_mul]
  omega
theorem bones_x (a s : Nat) (ha : a ≤ 63) (hs : 1 ≤ s ∧ a + s ≤ 64) (hk : K (ux ((2 ^ s - 1) * 2 ^ a)) h) : X Tryz.prog 152 #[.int .i64 a, .int .i64 s] h K := by
  have hlt : (2 ^ s - 1) * 2 ^ a < 18446744073709551616 := by
    have e : 2 ^ s * 2 ^ a ≤ 2 ^ 64 := by rw [← Nat.pow_add]; exact Nat.pow_le_pow_right (by decide) (by omega)
    have h1 : 1 ≤ 2 ^ s := Nat.pow_pos (by decide)
    have h2 : 1 ≤ 2 ^ a := Nat.pow_pos (by decide)
    rw [Nat.sub_mul]
    omega
  refine fnv (args := _) mixed [] [] [] Tryz.func152 rfl (by kernel_rfl) ?_; conv => whnf
  refine bspan_x a s ha hs ?_
  conv => whnf
  refine bsel_false (by simp; omega) ?_; conv => whnf
  refine ov_is (y := s) (by omega) (by omega) ?_
  conv => whnf
  refine ov_is (y := (64 - s : Nat)) (by omega) (by omega) ?_
  conv => whnf
  refine ov_u64 (by omega) ?_; conv => whnf
  refine val_by (shr64 18446744073709551615 (64 - s) (by omega)) ?_; conv => whnf
  rw [ones_eq s (by omega)]
  refine ov_u64 (by omega) ?_; conv => whnf
  refine ov_by (shl64 (2 ^ s - 1) a (by omega)) ?_
  rw [Nat.mod_eq_of_lt hlt]
  conv => whnf
  exact hk
theorem bdown_x (w k : Nat) (hw : w < 2 ^ 64) (hkk : k ≤ 63) (hk : K (ux (w / 2 ^ k)) h) : X Tryz.prog 151 #[ux w, .int .i64 (-(k : Int))] h K := by
  rcases Nat.eq_zero_or_pos k with rfl | h0
  · refine fnv (args := _) mixed [] [] [] Tryz.func151 rfl (by kernel_rfl) ?_; conv => whnf
    refine ov_by (y := ((0 : Nat) : Int)) (by decide) ?_
    conv => whnf
    refine ov_by (shl64 w 0 (by decide)) ?_
    rw [Nat.pow_zero, Nat.mul_one, Nat.mod_eq_of_lt hw]
    rw [Nat.pow_zero, Nat.div_one] at hk
    conv => whnf
    exact hk
  · refine fnv (args := _) mixed [] [] [] Tryz.func151 rfl (by kernel_rfl) ?_; conv => whnf
    refine bsel_false (by simp; omega) ?_; conv => whnf
    refine bsel_false (by simp; omega) ?_; conv => whnf
    refine bsel_true (by simp; omega) ?_; conv => whnf
    rw [show IntKind.i64.wrap (0 - -(k : Int)) = (k : Int) by rw [IntWalk.i64_in _ (by omega)]; omega]
    refine ov_u64 (by omega) ?_; conv => whnf
    refine val_by (shr64 w k (by omega)) ?_; conv => whnf
    exact hk
theorem bup_x (w k : Nat) (hkk : k ≤ 63) (hk : K (ux (w * 2 ^ k % 18446744073709551616)) h) : X Tryz.prog 151 #[ux w, .int .i64 k] h K := by
  refine fnv (args := _) mixed [] [] [] Tryz.func151 rfl (by kernel_rfl) ?_; conv => whnf
  refine bsel_false (by simp; omega) ?_; conv => whnf
  refine bsel_false (by simp; omega) ?_; conv => whnf
  refine ov_u64 (by omega) ?_; conv => whnf
  refine ov_by (shl64 w k (by omega)) ?_
  conv => whnf
  exact hk
theorem bcut_x (w a s : Nat) (hw : w < 2 ^ 64) (ha : a ≤ 63) (hs : 1 ≤ s ∧ s ≤ 64) (hk : K (ux (w / 2 ^ a % 2 ^ s)) h) : X Tryz.prog 118 #[ux w, .int .i64 a, .int .i64 s] h K := by
  have h1 : w / 2 ^ a < 2 ^ 64 := Nat.lt_of_le_of_lt (Nat.div_le_self _ _) hw
  have h2 : (2 ^ s - 1) * 2 ^ 0 < 2 ^ 64 := by
    have e : 2 ^ s ≤ 2 ^ 64 := Nat.pow_le_pow_right (by decide) hs.2
    have h1 : 1 ≤ 2 ^ s := Nat.pow_pos (by decide)
    omega
  refine fnv (args := _) mixed [] [] [] Tryz.func118 rfl (by kernel_rfl) ?_; conv => whnf
  refine bsel_false (by simp; omega) ?_; conv => whnf
  refine bsel_false (by simp; omega) ?_; conv => whnf
  refine bsel_false (by simp; omega) ?_; conv => whnf
  rw [show IntKind.i64.wrap (0 - (a : Int)) = -(a : Int) by rw [IntWalk.i64_in _ (by omega)]; omega]
  refine bdown_x w a hw ha ?_
  conv => whnf
  refine bones_x 0 s (by decide) (by omega) ?_
  conv => whnf
  refine val_by (and64 h1 h2) ?_; conv => whnf
  rw [Nat.pow_zero, Nat.mul_one, Nat.and_two_pow_sub_one_eq_mod]
  exact hk
theorem sign_shift (w s : Nat) (hs : 1 ≤ s ∧ s ≤ 63) : IntKind.u64.wrap ((i64N (w * 2 ^ (64 - s) % 18446744073709551616)).fdiv (2 ^ (64 - s))) = ((signN (w % 2 ^ s) s : Nat) : Int) := by
  have hm : w % 2 ^ s < 2 ^ s := Nat.mod_lt _ (Nat.pow_pos (by decide))
  rw [sign_eq hm hs.1 (by omega)]
  have e : 2 ^ s * 2 ^ (64 - s) = 18446744073709551616 := by rw [← Nat.pow_add, show s + (64 - s) = 64 by omega]
  have e2 : 2 ^ (s - 1) * 2 ^ (64 - s) = 9223372036854775808 := by rw [← Nat.pow_add, show s - 1 + (64 - s) = 63 by omega]
  have es : 2 ^ s = 2 ^ (s - 1) * 2 := by rw [← Nat.pow_succ]; congr 1; omega
  have hle : 2 ^ s ≤ 2 ^ 63 := Nat.pow_le_pow_right (by decide) hs.2
  have hp : 0 < 2 ^ (64 - s) := Nat.pow_pos (by decide)
  have hmm : w * 2 ^ (64 - s) % 18446744073709551616 = w % 2 ^ s * 2 ^ (64 - s) := by
    rw [← e, Nat.mul_mod_mul_right]
  rw [hmm]
  generalize w % 2 ^ s = m at hm ⊢
  have hc : ((2 : Int) ^ (64 - s)) = ((2 ^ (64 - s) : Nat) : Int) := by push_cast; rfl
  rw [hc, Int.fdiv_eq_ediv_of_nonneg _ (Int.natCast_nonneg _)]
  generalize 2 ^ (64 - s) = q at *
  generalize 2 ^ (s - 1) = r at *
  unfold i64N
  by_cases hlt : m < r
  · have h1 : m * q < 9223372036854775808 := by rw [← e2]; exact Nat.mul_lt_mul_of_pos_right hlt hp
    rw [if_pos h1, if_pos hlt]
    have : ((m * q : Nat) : Int) / (q : Int) = m := by
      rw [Int.natCast_mul]; exact Int.mul_ediv_cancel _ (by omega)
    rw [this, toU64]
    omega
  · have h1 : 9223372036854775808 ≤ m * q := by rw [← e2]; exact Nat.mul_le_mul_right _ (by omega)
    rw [if_neg (by omega), if_neg hlt]
    have : (((m * q : Nat) : Int) - 18446744073709551616) / (q : Int) = (m : Int) - (2 ^ s : Nat) := by
      have e3 : ((m * q : Nat) : Int) - 18446744073709551616 = ((m : Int) - ((2 ^ s : Nat) : Int)) * (q : Int) := by
        rw [Int.sub_mul, ← Int.natCast_mul, ← Int.natCast_mul, e]; rfl
      rw [e3]; exact Int.mul_ediv_cancel _ (by omega)
    rw [this, toU64]
    omega
theorem bsign_x (w s : Nat) (hw : w < 2 ^ 64) (hs : 1 ≤ s ∧ s ≤ 63) (hk : K (ux (signN (w % 2 ^ s) s)) h) : X Tryz.prog 120 #[ux w, .int .i64 s] h K := by
  have hlt : w * 2 ^ (64 - s) % 18446744073709551616 < 2 ^ 64 := Nat.mod_lt _ (by decide)
  refine fnv (args := _) mixed [] [] [] Tryz.func120 rfl (by kernel_rfl) ?_; conv => whnf
  refine bsel_false (by simp; omega) ?_; conv => whnf
  refine bsel_false (by simp; omega) ?_; conv => whnf
  refine ov_is (y := (64 - s : Nat)) (by omega) (by omega) ?_
  conv => whnf
  refine ov_u64 (by omega) ?_; conv => whnf
  refine ov_by (shl64 w (64 - s) (by omega)) ?_
  conv => whnf
  refine ov_by (wrapI64N _ hlt) ?_
  conv => whnf
  refine val_by (y := (i64N (w * 2 ^ (64 - s) % 18446744073709551616)).fdiv (2 ^ (64 - s))) (by rw [Int.toNat_natCast, show min (64 - s) IntKind.i64.bits = 64 - s from Nat.min_eq_left (by show 64 - s ≤ 64; omega)]) ?_
  conv => whnf
  refine ov_by (sign_shift w s hs) ?_
  conv => whnf
  exact hk
theorem word_eq (w : Nat) : IntKind.u64.wrap (IntKind.i64.wrap (IntKind.i32.wrap ((w % 4294967296 : Nat) : Int))) = ((signN (w % 2 ^ 32) 32 : Nat) : Int) := by
  have hm : w % 2 ^ 32 < 2 ^ 32 := Nat.mod_lt _ (by decide)
  rw [sign_eq hm (by decide) (by decide), toU64, IntKind.wrap_i64, IntKind.wrap_i32]
  rw [show (2 : Nat) ^ 32 = 4294967296 from rfl, show (2 : Nat) ^ (32 - 1) = 2147483648 from rfl, show (2 : Nat) ^ 64 = 18446744073709551616 from rfl]
  split <;> omega
theorem bword_x (w : Nat) (hw : w < 2 ^ 64) (hk : K (ux (signN (w % 2 ^ 32) 32)) h) : X Tryz.prog 122 #[ux w] h K := by
  refine fnv (args := _) mixed [] [] [] Tryz.func122 rfl (by kernel_rfl) ?_; conv => whnf
  refine ov_by (toU32 w) ?_
  conv => whnf
  refine ov_wrap ?_
  conv => whnf
  refine ov_wrap ?_
  conv => whnf
  refine ov_by (word_eq w) ?_
  conv => whnf
  exact hk
/-- Parts, put together. -/
def gath (w : Nat) : List (Nat × Nat) → Nat → Nat
  | [], out => out
  | p :: l, out => gath w l ((out * 2 ^ p.2 % 18446744073709551616) ||| (w / 2 ^ p.1 % 2 ^ p.2))
def partC (p : Nat × Nat) : List Value := [.int .i64 p.1, .int .i64 p.2]
theorem aggPt : isAggT Tryz.prog 163 = some true := by kernel_rfl
theorem sizPt : sizeT Tryz.prog 163 = some 2 := by kernel_rfl
theorem bgather_x (w : Nat) (hw : w < 2 ^ 64) (L : List (Nat × Nat)) (b cap : Nat) (hb : h b = some (rowO 163 (L.flatMap partC))) (hL : ∀ p ∈ L, p.1 ≤ 63 ∧ 1 ≤ p.2 ∧ p.2 ≤ 63) (hl : L.length ≤ 64) (hk : K (ux (gath w L 0)) h) : X Tryz.prog 121 #[ux w, .slice (some ⟨b, 0, none⟩) L.length cap] h K := by
  refine fnv (args := _) mixed [(7, 7), (14, 7), (18, 7), (23, 7), (25, 7)] [] [] Tryz.func121 rfl (by kernel_rfl) ?_; conv => whnf
  refine loop_at [10, 5] [] (fun r vs _ h' => h = h' ∧ ∃ (i o : Nat), i ≤ L.length ∧ r = L.length - i ∧ vs = [.v (.int .i64 i), .v (ux o)] ∧ o < 2 ^ 64 ∧ gath w (L.drop i) o = gath w L 0) L.length ⟨rfl, 0, 0, by omega, by omega, rfl, by decide, rfl⟩ ?_
  rintro r vs cs mm bx _ ⟨rfl, i, o, hi, rfl, rfl, ho, hR⟩
  conv => whnf
  refine bsel_intro (fun q1 => ?_) (fun q1 => ?_) <;> try simp only [bsL] at q1
  · have hi2 : i < L.length := by omega
    obtain ⟨p, hp⟩ : ∃ p, L[i]? = some p := ⟨_, List.getElem?_eq_getElem hi2⟩
    have hpp := hL p (List.mem_of_getElem? hp)
    have hd : L.drop i = p :: L.drop (i + 1) := by
      rw [List.drop_eq_getElem_cons hi2]
      congr 1
      exact (List.getElem?_eq_some_iff.1 hp).2
    rw [hd] at hR
    have hR : gath w (L.drop (i + 1)) ((o * 2 ^ p.2 % 18446744073709551616) ||| (w / 2 ^ p.1 % 2 ^ p.2)) = gath w L 0 := hR
    have hl1 := loadH_agg (n := 2) (f := partC) aggPt sizPt (fun _ => rfl) (rest := []) (show h b = some (rowO 163 (L.flatMap partC ++ [])) by rw [List.append_nil]; exact hb) hp
    have h1 : o * 2 ^ p.2 % 18446744073709551616 < 2 ^ 64 := Nat.mod_lt _ (by decide)
    have h2 : w / 2 ^ p.1 % 2 ^ p.2 < 2 ^ 64 := Nat.lt_of_le_of_lt (Nat.mod_le _ _) (Nat.lt_of_le_of_lt (Nat.div_le_self _ _) hw)
    conv => whnf
    (first | refine need_intro (⟨by omega, by omega⟩) ?_ | refine must.mk (⟨by omega, by omega⟩) ?_); conv => whnf
    refine ⟨_, hl1, ?_⟩; conv => whnf
    refine bsel_false (by simp; omega) ?_; conv => whnf
    have em : (if (64 : Int) < (p.2 : Int) then (64 : Int) else (p.2 : Int)) = (p.2 : Int) := if_neg (by omega)
    rw [em]
    refine bup_x o p.2 (by omega) ?_
    refine ⟨trivial, ?_⟩; conv => whnf
    refine bcut_x w p.1 p.2 hw (by omega) (by omega) ?_
    refine ⟨trivial, ?_⟩; conv => whnf
    refine val_by (or64 h1 h2) ?_; conv => whnf
    (first | refine ov_c (by simp only [loK, hiK]; omega) ?_ | refine ov_c (by decide) ?_); conv => whnf
    exact ⟨L.length - (i + 1), by omega, rfl, i + 1, _, by omega, rfl, rfl, Nat.or_lt_two_pow h1 h2, hR⟩
  · obtain rfl : i = L.length := by omega
    rw [List.drop_length] at hR
    have hR : o = gath w L 0 := hR
    subst hR
    conv => whnf
    exact hk
end
end Go.Proofs.YtlobclgbbhoeiaaGreatDoor
/-! Instructions as words: which bits are fixed (printed by a program). -/
namespace Go.Proofs.YtlobclgbbhoeiaaGreatDoor
set_option linter.unusedSimpArgs false
set_option linter.unusedVariables false
open Go Go.Mid Go.RowKit Go.Bits
attribute [local irreducible] mid
def codeL : List (Nat × Nat × Nat) := [(55, 0, 0), (23, 0, 0), (111, 0, 0), (103, 0, 0), (99, 0, 0), (99, 1, 0), (99, 4, 0), (99, 5, 0), (99, 6, 0), (99, 7, 0), (3, 0, 0), (3, 1, 0), (3, 2, 0), (3, 3, 0), (3, 4, 0), (3, 5, 0), (3, 6, 0), (35, 0, 0), (35, 1, 0), (35, 2, 0), (35, 3, 0), (19, 0, 0), (19, 2, 0), (19, 3, 0), (19, 4, 0), (19, 6, 0), (19, 7, 0), (19, 1, 0), (19, 5, 0), (19, 5, 32), (51, 0, 0), (51, 0, 32), (51, 1, 0), (51, 2, 0), (51, 3, 0), (51, 4, 0), (51, 5, 0), (51, 5, 32), (51, 6, 0), (51, 7, 0), (27, 0, 0), (27, 1, 0), (27, 5, 0), (27, 5, 32), (59, 0, 0), (59, 0, 32), (59, 1, 0), (59, 5, 0), (59, 5, 32), (15, 0, 0), (15, 1, 0), (115, 0, 115), (115, 0, 1048691), (51, 0, 1), (51, 1, 1), (51, 2, 1), (51, 3, 1), (51, 4, 1), (51, 5, 1), (51, 6, 1), (51, 7, 1), (59, 0, 1), (59, 4, 1), (59, 5, 1), (59, 6, 1), (59, 7, 1), (47, 2, 8), (47, 2, 12), (47, 2, 4), (47, 2, 0), (47, 2, 16), (47, 2, 48), (47, 2, 32), (47, 2, 64), (47, 2, 80), (47, 2, 96), (47, 2, 112), (47, 3, 8), (47, 3, 12), (47, 3, 4), (47, 3, 0), (47, 3, 16), (47, 3, 48), (47, 3, 32), (47, 3, 64), (47, 3, 80), (47, 3, 96), (47, 3, 112), (115, 1, 0), (115, 2, 0), (115, 3, 0), (115, 5, 0), (115, 6, 0), (115, 7, 0), (115, 0, 807403635), (115, 0, 270532723), (115, 0, 273678451), (115, 0, 9)]
def codeN (i : Nat) : Nat × Nat × Nat := codeL.getD i (0, 0, 0)
def maskF : Nat → Nat
  | 5 | 6 => 127
  | 2 | 3 | 4 | 9 | 10 => 28799
  | 1 | 8 => 4261441663
  | 7 => 4227887231
  | 11 => 4160778367
  | 12 => 4193284223
  | 13 => 4294967295
  | 14 => 4261445631
  | _ => 0
/-- The bits of an op that are fixed; what they are. -/
def maskN (i : Nat) : Nat := (rowsL.getD i ⟨0, [], 0, 0⟩).mask
def isN (i : Nat) : Nat := (rowsL.getD i ⟨0, [], 0, 0⟩).is
theorem fixed_eq : ∀ i : Nat, i < 98 → maskF (fmtN ((i + 1 : Nat) : Int)) = maskN i ∧ (if fmtN ((i + 1 : Nat) : Int) = 13 then (codeN i).2.2 else ((codeN i).1 ||| (codeN i).2.1 * 2 ^ 12 % 4294967296) ||| (codeN i).2.2 * 2 ^ 25 % 4294967296) = isN i := by decide +kernel
theorem code_lt : ∀ i : Nat, i < 98 → (codeN i).1 < 2 ^ 32 ∧ (codeN i).2.1 < 2 ^ 32 ∧ (codeN i).2.2 < 2 ^ 32 := by decide +kernel
section
set_option maxHeartbeats 8000000
set_option maxRecDepth 10000
variable {h : Hp} {K : Value → Hp → Prop}
theorem code_plain (i : Nat) (h1 : 0 ≤ i) (h2 : i < 28) (hk : K (.tuple #[wx (codeN i).1, wx (codeN i).2.1, wx (codeN i).2.2]) h) : X Tryz.prog 115 #[.int .i64 ((i + 1 : Nat) : Int)] h K := by
  have : i = 0 ∨ i = 1 ∨ i = 2 ∨ i = 3 ∨ i = 4 ∨ i = 5 ∨ i = 6 ∨ i = 7 ∨ i = 8 ∨ i = 9 ∨ i = 10 ∨ i = 11 ∨ i = 12 ∨ i = 13 ∨ i = 14 ∨ i = 15 ∨ i = 16 ∨ i = 17 ∨ i = 18 ∨ i = 19 ∨ i = 20 ∨ i = 21 ∨ i = 22 ∨ i = 23 ∨ i = 24 ∨ i = 25 ∨ i = 26 ∨ i = 27 := by omega
  rcases this with rfl | rfl | rfl | rfl | rfl | rfl | rfl | rfl | rfl | rfl | rfl | rfl | rfl | rfl | rfl | rfl | rfl | rfl | rfl | rfl | rfl | rfl | rfl | rfl | rfl | rfl | rfl | rfl <;>
  · refine fnv (args := _) mixed [] [] [] Tryz.func115 rfl (by kernel_rfl) ?_
    conv => whnf
    refine fnv (args := _) mixed [] [] [] Tryz.func147 rfl (by kernel_rfl) ?_
    conv => whnf
    exact hk
theorem code_reg (i : Nat) (h1 : 28 ≤ i) (h2 : i < 56) (hk : K (.tuple #[wx (codeN i).1, wx (codeN i).2.1, wx (codeN i).2.2]) h) : X Tryz.prog 115 #[.int .i64 ((i + 1 : Nat) : Int)] h K := by
  have : i = 28 ∨ i = 29 ∨ i = 30 ∨ i = 31 ∨ i = 32 ∨ i = 33 ∨ i = 34 ∨ i = 35 ∨ i = 36 ∨ i = 37 ∨ i = 38 ∨ i = 39 ∨ i = 40 ∨ i = 41 ∨ i = 42 ∨ i = 43 ∨ i = 44 ∨ i = 45 ∨ i = 46 ∨ i = 47 ∨ i = 48 ∨ i = 49 ∨ i = 50 ∨ i = 51 ∨ i = 52 ∨ i = 53 ∨ i = 54 ∨ i = 55 := by omega
  rcases this with rfl | rfl | rfl | rfl | rfl | rfl | rfl | rfl | rfl | rfl | rfl | rfl | rfl | rfl | rfl | rfl | rfl | rfl | rfl | rfl | rfl | rfl | rfl | rfl | rfl | rfl | rfl | rfl <;>
  · refine fnv (args := _) mixed [] [] [] Tryz.func115 rfl (by kernel_rfl) ?_
    conv => whnf
    refine fnv (args := _) mixed [] [] [] Tryz.func148 rfl (by kernel_rfl) ?_
    conv => whnf
    exact hk
theorem code_more (i : Nat) (h1 : 56 ≤ i) (h2 : i < 84) (hk : K (.tuple #[wx (codeN i).1, wx (codeN i).2.1, wx (codeN i).2.2]) h) : X Tryz.prog 115 #[.int .i64 ((i + 1 : Nat) : Int)] h K := by
  have : i = 56 ∨ i = 57 ∨ i = 58 ∨ i = 59 ∨ i = 60 ∨ i = 61 ∨ i = 62 ∨ i = 63 ∨ i = 64 ∨ i = 65 ∨ i = 66 ∨ i = 67 ∨ i = 68 ∨ i = 69 ∨ i = 70 ∨ i = 71 ∨ i = 72 ∨ i = 73 ∨ i = 74 ∨ i = 75 ∨ i = 76 ∨ i = 77 ∨ i = 78 ∨ i = 79 ∨ i = 80 ∨ i = 81 ∨ i = 82 ∨ i = 83 := by omega
  rcases this with rfl | rfl | rfl | rfl | rfl | rfl | rfl | rfl | rfl | rfl | rfl | rfl | rfl | rfl | rfl | rfl | rfl | rfl | rfl | rfl | rfl | rfl | rfl | rfl | rfl | rfl | rfl | rfl <;>
  · refine fnv (args := _) mixed [] [] [] Tryz.func115 rfl (by kernel_rfl) ?_
    conv => whnf
    refine fnv (args := _) mixed [] [] [] Tryz.func149 rfl (by kernel_rfl) ?_
    conv => whnf
    exact hk
theorem code_last (i : Nat) (h1 : 84 ≤ i) (h2 : i < 98) (hk : K (.tuple #[wx (codeN i).1, wx (codeN i).2.1, wx (codeN i).2.2]) h) : X Tryz.prog 115 #[.int .i64 ((i + 1 : Nat) : Int)] h K := by
  have : i = 84 ∨ i = 85 ∨ i = 86 ∨ i = 87 ∨ i = 88 ∨ i = 89 ∨ i = 90 ∨ i = 91 ∨ i = 92 ∨ i = 93 ∨ i = 94 ∨ i = 95 ∨ i = 96 ∨ i = 97 := by omega
  rcases this with rfl | rfl | rfl | rfl | rfl | rfl | rfl | rfl | rfl | rfl | rfl | rfl | rfl | rfl <;>
  · refine fnv (args := _) mixed [] [] [] Tryz.func115 rfl (by kernel_rfl) ?_
    conv => whnf
    refine fnv (args := _) mixed [] [] [] Tryz.func150 rfl (by kernel_rfl) ?_
    conv => whnf
    exact hk
theorem code_x (i : Nat) (hi : i < 98) (hk : K (.tuple #[wx (codeN i).1, wx (codeN i).2.1, wx (codeN i).2.2]) h) : X Tryz.prog 115 #[.int .i64 ((i + 1 : Nat) : Int)] h K := by
  rcases Nat.lt_or_ge i 28 with h28 | h28
  · exact code_plain i (by omega) h28 hk
  rcases Nat.lt_or_ge i 56 with h56 | h56
  · exact code_reg i (by omega) h56 hk
  rcases Nat.lt_or_ge i 84 with h84 | h84
  · exact code_more i (by omega) h84 hk
  exact code_last i (by omega) hi hk
theorem mask0_x (hk : K (wx (maskF 0)) h) : X Tryz.prog 116 #[.int .i64 0] h K := by
  refine fnv (args := _) mixed [] [] [] Tryz.func116 rfl (by kernel_rfl) ?_; conv => whnf
  exact hk
theorem mask1_x (hk : K (wx (maskF 1)) h) : X Tryz.prog 116 #[.int .i64 1] h K := by
  refine fnv (args := _) mixed [] [] [] Tryz.func116 rfl (by kernel_rfl) ?_; conv => whnf
  exact hk
theorem mask2_x (hk : K (wx (maskF 2)) h) : X Tryz.prog 116 #[.int .i64 2] h K := by
  refine fnv (args := _) mixed [] [] [] Tryz.func116 rfl (by kernel_rfl) ?_; conv => whnf
  exact hk
theorem mask3_x (hk : K (wx (maskF 3)) h) : X Tryz.prog 116 #[.int .i64 3] h K := by
  refine fnv (args := _) mixed [] [] [] Tryz.func116 rfl (by kernel_rfl) ?_; conv => whnf
  exact hk
theorem mask4_x (hk : K (wx (maskF 4)) h) : X Tryz.prog 116 #[.int .i64 4] h K := by
  refine fnv (args := _) mixed [] [] [] Tryz.func116 rfl (by kernel_rfl) ?_; conv => whnf
  exact hk
theorem mask5_x (hk : K (wx (maskF 5)) h) : X Tryz.prog 116 #[.int .i64 5] h K := by
  refine fnv (args := _) mixed [] [] [] Tryz.func116 rfl (by kernel_rfl) ?_; conv => whnf
  exact hk
theorem mask6_x (hk : K (wx (maskF 6)) h) : X Tryz.prog 116 #[.int .i64 6] h K := by
  refine fnv (args := _) mixed [] [] [] Tryz.func116 rfl (by kernel_rfl) ?_; conv => whnf
  exact hk
theorem mask7_x (hk : K (wx (maskF 7)) h) : X Tryz.prog 116 #[.int .i64 7] h K := by
  refine fnv (args := _) mixed [] [] [] Tryz.func116 rfl (by kernel_rfl) ?_; conv => whnf
  exact hk
theorem mask8_x (hk : K (wx (maskF 8)) h) : X Tryz.prog 116 #[.int .i64 8] h K := by
  refine fnv (args := _) mixed [] [] [] Tryz.func116 rfl (by kernel_rfl) ?_; conv => whnf
  exact hk
theorem mask9_x (hk : K (wx (maskF 9)) h) : X Tryz.prog 116 #[.int .i64 9] h K := by
  refine fnv (args := _) mixed [] [] [] Tryz.func116 rfl (by kernel_rfl) ?_; conv => whnf
  exact hk
theorem mask10_x (hk : K (wx (maskF 10)) h) : X Tryz.prog 116 #[.int .i64 10] h K := by
  refine fnv (args := _) mixed [] [] [] Tryz.func116 rfl (by kernel_rfl) ?_; conv => whnf
  exact hk
theorem mask11_x (hk : K (wx (maskF 11)) h) : X Tryz.prog 116 #[.int .i64 11] h K := by
  refine fnv (args := _) mixed [] [] [] Tryz.func116 rfl (by kernel_rfl) ?_; conv => whnf
  exact hk
theorem mask12_x (hk : K (wx (maskF 12)) h) : X Tryz.prog 116 #[.int .i64 12] h K := by
  refine fnv (args := _) mixed [] [] [] Tryz.func116 rfl (by kernel_rfl) ?_; conv => whnf
  exact hk
theorem mask13_x (hk : K (wx (maskF 13)) h) : X Tryz.prog 116 #[.int .i64 13] h K := by
  refine fnv (args := _) mixed [] [] [] Tryz.func116 rfl (by kernel_rfl) ?_; conv => whnf
  exact hk
theorem mask14_x (hk : K (wx (maskF 14)) h) : X Tryz.prog 116 #[.int .i64 14] h K := by
  refine fnv (args := _) mixed [] [] [] Tryz.func116 rfl (by kernel_rfl) ?_; conv => whnf
  exact hk
theorem mask_x (f : Nat) (hf : f < 15) (hk : K (wx (maskF f)) h) : X Tryz.prog 116 #[.int .i64 f] h K := by
  match f, hf, hk with
  | 0, _, hk => exact mask0_x hk
  | 1, _, hk => exact mask1_x hk
  | 2, _, hk => exact mask2_x hk
  | 3, _, hk => exact mask3_x hk
  | 4, _, hk => exact mask4_x hk
  | 5, _, hk => exact mask5_x hk
  | 6, _, hk => exact mask6_x hk
  | 7, _, hk => exact mask7_x hk
  | 8, _, hk => exact mask8_x hk
  | 9, _, hk => exact mask9_x hk
  | 10, _, hk => exact mask10_x hk
  | 11, _, hk => exact mask11_x hk
  | 12, _, hk => exact mask12_x hk
  | 13, _, hk => exact mask13_x hk
  | 14, _, hk => exact mask14_x hk
  | f + 15, hf, _ => exact absurd hf (by omega)
theorem fixed_x (i : Nat) (hi : i < 98) (hk : K (.tuple #[wx (maskN i), wx (isN i)]) h) : X Tryz.prog 84 #[.int .i64 ((i + 1 : Nat) : Int)] h K := by
  obtain ⟨e1, e2⟩ := fixed_eq i hi
  obtain ⟨l1, l2, l3⟩ := code_lt i hi
  rw [← e1, ← e2] at hk
  have hl := fmtN_lt ((i + 1 : Nat) : Int)
  refine fnv (args := _) mixed [] [] [] Tryz.func84 rfl (by kernel_rfl) ?_; conv => whnf
  refine code_x i hi ?_
  conv => whnf
  refine fmt_x _ ?_
  generalize fmtN ((i + 1 : Nat) : Int) = f at hk hl ⊢
  generalize codeN i = t at hk l1 l2 l3 ⊢
  conv => whnf
  refine bsel_intro (fun q1 => ?_) (fun q1 => ?_) <;> try simp only [bsL] at q1
  · rw [if_pos (by omega)] at hk
    conv => whnf
    refine mask_x f hl ?_
    conv => whnf
    exact hk
  · rw [if_neg (by omega)] at hk
    conv => whnf
    refine mask_x f hl ?_
    conv => whnf
    refine ov_by (shl32 t.2.1 12 (by decide)) ?_
    conv => whnf
    refine val_by (or32 l1 (Nat.mod_lt _ (by decide))) ?_; conv => whnf
    refine ov_by (shl32 t.2.2 25 (by decide)) ?_
    conv => whnf
    refine val_by (or32 (Nat.or_lt_two_pow l1 (Nat.mod_lt _ (by decide))) (Nat.mod_lt _ (by decide))) ?_; conv => whnf
    exact hk
end
end Go.Proofs.YtlobclgbbhoeiaaGreatDoor
/-! Instructions as words: numbers laid and read, the program's (printed by a program). -/
namespace Go.Proofs.YtlobclgbbhoeiaaGreatDoor
set_option linter.unusedSimpArgs false
set_option linter.unusedVariables false
open Go Go.Mid Go.RowKit Go.Bits
attribute [local irreducible] mid
theorem piece_lt {u : Nat} {p : Piece} (h : p.2.1 + p.2.2 ≤ 32) : pieceN u p < 2 ^ 32 := by
  have := orP_lt u [p] (fun q hq => by rw [List.mem_singleton.1 hq]; exact h)
  simpa [orP] using this
theorem u64N_lt64 (n : Int) : u64N n < 2 ^ 64 := by unfold u64N; omega
/-- Which bit of the word stands at a place of what is put together. -/
def gmap : List (Nat × Nat) → Nat → List Nat
  | [], _ => []
  | p :: l, q => if (l.map (·.2)).sum ≤ q then [p.1 + (q - (l.map (·.2)).sum)] else gmap l q
theorem gmap_cons (p : Nat × Nat) (l : List (Nat × Nat)) (q : Nat) : gmap (p :: l) q = if (l.map (·.2)).sum ≤ q then [p.1 + (q - (l.map (·.2)).sum)] else gmap l q := rfl
theorem or_shl (a b k : Nat) : (a ||| b) * 2 ^ k = a * 2 ^ k ||| b * 2 ^ k := by
  rw [← Nat.shiftLeft_eq, ← Nat.shiftLeft_eq, ← Nat.shiftLeft_eq, Nat.shiftLeft_or_distrib]
theorem gath_bits (w : Nat) : ∀ (l : List (Nat × Nat)) (out n : Nat), out < 2 ^ n → n + (l.map (·.2)).sum ≤ 64 → gath w l out < 2 ^ (n + (l.map (·.2)).sum) ∧ ∀ q, bitN (gath w l out) q = if (l.map (·.2)).sum ≤ q then bitN out (q - (l.map (·.2)).sum) else mx w (gmap l q)
  | [], out, n, ho, _ => ⟨by simpa [gath] using ho, fun q => by simp [gath]⟩
  | p :: l, out, n, ho, hn => by
    simp only [List.map_cons, List.sum_cons] at hn ⊢
    have h1 : out * 2 ^ p.2 < 2 ^ (n + p.2) := by rw [Nat.pow_add]; exact Nat.mul_lt_mul_of_pos_right ho (Nat.pow_pos (by decide))
    have h2 : out * 2 ^ p.2 % 18446744073709551616 = out * 2 ^ p.2 := Nat.mod_eq_of_lt (Nat.lt_of_lt_of_le h1 (Nat.pow_le_pow_right (by decide) (by omega) : 2 ^ (n + p.2) ≤ 2 ^ 64))
    have h3 : w / 2 ^ p.1 % 2 ^ p.2 < 2 ^ (n + p.2) := Nat.lt_of_lt_of_le (Nat.mod_lt _ (Nat.pow_pos (by decide))) (Nat.pow_le_pow_right (by decide) (by omega))
    obtain ⟨i1, i2⟩ := gath_bits w l ((out * 2 ^ p.2 % 18446744073709551616) ||| (w / 2 ^ p.1 % 2 ^ p.2)) (n + p.2) (by rw [h2]; exact Nat.or_lt_two_pow h1 h3) (by omega)
    refine ⟨by rw [show n + (p.2 + (l.map (·.2)).sum) = n + p.2 + (l.map (·.2)).sum by omega]; exact i1, fun q => ?_⟩
    show bitN (gath w l _) q = _
    rw [i2 q, h2, gmap_cons]
    by_cases hq : (l.map (·.2)).sum ≤ q
    · rw [if_pos hq, bit_or, bit_mul, bit_mod, bit_div]
      by_cases hq2 : p.2 + (l.map (·.2)).sum ≤ q
      · rw [if_pos hq2, if_pos (by omega), if_neg (by omega), show q - (l.map (·.2)).sum - p.2 = q - (p.2 + (l.map (·.2)).sum) by omega]
        simp
      · rw [if_neg hq2, if_neg (by omega), if_pos (by omega), if_pos hq]
        simp [mx]
    · rw [if_neg hq, if_neg (by omega), if_neg hq]
theorem GATH3 (w : Nat) : gath w [(25, 7), (7, 5)] 0 = orP w (immL 3) := by
  obtain ⟨h1, h2⟩ := gath_bits w [(25, 7), (7, 5)] 0 0 (by decide) (by decide)
  have h2 : ∀ q, bitN (gath w [(25, 7), (7, 5)] 0) q = if 12 ≤ q then bitN 0 (q - 12) else mx w (gmap [(25, 7), (7, 5)] q) := h2
  refine eq_bits (n := 32) (Nat.lt_of_lt_of_le h1 (by decide)) (orP_lt w (immL 3) (by decide)) fun q hq => ?_
  rw [h2 q, orP_bit]
  have key : ∀ q : Nat, q < 32 → (if 12 ≤ q then [] else gmap [(25, 7), (7, 5)] q) = (immL 3).filterMap (covers q) := by decide
  have := key q hq
  by_cases ht : 12 ≤ q
  · rw [if_pos ht] at this; rw [if_pos ht, ← this]; simp [mx, bitN]
  · rw [if_neg ht] at this; rw [if_neg ht, ← this]
theorem ev4 (w : Nat) : orP w (immL 4) % 2 = 0 := by
  have := orP_bit w (immL 4) 0
  rw [show (immL 4).filterMap (covers 0) = [] by decide] at this
  unfold bitN at this
  simpa [mx] using this
theorem GATH4 (w : Nat) : gath w [(31, 1), (7, 1), (25, 6), (8, 4)] 0 = orP w (immL 4) / 2 := by
  obtain ⟨h1, h2⟩ := gath_bits w [(31, 1), (7, 1), (25, 6), (8, 4)] 0 0 (by decide) (by decide)
  have h2 : ∀ q, bitN (gath w [(31, 1), (7, 1), (25, 6), (8, 4)] 0) q = if 12 ≤ q then bitN 0 (q - 12) else mx w (gmap [(31, 1), (7, 1), (25, 6), (8, 4)] q) := h2
  refine eq_bits (n := 32) (Nat.lt_of_lt_of_le h1 (by decide)) (Nat.lt_of_le_of_lt (Nat.div_le_self _ _) (orP_lt w (immL 4) (by decide))) fun q hq => ?_
  rw [h2 q, show orP w (immL 4) / 2 = orP w (immL 4) / 2 ^ 1 from rfl, bit_div, orP_bit]
  have key : ∀ q : Nat, q < 32 → (if 12 ≤ q then [] else gmap [(31, 1), (7, 1), (25, 6), (8, 4)] q) = (immL 4).filterMap (covers (1 + q)) := by decide
  have := key q hq
  by_cases ht : 12 ≤ q
  · rw [if_pos ht] at this; rw [if_pos ht, ← this]; simp [mx, bitN]
  · rw [if_neg ht] at this; rw [if_neg ht, ← this]
theorem ev6 (w : Nat) : orP w (immL 6) % 2 = 0 := by
  have := orP_bit w (immL 6) 0
  rw [show (immL 6).filterMap (covers 0) = [] by decide] at this
  unfold bitN at this
  simpa [mx] using this
theorem GATH6 (w : Nat) : gath w [(31, 1), (12, 8), (20, 1), (21, 10)] 0 = orP w (immL 6) / 2 := by
  obtain ⟨h1, h2⟩ := gath_bits w [(31, 1), (12, 8), (20, 1), (21, 10)] 0 0 (by decide) (by decide)
  have h2 : ∀ q, bitN (gath w [(31, 1), (12, 8), (20, 1), (21, 10)] 0) q = if 20 ≤ q then bitN 0 (q - 20) else mx w (gmap [(31, 1), (12, 8), (20, 1), (21, 10)] q) := h2
  refine eq_bits (n := 32) (Nat.lt_of_lt_of_le h1 (by decide)) (Nat.lt_of_le_of_lt (Nat.div_le_self _ _) (orP_lt w (immL 6) (by decide))) fun q hq => ?_
  rw [h2 q, show orP w (immL 6) / 2 = orP w (immL 6) / 2 ^ 1 from rfl, bit_div, orP_bit]
  have key : ∀ q : Nat, q < 32 → (if 20 ≤ q then [] else gmap [(31, 1), (12, 8), (20, 1), (21, 10)] q) = (immL 6).filterMap (covers (1 + q)) := by decide
  have := key q hq
  by_cases ht : 20 ≤ q
  · rw [if_pos ht] at this; rw [if_pos ht, ← this]; simp [mx, bitN]
  · rw [if_neg ht] at this; rw [if_neg ht, ← this]
section
set_option maxHeartbeats 8000000
set_option maxRecDepth 10000
variable {h : Hp} {K : Value → Hp → Prop}
theorem agg64 : isAggT Tryz.prog 41 = some false := by kernel_rfl
theorem siz64 : sizeT Tryz.prog 41 = some 1 := by kernel_rfl
theorem laycut_x (bn u : Nat) (hb : h bn = some (rowO 41 [ux u])) (hu : u < 2 ^ 64) (a s t : Nat) (ha : a ≤ 63) (hs : 1 ≤ s) (ht : s + t ≤ 32) (hk : K (wx (pieceN u (a, s, t))) h) : X Tryz.prog 117 #[.int .i64 a, .int .i64 s, .int .i64 t, .pointer (some ⟨bn, 0, none⟩)] h K := by
  have hlt : u / 2 ^ a % 2 ^ s * 2 ^ t < 2 ^ 32 := piece_lt (u := u) (p := (a, s, t)) ht
  have hk : K (wx (u / 2 ^ a % 2 ^ s * 2 ^ t)) h := hk
  refine fnv (args := _) mixed [] [] [] Tryz.func117 rfl (by kernel_rfl) ?_; conv => whnf
  refine ⟨_, loadC0 agg64 hb rfl, ?_⟩; conv => whnf
  refine bcut_x u a s hu ha (by omega) ?_
  conv => whnf
  refine ov_u64 (by omega) ?_; conv => whnf
  refine ov_by (shl64 _ t (by omega)) ?_
  rw [Nat.mod_eq_of_lt (Nat.lt_trans hlt (by decide))]
  conv => whnf
  refine ov_by (toU32 _) ?_
  rw [Nat.mod_eq_of_lt hlt]
  conv => whnf
  exact hk
theorem field_x (w a s : Nat) (hw : w < 2 ^ 32) (ha : a ≤ 63) (hs : 1 ≤ s ∧ s ≤ 32) (hk : K (.int .i64 (w / 2 ^ a % 2 ^ s : Nat)) h) : X Tryz.prog 87 #[wx w, .int .i64 a, .int .i64 s] h K := by
  have h1 : w / 2 ^ a % 2 ^ s ≤ w := Nat.le_trans (Nat.mod_le _ _) (Nat.div_le_self _ _)
  generalize hv : w / 2 ^ a % 2 ^ s = v at h1 hk
  refine fnv (args := _) mixed [] [] [] Tryz.func87 rfl (by kernel_rfl) ?_; conv => whnf
  refine ov_u64 (by omega) ?_; conv => whnf
  refine bcut_x w a s (Nat.lt_trans hw (by decide)) ha (by omega) ?_
  rw [hv]
  conv => whnf
  (first | refine ov_c (by simp only [loK, hiK]; omega) ?_ | refine ov_c (by decide) ?_); conv => whnf
  exact hk
theorem lay0_x (n : Int) (hk : K (wx (layP 0 (u64N n))) h) : X Tryz.prog 85 #[.int .i64 0, .int .i64 n] h K := by
  refine X.forget ?_
  refine fnv (args := _) mixed [] [] [] Tryz.func85 rfl (by kernel_rfl) ?_; conv => whnf
  refine ov_by (wrapU64N n) ?_
  conv => whnf
  refine new_intro (o := rowO 41 [ux 0]) (fun bn h1 n_bn le_bn at_bn ot_bn => ?_); conv => whnf
  refine wr_intro (by exact storeC0 siz64 at_bn (show (0 : Nat) < 1 by decide) rfl rfl) (fun h2 at_h2 ot_h2 => ?_)
  try (conv => whnf)
  conv => whnf
  exact ⟨h, fun c o e => by rw [ot_h2 c (Hp.ne n_bn e)]; exact le_bn _ _ e, hk⟩
theorem lay1_x (n : Int) (hk : K (wx (layP 1 (u64N n))) h) : X Tryz.prog 85 #[.int .i64 1, .int .i64 n] h K := by
  refine X.forget ?_
  refine fnv (args := _) mixed [] [] [] Tryz.func85 rfl (by kernel_rfl) ?_; conv => whnf
  refine ov_by (wrapU64N n) ?_
  conv => whnf
  refine new_intro (o := rowO 41 [ux 0]) (fun bn h1 n_bn le_bn at_bn ot_bn => ?_); conv => whnf
  refine wr_intro (by exact storeC0 siz64 at_bn (show (0 : Nat) < 1 by decide) rfl rfl) (fun h2 at_h2 ot_h2 => ?_)
  try (conv => whnf)
  conv => whnf
  exact ⟨h, fun c o e => by rw [ot_h2 c (Hp.ne n_bn e)]; exact le_bn _ _ e, hk⟩
theorem lay2_x (n : Int) (hk : K (wx (layP 2 (u64N n))) h) : X Tryz.prog 85 #[.int .i64 2, .int .i64 n] h K := by
  refine X.forget ?_
  have hu := u64N_lt64 n
  have hP : layP 2 (u64N n) = pieceN (u64N n) (0, 12, 20) := by
    unfold layP layL; simp only [orP, Nat.or_zero, Nat.or_assoc]
  rw [hP] at hk
  refine fnv (args := _) mixed [] [] [] Tryz.func85 rfl (by kernel_rfl) ?_; conv => whnf
  refine ov_by (wrapU64N n) ?_
  conv => whnf
  refine new_intro (o := rowO 41 [ux 0]) (fun bn h1 n_bn le_bn at_bn ot_bn => ?_); conv => whnf
  refine wr_intro (by exact storeC0 siz64 at_bn (show (0 : Nat) < 1 by decide) rfl rfl) (fun h2 at_h2 ot_h2 => ?_)
  try (conv => whnf)
  have hle : h.le h2 := fun c o e => by rw [ot_h2 c (Hp.ne n_bn e)]; exact le_bn _ _ e
  have hb2 : h2 bn = some (rowO 41 [ux (u64N n)]) := at_h2
  conv => whnf
  refine laycut_x bn _ hb2 hu 0 12 20 (by decide) (by decide) (by decide) ?_
  conv => whnf
  exact ⟨h, hle, hk⟩
theorem lay3_x (n : Int) (hk : K (wx (layP 3 (u64N n))) h) : X Tryz.prog 85 #[.int .i64 3, .int .i64 n] h K := by
  refine X.forget ?_
  have hu := u64N_lt64 n
  have hP : layP 3 (u64N n) = pieceN (u64N n) (5, 7, 25) ||| pieceN (u64N n) (0, 5, 7) := by
    unfold layP layL; simp only [orP, Nat.or_zero, Nat.or_assoc]
  rw [hP] at hk
  refine fnv (args := _) mixed [] [] [] Tryz.func85 rfl (by kernel_rfl) ?_; conv => whnf
  refine ov_by (wrapU64N n) ?_
  conv => whnf
  refine new_intro (o := rowO 41 [ux 0]) (fun bn h1 n_bn le_bn at_bn ot_bn => ?_); conv => whnf
  refine wr_intro (by exact storeC0 siz64 at_bn (show (0 : Nat) < 1 by decide) rfl rfl) (fun h2 at_h2 ot_h2 => ?_)
  try (conv => whnf)
  have hle : h.le h2 := fun c o e => by rw [ot_h2 c (Hp.ne n_bn e)]; exact le_bn _ _ e
  have hb2 : h2 bn = some (rowO 41 [ux (u64N n)]) := at_h2
  conv => whnf
  refine laycut_x bn _ hb2 hu 5 7 25 (by decide) (by decide) (by decide) ?_
  conv => whnf
  refine laycut_x bn _ hb2 hu 0 5 7 (by decide) (by decide) (by decide) ?_
  conv => whnf
  refine val_by (or32 (piece_lt (by decide)) (piece_lt (by decide))) ?_; conv => whnf
  exact ⟨h, hle, hk⟩
theorem lay4_x (n : Int) (hk : K (wx (layP 4 (u64N n))) h) : X Tryz.prog 85 #[.int .i64 4, .int .i64 n] h K := by
  refine X.forget ?_
  have hu := u64N_lt64 n
  have hP : layP 4 (u64N n) = pieceN (u64N n) (12, 1, 31) ||| pieceN (u64N n) (5, 6, 25) ||| pieceN (u64N n) (1, 4, 8) ||| pieceN (u64N n) (11, 1, 7) := by
    unfold layP layL; simp only [orP, Nat.or_zero, Nat.or_assoc]
  rw [hP] at hk
  refine fnv (args := _) mixed [] [] [] Tryz.func85 rfl (by kernel_rfl) ?_; conv => whnf
  refine ov_by (wrapU64N n) ?_
  conv => whnf
  refine new_intro (o := rowO 41 [ux 0]) (fun bn h1 n_bn le_bn at_bn ot_bn => ?_); conv => whnf
  refine wr_intro (by exact storeC0 siz64 at_bn (show (0 : Nat) < 1 by decide) rfl rfl) (fun h2 at_h2 ot_h2 => ?_)
  try (conv => whnf)
  have hle : h.le h2 := fun c o e => by rw [ot_h2 c (Hp.ne n_bn e)]; exact le_bn _ _ e
  have hb2 : h2 bn = some (rowO 41 [ux (u64N n)]) := at_h2
  conv => whnf
  refine laycut_x bn _ hb2 hu 12 1 31 (by decide) (by decide) (by decide) ?_
  conv => whnf
  refine laycut_x bn _ hb2 hu 5 6 25 (by decide) (by decide) (by decide) ?_
  conv => whnf
  refine val_by (or32 (piece_lt (by decide)) (piece_lt (by decide))) ?_; conv => whnf
  refine laycut_x bn _ hb2 hu 1 4 8 (by decide) (by decide) (by decide) ?_
  conv => whnf
  refine val_by (or32 (Nat.or_lt_two_pow (piece_lt (by decide)) (piece_lt (by decide))) (piece_lt (by decide))) ?_; conv => whnf
  refine laycut_x bn _ hb2 hu 11 1 7 (by decide) (by decide) (by decide) ?_
  conv => whnf
  refine val_by (or32 (Nat.or_lt_two_pow (Nat.or_lt_two_pow (piece_lt (by decide)) (piece_lt (by decide))) (piece_lt (by decide))) (piece_lt (by decide))) ?_; conv => whnf
  exact ⟨h, hle, hk⟩
theorem lay5_x (n : Int) (hk : K (wx (layP 5 (u64N n))) h) : X Tryz.prog 85 #[.int .i64 5, .int .i64 n] h K := by
  refine X.forget ?_
  have hu := u64N_lt64 n
  have hP : layP 5 (u64N n) = pieceN (u64N n) (12, 20, 12) := by
    unfold layP layL; simp only [orP, Nat.or_zero, Nat.or_assoc]
  rw [hP] at hk
  refine fnv (args := _) mixed [] [] [] Tryz.func85 rfl (by kernel_rfl) ?_; conv => whnf
  refine ov_by (wrapU64N n) ?_
  conv => whnf
  refine new_intro (o := rowO 41 [ux 0]) (fun bn h1 n_bn le_bn at_bn ot_bn => ?_); conv => whnf
  refine wr_intro (by exact storeC0 siz64 at_bn (show (0 : Nat) < 1 by decide) rfl rfl) (fun h2 at_h2 ot_h2 => ?_)
  try (conv => whnf)
  have hle : h.le h2 := fun c o e => by rw [ot_h2 c (Hp.ne n_bn e)]; exact le_bn _ _ e
  have hb2 : h2 bn = some (rowO 41 [ux (u64N n)]) := at_h2
  conv => whnf
  refine laycut_x bn _ hb2 hu 12 20 12 (by decide) (by decide) (by decide) ?_
  conv => whnf
  exact ⟨h, hle, hk⟩
theorem lay6_x (n : Int) (hk : K (wx (layP 6 (u64N n))) h) : X Tryz.prog 85 #[.int .i64 6, .int .i64 n] h K := by
  refine X.forget ?_
  have hu := u64N_lt64 n
  have hP : layP 6 (u64N n) = pieceN (u64N n) (20, 1, 31) ||| pieceN (u64N n) (1, 10, 21) ||| pieceN (u64N n) (11, 1, 20) ||| pieceN (u64N n) (12, 8, 12) := by
    unfold layP layL; simp only [orP, Nat.or_zero, Nat.or_assoc]
  rw [hP] at hk
  refine fnv (args := _) mixed [] [] [] Tryz.func85 rfl (by kernel_rfl) ?_; conv => whnf
  refine ov_by (wrapU64N n) ?_
  conv => whnf
  refine new_intro (o := rowO 41 [ux 0]) (fun bn h1 n_bn le_bn at_bn ot_bn => ?_); conv => whnf
  refine wr_intro (by exact storeC0 siz64 at_bn (show (0 : Nat) < 1 by decide) rfl rfl) (fun h2 at_h2 ot_h2 => ?_)
  try (conv => whnf)
  have hle : h.le h2 := fun c o e => by rw [ot_h2 c (Hp.ne n_bn e)]; exact le_bn _ _ e
  have hb2 : h2 bn = some (rowO 41 [ux (u64N n)]) := at_h2
  conv => whnf
  refine laycut_x bn _ hb2 hu 20 1 31 (by decide) (by decide) (by decide) ?_
  conv => whnf
  refine laycut_x bn _ hb2 hu 1 10 21 (by decide) (by decide) (by decide) ?_
  conv => whnf
  refine val_by (or32 (piece_lt (by decide)) (piece_lt (by decide))) ?_; conv => whnf
  refine laycut_x bn _ hb2 hu 11 1 20 (by decide) (by decide) (by decide) ?_
  conv => whnf
  refine val_by (or32 (Nat.or_lt_two_pow (piece_lt (by decide)) (piece_lt (by decide))) (piece_lt (by decide))) ?_; conv => whnf
  refine laycut_x bn _ hb2 hu 12 8 12 (by decide) (by decide) (by decide) ?_
  conv => whnf
  refine val_by (or32 (Nat.or_lt_two_pow (Nat.or_lt_two_pow (piece_lt (by decide)) (piece_lt (by decide))) (piece_lt (by decide))) (piece_lt (by decide))) ?_; conv => whnf
  exact ⟨h, hle, hk⟩
theorem lay7_x (n : Int) (hk : K (wx (layP 7 (u64N n))) h) : X Tryz.prog 85 #[.int .i64 7, .int .i64 n] h K := by
  refine X.forget ?_
  have hu := u64N_lt64 n
  have hP : layP 7 (u64N n) = pieceN (u64N n) (0, 6, 20) := by
    unfold layP layL; simp only [orP, Nat.or_zero, Nat.or_assoc]
  rw [hP] at hk
  refine fnv (args := _) mixed [] [] [] Tryz.func85 rfl (by kernel_rfl) ?_; conv => whnf
  refine ov_by (wrapU64N n) ?_
  conv => whnf
  refine new_intro (o := rowO 41 [ux 0]) (fun bn h1 n_bn le_bn at_bn ot_bn => ?_); conv => whnf
  refine wr_intro (by exact storeC0 siz64 at_bn (show (0 : Nat) < 1 by decide) rfl rfl) (fun h2 at_h2 ot_h2 => ?_)
  try (conv => whnf)
  have hle : h.le h2 := fun c o e => by rw [ot_h2 c (Hp.ne n_bn e)]; exact le_bn _ _ e
  have hb2 : h2 bn = some (rowO 41 [ux (u64N n)]) := at_h2
  conv => whnf
  refine laycut_x bn _ hb2 hu 0 6 20 (by decide) (by decide) (by decide) ?_
  conv => whnf
  exact ⟨h, hle, hk⟩
theorem lay8_x (n : Int) (hk : K (wx (layP 8 (u64N n))) h) : X Tryz.prog 85 #[.int .i64 8, .int .i64 n] h K := by
  refine X.forget ?_
  have hu := u64N_lt64 n
  have hP : layP 8 (u64N n) = pieceN (u64N n) (0, 5, 20) := by
    unfold layP layL; simp only [orP, Nat.or_zero, Nat.or_assoc]
  rw [hP] at hk
  refine fnv (args := _) mixed [] [] [] Tryz.func85 rfl (by kernel_rfl) ?_; conv => whnf
  refine ov_by (wrapU64N n) ?_
  conv => whnf
  refine new_intro (o := rowO 41 [ux 0]) (fun bn h1 n_bn le_bn at_bn ot_bn => ?_); conv => whnf
  refine wr_intro (by exact storeC0 siz64 at_bn (show (0 : Nat) < 1 by decide) rfl rfl) (fun h2 at_h2 ot_h2 => ?_)
  try (conv => whnf)
  have hle : h.le h2 := fun c o e => by rw [ot_h2 c (Hp.ne n_bn e)]; exact le_bn _ _ e
  have hb2 : h2 bn = some (rowO 41 [ux (u64N n)]) := at_h2
  conv => whnf
  refine laycut_x bn _ hb2 hu 0 5 20 (by decide) (by decide) (by decide) ?_
  conv => whnf
  exact ⟨h, hle, hk⟩
theorem lay9_x (n : Int) (hk : K (wx (layP 9 (u64N n))) h) : X Tryz.prog 85 #[.int .i64 9, .int .i64 n] h K := by
  refine X.forget ?_
  refine fnv (args := _) mixed [] [] [] Tryz.func85 rfl (by kernel_rfl) ?_; conv => whnf
  refine ov_by (wrapU64N n) ?_
  conv => whnf
  refine new_intro (o := rowO 41 [ux 0]) (fun bn h1 n_bn le_bn at_bn ot_bn => ?_); conv => whnf
  refine wr_intro (by exact storeC0 siz64 at_bn (show (0 : Nat) < 1 by decide) rfl rfl) (fun h2 at_h2 ot_h2 => ?_)
  try (conv => whnf)
  conv => whnf
  exact ⟨h, fun c o e => by rw [ot_h2 c (Hp.ne n_bn e)]; exact le_bn _ _ e, hk⟩
theorem lay10_x (n : Int) (hk : K (wx (layP 10 (u64N n))) h) : X Tryz.prog 85 #[.int .i64 10, .int .i64 n] h K := by
  refine X.forget ?_
  refine fnv (args := _) mixed [] [] [] Tryz.func85 rfl (by kernel_rfl) ?_; conv => whnf
  refine ov_by (wrapU64N n) ?_
  conv => whnf
  refine new_intro (o := rowO 41 [ux 0]) (fun bn h1 n_bn le_bn at_bn ot_bn => ?_); conv => whnf
  refine wr_intro (by exact storeC0 siz64 at_bn (show (0 : Nat) < 1 by decide) rfl rfl) (fun h2 at_h2 ot_h2 => ?_)
  try (conv => whnf)
  conv => whnf
  exact ⟨h, fun c o e => by rw [ot_h2 c (Hp.ne n_bn e)]; exact le_bn _ _ e, hk⟩
theorem lay11_x (n : Int) (hk : K (wx (layP 11 (u64N n))) h) : X Tryz.prog 85 #[.int .i64 11, .int .i64 n] h K := by
  refine X.forget ?_
  refine fnv (args := _) mixed [] [] [] Tryz.func85 rfl (by kernel_rfl) ?_; conv => whnf
  refine ov_by (wrapU64N n) ?_
  conv => whnf
  refine new_intro (o := rowO 41 [ux 0]) (fun bn h1 n_bn le_bn at_bn ot_bn => ?_); conv => whnf
  refine wr_intro (by exact storeC0 siz64 at_bn (show (0 : Nat) < 1 by decide) rfl rfl) (fun h2 at_h2 ot_h2 => ?_)
  try (conv => whnf)
  conv => whnf
  exact ⟨h, fun c o e => by rw [ot_h2 c (Hp.ne n_bn e)]; exact le_bn _ _ e, hk⟩
theorem lay12_x (n : Int) (hk : K (wx (layP 12 (u64N n))) h) : X Tryz.prog 85 #[.int .i64 12, .int .i64 n] h K := by
  refine X.forget ?_
  refine fnv (args := _) mixed [] [] [] Tryz.func85 rfl (by kernel_rfl) ?_; conv => whnf
  refine ov_by (wrapU64N n) ?_
  conv => whnf
  refine new_intro (o := rowO 41 [ux 0]) (fun bn h1 n_bn le_bn at_bn ot_bn => ?_); conv => whnf
  refine wr_intro (by exact storeC0 siz64 at_bn (show (0 : Nat) < 1 by decide) rfl rfl) (fun h2 at_h2 ot_h2 => ?_)
  try (conv => whnf)
  conv => whnf
  exact ⟨h, fun c o e => by rw [ot_h2 c (Hp.ne n_bn e)]; exact le_bn _ _ e, hk⟩
theorem lay13_x (n : Int) (hk : K (wx (layP 13 (u64N n))) h) : X Tryz.prog 85 #[.int .i64 13, .int .i64 n] h K := by
  refine X.forget ?_
  refine fnv (args := _) mixed [] [] [] Tryz.func85 rfl (by kernel_rfl) ?_; conv => whnf
  refine ov_by (wrapU64N n) ?_
  conv => whnf
  refine new_intro (o := rowO 41 [ux 0]) (fun bn h1 n_bn le_bn at_bn ot_bn => ?_); conv => whnf
  refine wr_intro (by exact storeC0 siz64 at_bn (show (0 : Nat) < 1 by decide) rfl rfl) (fun h2 at_h2 ot_h2 => ?_)
  try (conv => whnf)
  conv => whnf
  exact ⟨h, fun c o e => by rw [ot_h2 c (Hp.ne n_bn e)]; exact le_bn _ _ e, hk⟩
theorem lay14_x (n : Int) (hk : K (wx (layP 14 (u64N n))) h) : X Tryz.prog 85 #[.int .i64 14, .int .i64 n] h K := by
  refine X.forget ?_
  refine fnv (args := _) mixed [] [] [] Tryz.func85 rfl (by kernel_rfl) ?_; conv => whnf
  refine ov_by (wrapU64N n) ?_
  conv => whnf
  refine new_intro (o := rowO 41 [ux 0]) (fun bn h1 n_bn le_bn at_bn ot_bn => ?_); conv => whnf
  refine wr_intro (by exact storeC0 siz64 at_bn (show (0 : Nat) < 1 by decide) rfl rfl) (fun h2 at_h2 ot_h2 => ?_)
  try (conv => whnf)
  conv => whnf
  exact ⟨h, fun c o e => by rw [ot_h2 c (Hp.ne n_bn e)]; exact le_bn _ _ e, hk⟩
theorem lay_x (f : Nat) (hf : f < 15) (n : Int) (hk : K (wx (layN f (u64N n))) h) : X Tryz.prog 85 #[.int .i64 f, .int .i64 n] h K := by
  rw [← lay_eq f hf] at hk
  match f, hf, hk with
  | 0, _, hk => exact lay0_x n hk
  | 1, _, hk => exact lay1_x n hk
  | 2, _, hk => exact lay2_x n hk
  | 3, _, hk => exact lay3_x n hk
  | 4, _, hk => exact lay4_x n hk
  | 5, _, hk => exact lay5_x n hk
  | 6, _, hk => exact lay6_x n hk
  | 7, _, hk => exact lay7_x n hk
  | 8, _, hk => exact lay8_x n hk
  | 9, _, hk => exact lay9_x n hk
  | 10, _, hk => exact lay10_x n hk
  | 11, _, hk => exact lay11_x n hk
  | 12, _, hk => exact lay12_x n hk
  | 13, _, hk => exact lay13_x n hk
  | 14, _, hk => exact lay14_x n hk
  | f + 15, hf, _ => exact absurd hf (by omega)
theorem imm0_x (w : Nat) (hw : w < 2 ^ 32) (hk : K (.int .i64 (i64N (immN 0 w))) h) : X Tryz.prog 88 #[.int .i64 0, wx w] h K := by
  have he := imm_eq 0 (by decide) w
  have hw64 : w < 2 ^ 64 := Nat.lt_trans hw (by decide)
  rw [show immN 0 w = ofL (immBits (placesL 0) w) from rfl, ← he] at hk
  refine fnv (args := _) mixed [] [] [] Tryz.func88 rfl (by kernel_rfl) ?_; conv => whnf
  refine ov_u64 (by omega) ?_; conv => whnf
  exact hk
theorem imm1_x (w : Nat) (hw : w < 2 ^ 32) (hk : K (.int .i64 (i64N (immN 1 w))) h) : X Tryz.prog 88 #[.int .i64 1, wx w] h K := by
  have he := imm_eq 1 (by decide) w
  have hw64 : w < 2 ^ 64 := Nat.lt_trans hw (by decide)
  rw [show immN 1 w = ofL (immBits (placesL 1) w) from rfl, ← he] at hk
  refine fnv (args := _) mixed [] [] [] Tryz.func88 rfl (by kernel_rfl) ?_; conv => whnf
  refine ov_u64 (by omega) ?_; conv => whnf
  exact hk
theorem imm2_x (w : Nat) (hw : w < 2 ^ 32) (hk : K (.int .i64 (i64N (immN 2 w))) h) : X Tryz.prog 88 #[.int .i64 2, wx w] h K := by
  have he := imm_eq 2 (by decide) w
  have hw64 : w < 2 ^ 64 := Nat.lt_trans hw (by decide)
  rw [show immN 2 w = signN (ofL (immBits (placesL 2) w)) 12 from rfl, ← he] at hk
  refine fnv (args := _) mixed [] [] [] Tryz.func88 rfl (by kernel_rfl) ?_; conv => whnf
  refine ov_u64 (by omega) ?_; conv => whnf
  refine val_by (shr64 w 20 (by decide)) ?_; conv => whnf
  refine bsign_x (w / 2 ^ 20) 12 (Nat.lt_of_le_of_lt (Nat.div_le_self _ _) hw64) (by decide) ?_
  conv => whnf
  refine ov_by (wrapI64N _ (sign_lt _ _)) ?_
  rw [show orP w (immL 2) = w / 2 ^ 20 % 2 ^ 12 by unfold immL orP orP pieceN; simp] at hk
  conv => whnf
  exact hk
theorem imm3_x (w : Nat) (hw : w < 2 ^ 32) (hk : K (.int .i64 (i64N (immN 3 w))) h) : X Tryz.prog 88 #[.int .i64 3, wx w] h K := by
  refine X.forget ?_
  have he := imm_eq 3 (by decide) w
  have hw64 : w < 2 ^ 64 := Nat.lt_trans hw (by decide)
  rw [show immN 3 w = signN (ofL (immBits (placesL 3) w)) 12 from rfl, ← he] at hk
  refine fnv (args := _) mixed [] [] [] Tryz.func88 rfl (by kernel_rfl) ?_; conv => whnf
  refine ov_u64 (by omega) ?_; conv => whnf
  refine new_intro (o := rowO 163 (([(25, 7), (7, 5)] : List (Nat × Nat)).flatMap partC)) (fun bg h1 n_bg le_bg at_bg ot_bg => ?_); conv => whnf
  refine bgather_x w hw64 [(25, 7), (7, 5)] bg 2 at_bg (by decide) (by decide) ?_
  have hg : gath w [(25, 7), (7, 5)] 0 = orP w (immL 3) := GATH3 w
  rw [hg]
  conv => whnf
  have hlt := orP_lt w (immL 3) (by decide)
  have hl2 : orP w (immL 3) < 2 ^ 12 := by
    rw [he]; exact immBits_lt (placesL 3) w
  refine bsign_x (orP w (immL 3)) 12 (Nat.lt_trans hlt (by decide)) (by decide) ?_
  rw [Nat.mod_eq_of_lt hl2]
  conv => whnf
  refine ov_by (wrapI64N _ (sign_lt _ _)) ?_
  conv => whnf
  exact ⟨h, le_bg, hk⟩
theorem imm4_x (w : Nat) (hw : w < 2 ^ 32) (hk : K (.int .i64 (i64N (immN 4 w))) h) : X Tryz.prog 88 #[.int .i64 4, wx w] h K := by
  refine X.forget ?_
  have he := imm_eq 4 (by decide) w
  have hw64 : w < 2 ^ 64 := Nat.lt_trans hw (by decide)
  rw [show immN 4 w = signN (ofL (immBits (placesL 4) w)) 13 from rfl, ← he] at hk
  refine fnv (args := _) mixed [] [] [] Tryz.func88 rfl (by kernel_rfl) ?_; conv => whnf
  refine ov_u64 (by omega) ?_; conv => whnf
  refine new_intro (o := rowO 163 (([(31, 1), (7, 1), (25, 6), (8, 4)] : List (Nat × Nat)).flatMap partC)) (fun bg h1 n_bg le_bg at_bg ot_bg => ?_); conv => whnf
  refine bgather_x w hw64 [(31, 1), (7, 1), (25, 6), (8, 4)] bg 4 at_bg (by decide) (by decide) ?_
  have hg : gath w [(31, 1), (7, 1), (25, 6), (8, 4)] 0 = orP w (immL 4) / 2 := GATH4 w
  rw [hg]
  conv => whnf
  refine ov_by (shl64 (orP w (immL 4) / 2) 1 (by decide)) ?_
  have hlt := orP_lt w (immL 4) (by decide)
  have hev := ev4 w
  rw [show orP w (immL 4) / 2 * 2 ^ 1 % 18446744073709551616 = orP w (immL 4) by omega]
  conv => whnf
  have hl2 : orP w (immL 4) < 2 ^ 13 := by
    rw [he]; exact immBits_lt (placesL 4) w
  refine bsign_x (orP w (immL 4)) 13 (Nat.lt_trans hlt (by decide)) (by decide) ?_
  rw [Nat.mod_eq_of_lt hl2]
  conv => whnf
  refine ov_by (wrapI64N _ (sign_lt _ _)) ?_
  conv => whnf
  exact ⟨h, le_bg, hk⟩
theorem imm5_x (w : Nat) (hw : w < 2 ^ 32) (hk : K (.int .i64 (i64N (immN 5 w))) h) : X Tryz.prog 88 #[.int .i64 5, wx w] h K := by
  have he := imm_eq 5 (by decide) w
  have hw64 : w < 2 ^ 64 := Nat.lt_trans hw (by decide)
  rw [show immN 5 w = signN (ofL (immBits (placesL 5) w)) 32 from rfl, ← he] at hk
  refine fnv (args := _) mixed [] [] [] Tryz.func88 rfl (by kernel_rfl) ?_; conv => whnf
  refine ov_u64 (by omega) ?_; conv => whnf
  refine val_by (andNot64 hw64 (show 4095 < 2 ^ 64 by decide)) ?_; conv => whnf
  refine bword_x (andN w 4095) (andN_lt _ _) ?_
  conv => whnf
  refine ov_by (wrapI64N _ (sign_lt _ _)) ?_
  rw [show orP w (immL 5) = andN w 4095 % 2 ^ 32 by
    refine eq_bits (n := 32) (orP_lt w (immL 5) (by decide)) (Nat.mod_lt _ (by decide)) fun q hq => ?_
    rw [orP_bit, bit_mod, if_pos hq, andN_bit, if_pos (by omega)]
    have hb : bitN 4095 q = if q < 12 then 1 else 0 := by
      have : ∀ q : Nat, q < 32 → bitN 4095 q = if q < 12 then 1 else 0 := by decide
      exact this q hq
    rw [hb]
    by_cases hq2 : q < 12
    · have : (immL 5).filterMap (covers q) = [] := by
        have : ∀ q : Nat, q < 12 → (immL 5).filterMap (covers q) = [] := by decide
        exact this q hq2
      rw [this, if_pos hq2]; rfl
    · have : (immL 5).filterMap (covers q) = [q] := by
        have : ∀ q : Nat, q < 32 → ¬ q < 12 → (immL 5).filterMap (covers q) = [q] := by decide
        exact this q hq hq2
      rw [this, if_neg hq2]; simp [mx]] at hk
  conv => whnf
  exact hk
theorem imm6_x (w : Nat) (hw : w < 2 ^ 32) (hk : K (.int .i64 (i64N (immN 6 w))) h) : X Tryz.prog 88 #[.int .i64 6, wx w] h K := by
  refine X.forget ?_
  have he := imm_eq 6 (by decide) w
  have hw64 : w < 2 ^ 64 := Nat.lt_trans hw (by decide)
  rw [show immN 6 w = signN (ofL (immBits (placesL 6) w)) 21 from rfl, ← he] at hk
  refine fnv (args := _) mixed [] [] [] Tryz.func88 rfl (by kernel_rfl) ?_; conv => whnf
  refine ov_u64 (by omega) ?_; conv => whnf
  refine new_intro (o := rowO 163 (([(31, 1), (12, 8), (20, 1), (21, 10)] : List (Nat × Nat)).flatMap partC)) (fun bg h1 n_bg le_bg at_bg ot_bg => ?_); conv => whnf
  refine bgather_x w hw64 [(31, 1), (12, 8), (20, 1), (21, 10)] bg 4 at_bg (by decide) (by decide) ?_
  have hg : gath w [(31, 1), (12, 8), (20, 1), (21, 10)] 0 = orP w (immL 6) / 2 := GATH6 w
  rw [hg]
  conv => whnf
  refine ov_by (shl64 (orP w (immL 6) / 2) 1 (by decide)) ?_
  have hlt := orP_lt w (immL 6) (by decide)
  have hev := ev6 w
  rw [show orP w (immL 6) / 2 * 2 ^ 1 % 18446744073709551616 = orP w (immL 6) by omega]
  conv => whnf
  have hl2 : orP w (immL 6) < 2 ^ 21 := by
    rw [he]; exact immBits_lt (placesL 6) w
  refine bsign_x (orP w (immL 6)) 21 (Nat.lt_trans hlt (by decide)) (by decide) ?_
  rw [Nat.mod_eq_of_lt hl2]
  conv => whnf
  refine ov_by (wrapI64N _ (sign_lt _ _)) ?_
  conv => whnf
  exact ⟨h, le_bg, hk⟩
theorem imm7_x (w : Nat) (hw : w < 2 ^ 32) (hk : K (.int .i64 (i64N (immN 7 w))) h) : X Tryz.prog 88 #[.int .i64 7, wx w] h K := by
  have he := imm_eq 7 (by decide) w
  have hw64 : w < 2 ^ 64 := Nat.lt_trans hw (by decide)
  rw [show immN 7 w = ofL (immBits (placesL 7) w) from rfl, ← he] at hk
  refine fnv (args := _) mixed [] [] [] Tryz.func88 rfl (by kernel_rfl) ?_; conv => whnf
  refine ov_u64 (by omega) ?_; conv => whnf
  refine bcut_x w 20 6 hw64 (by decide) (by decide) ?_
  conv => whnf
  have hlt : w / 2 ^ 20 % 2 ^ 6 < 2 ^ 64 := Nat.lt_trans (Nat.mod_lt _ (by decide)) (show 2 ^ 6 < 2 ^ 64 by decide)
  refine ov_by (wrapI64N _ hlt) ?_
  rw [show orP w (immL 7) = w / 2 ^ 20 % 2 ^ 6 by unfold immL orP orP pieceN; simp] at hk
  conv => whnf
  exact hk
theorem imm8_x (w : Nat) (hw : w < 2 ^ 32) (hk : K (.int .i64 (i64N (immN 8 w))) h) : X Tryz.prog 88 #[.int .i64 8, wx w] h K := by
  have he := imm_eq 8 (by decide) w
  have hw64 : w < 2 ^ 64 := Nat.lt_trans hw (by decide)
  rw [show immN 8 w = ofL (immBits (placesL 8) w) from rfl, ← he] at hk
  refine fnv (args := _) mixed [] [] [] Tryz.func88 rfl (by kernel_rfl) ?_; conv => whnf
  refine ov_u64 (by omega) ?_; conv => whnf
  refine bcut_x w 20 5 hw64 (by decide) (by decide) ?_
  conv => whnf
  have hlt : w / 2 ^ 20 % 2 ^ 5 < 2 ^ 64 := Nat.lt_trans (Nat.mod_lt _ (by decide)) (show 2 ^ 5 < 2 ^ 64 by decide)
  refine ov_by (wrapI64N _ hlt) ?_
  rw [show orP w (immL 8) = w / 2 ^ 20 % 2 ^ 5 by unfold immL orP orP pieceN; simp] at hk
  conv => whnf
  exact hk
theorem imm9_x (w : Nat) (hw : w < 2 ^ 32) (hk : K (.int .i64 (i64N (immN 9 w))) h) : X Tryz.prog 88 #[.int .i64 9, wx w] h K := by
  have he := imm_eq 9 (by decide) w
  have hw64 : w < 2 ^ 64 := Nat.lt_trans hw (by decide)
  rw [show immN 9 w = ofL (immBits (placesL 9) w) from rfl, ← he] at hk
  refine fnv (args := _) mixed [] [] [] Tryz.func88 rfl (by kernel_rfl) ?_; conv => whnf
  refine ov_u64 (by omega) ?_; conv => whnf
  exact hk
theorem imm10_x (w : Nat) (hw : w < 2 ^ 32) (hk : K (.int .i64 (i64N (immN 10 w))) h) : X Tryz.prog 88 #[.int .i64 10, wx w] h K := by
  have he := imm_eq 10 (by decide) w
  have hw64 : w < 2 ^ 64 := Nat.lt_trans hw (by decide)
  rw [show immN 10 w = ofL (immBits (placesL 10) w) from rfl, ← he] at hk
  refine fnv (args := _) mixed [] [] [] Tryz.func88 rfl (by kernel_rfl) ?_; conv => whnf
  refine ov_u64 (by omega) ?_; conv => whnf
  exact hk
theorem imm11_x (w : Nat) (hw : w < 2 ^ 32) (hk : K (.int .i64 (i64N (immN 11 w))) h) : X Tryz.prog 88 #[.int .i64 11, wx w] h K := by
  have he := imm_eq 11 (by decide) w
  have hw64 : w < 2 ^ 64 := Nat.lt_trans hw (by decide)
  rw [show immN 11 w = ofL (immBits (placesL 11) w) from rfl, ← he] at hk
  refine fnv (args := _) mixed [] [] [] Tryz.func88 rfl (by kernel_rfl) ?_; conv => whnf
  refine ov_u64 (by omega) ?_; conv => whnf
  exact hk
theorem imm12_x (w : Nat) (hw : w < 2 ^ 32) (hk : K (.int .i64 (i64N (immN 12 w))) h) : X Tryz.prog 88 #[.int .i64 12, wx w] h K := by
  have he := imm_eq 12 (by decide) w
  have hw64 : w < 2 ^ 64 := Nat.lt_trans hw (by decide)
  rw [show immN 12 w = ofL (immBits (placesL 12) w) from rfl, ← he] at hk
  refine fnv (args := _) mixed [] [] [] Tryz.func88 rfl (by kernel_rfl) ?_; conv => whnf
  refine ov_u64 (by omega) ?_; conv => whnf
  exact hk
theorem imm13_x (w : Nat) (hw : w < 2 ^ 32) (hk : K (.int .i64 (i64N (immN 13 w))) h) : X Tryz.prog 88 #[.int .i64 13, wx w] h K := by
  have he := imm_eq 13 (by decide) w
  have hw64 : w < 2 ^ 64 := Nat.lt_trans hw (by decide)
  rw [show immN 13 w = ofL (immBits (placesL 13) w) from rfl, ← he] at hk
  refine fnv (args := _) mixed [] [] [] Tryz.func88 rfl (by kernel_rfl) ?_; conv => whnf
  refine ov_u64 (by omega) ?_; conv => whnf
  exact hk
theorem imm14_x (w : Nat) (hw : w < 2 ^ 32) (hk : K (.int .i64 (i64N (immN 14 w))) h) : X Tryz.prog 88 #[.int .i64 14, wx w] h K := by
  have he := imm_eq 14 (by decide) w
  have hw64 : w < 2 ^ 64 := Nat.lt_trans hw (by decide)
  rw [show immN 14 w = ofL (immBits (placesL 14) w) from rfl, ← he] at hk
  refine fnv (args := _) mixed [] [] [] Tryz.func88 rfl (by kernel_rfl) ?_; conv => whnf
  refine ov_u64 (by omega) ?_; conv => whnf
  exact hk
theorem imm_x (f : Nat) (hf : f < 15) (w : Nat) (hw : w < 2 ^ 32) (hk : K (.int .i64 (i64N (immN f w))) h) : X Tryz.prog 88 #[.int .i64 f, wx w] h K := by
  match f, hf, hk with
  | 0, _, hk => exact imm0_x w hw hk
  | 1, _, hk => exact imm1_x w hw hk
  | 2, _, hk => exact imm2_x w hw hk
  | 3, _, hk => exact imm3_x w hw hk
  | 4, _, hk => exact imm4_x w hw hk
  | 5, _, hk => exact imm5_x w hw hk
  | 6, _, hk => exact imm6_x w hw hk
  | 7, _, hk => exact imm7_x w hw hk
  | 8, _, hk => exact imm8_x w hw hk
  | 9, _, hk => exact imm9_x w hw hk
  | 10, _, hk => exact imm10_x w hw hk
  | 11, _, hk => exact imm11_x w hw hk
  | 12, _, hk => exact imm12_x w hw hk
  | 13, _, hk => exact imm13_x w hw hk
  | 14, _, hk => exact imm14_x w hw hk
  | f + 15, hf, _ => exact absurd hf (by omega)
end
end Go.Proofs.YtlobclgbbhoeiaaGreatDoor
/-! Instructions as words: decoded and encoded, the program's. -/
namespace Go.Proofs.YtlobclgbbhoeiaaGreatDoor
set_option linter.unusedSimpArgs false
set_option linter.unusedVariables false
open Go Go.Mid Go.RowKit Go.Bits
attribute [local irreducible] mid
/-- A word is one of an op. -/
def hit (w i : Nat) : Prop := i < 98 ∧ w &&& maskN i = isN i
instance (w i : Nat) : Decidable (hit w i) := by unfold hit; infer_instance
/-- The op of a word. -/
def opOf (w : Nat) : Option Nat := (List.range 98).find? fun i => decide (hit w i)
theorem and_bit (a b i : Nat) : bitN (a &&& b) i = min (bitN a i) (bitN b i) := by
  rw [bit_eq, bit_eq, bit_eq, Nat.testBit_and]
  cases a.testBit i <;> cases b.testBit i <;> rfl
theorem hit_bit {w i q : Nat} (h : hit w i) (hm : bitN (maskN i) q = 1) : bitN w q = bitN (isN i) q := by
  have := congrArg (fun x => bitN x q) h.2
  simp only [and_bit, hm] at this
  have h2 := bitN_lt w q
  omega
theorem apart : ((List.range 98).all fun i => (List.range 98).all fun j => decide (i = j) || decide ((isN i ^^^ isN j) &&& maskN i &&& maskN j ≠ 0)) = true := by decide +kernel
theorem hit_uniq {w i j : Nat} (h1 : hit w i) (h2 : hit w j) : i = j := by
  have := List.all_eq_true.1 (List.all_eq_true.1 apart i (List.mem_range.2 h1.1)) j (List.mem_range.2 h2.1)
  simp only [Bool.or_eq_true, decide_eq_true_eq] at this
  rcases this with h | h
  · exact h
  · exfalso
    apply h
    rw [← h1.2, ← h2.2]
    refine Nat.eq_of_testBit_eq fun q => ?_
    simp only [Nat.testBit_and, Nat.testBit_xor, Nat.zero_testBit]
    cases w.testBit q <;> cases (maskN i).testBit q <;> cases (maskN j).testBit q <;> rfl
theorem opOf_some {w i : Nat} (h : hit w i) : opOf w = some i := by
  unfold opOf
  rw [List.find?_range_eq_some]
  refine ⟨decide_eq_true h, List.mem_range.2 h.1, fun j hj => ?_⟩
  have : ¬ hit w j := fun h2 => by have := hit_uniq h h2; omega
  simpa using this
theorem opOf_hit {w i : Nat} (h : opOf w = some i) : hit w i := by
  unfold opOf at h
  have := List.find?_some (p := fun i => decide (hit w i)) h
  exact of_decide_eq_true this
theorem opOf_none {w : Nat} (h : ∀ i, ¬ hit w i) : opOf w = none := by
  unfold opOf
  rw [List.find?_eq_none]
  intro i _
  simpa using h i
def rangesOf : Nat → List (Nat × Nat)
  | 55 => [(0, 0)]
  | 23 => [(1, 1)]
  | 111 => [(2, 2)]
  | 103 => [(3, 3)]
  | 99 => [(4, 9)]
  | 3 => [(10, 16)]
  | 35 => [(17, 20)]
  | 19 => [(21, 29)]
  | 15 => [(49, 50)]
  | 47 => [(66, 87)]
  | 51 | 27 | 59 | 115 => [(30, 65), (88, 97)]
  | _ => []
def inR (R : List (Nat × Nat)) (i : Nat) : Prop := ∃ p ∈ R, p.1 ≤ i ∧ i ≤ p.2
instance (R : List (Nat × Nat)) (i : Nat) : Decidable (inR R i) := by unfold inR; infer_instance
theorem in_ranges : ∀ i : Nat, i < 98 → inR (rangesOf (isN i &&& 127)) i ∧ maskN i &&& 127 = 127 := by decide +kernel
theorem hit_range {w i : Nat} (h : hit w i) : inR (rangesOf (w &&& 127)) i := by
  obtain ⟨h1, h2⟩ := in_ranges i h.1
  have : w &&& 127 = isN i &&& 127 := by rw [← h.2, Nat.and_assoc, h2]
  rwa [this]
def rangeC (p : Nat × Nat) : List Value := [.int .i64 (p.1 + 1 : Nat), .int .i64 (p.2 + 1 : Nat)]
def opV (w : Nat) : Int := match opOf w with
  | some i => (i + 1 : Nat)
  | none => 0
theorem mask_lt : ∀ i : Nat, i < 98 → maskN i < 2 ^ 32 ∧ isN i < 2 ^ 32 := by decide +kernel
section
set_option maxHeartbeats 8000000
set_option maxRecDepth 10000
variable {h : Hp} {K : Value → Hp → Prop}
theorem aggOp : isAggT Tryz.prog 22 = some false := by kernel_rfl
theorem rangeC_get {R : List (Nat × Nat)} {j : Nat} {p : Nat × Nat} (hp : R[j]? = some p) : (R.flatMap rangeC)[2 * j]? = some (.int .i64 (p.1 + 1 : Nat)) ∧ (R.flatMap rangeC)[2 * j + 1]? = some (.int .i64 (p.2 + 1 : Nat)) := by
  induction R generalizing j with
  | nil => simp at hp
  | cons q R ih =>
    cases j with
    | zero => simp at hp; subst hp; exact ⟨rfl, rfl⟩
    | succ j =>
      rw [List.getElem?_cons_succ] at hp
      have := ih hp
      rw [List.flatMap_cons, show 2 * (j + 1) = 2 * j + 1 + 1 by omega]
      exact this
theorem seek_x (w : Nat) (hw : w < 2 ^ 32) (R : List (Nat × Nat)) (hR : ∀ p ∈ R, p.1 ≤ p.2 ∧ p.2 < 98) (hl : R.length ≤ 4) (b cap : Nat) (hb : h b = some (rowO 22 (R.flatMap rangeC))) (n : Nat) (hn : n = 2 * R.length)
    (hk1 : ∀ i, hit w i → inR R i → K (.int .i64 (i + 1 : Nat)) h) (hk0 : (∀ i, inR R i → ¬ hit w i) → K (.int .i64 0) h) : X Tryz.prog 119 #[wx w, .slice (some ⟨b, 0, none⟩) n cap] h K := by
  refine fnv (args := _) mixed [] [] [] Tryz.func119 rfl (by kernel_rfl) ?_; conv => whnf
  refine loop_at [5] [] (fun r vs _ h' => h = h' ∧ ∃ j : Nat, j ≤ R.length ∧ r = R.length - j ∧ vs = [.v (.int .i64 (2 * j : Nat))] ∧ ∀ i, inR (R.take j) i → ¬ hit w i) R.length ⟨rfl, 0, by omega, by omega, rfl, fun i hi => by obtain ⟨p, hp, _⟩ := hi; simp at hp⟩ ?_
  rintro r vs cs mm bx _ ⟨rfl, j, hj, rfl, rfl, hno⟩
  conv => whnf
  (first | refine ov_c (by simp only [loK, hiK]; omega) ?_ | refine ov_c (by decide) ?_); conv => whnf
  refine bsel_intro (fun q1 => ?_) (fun q1 => ?_) <;> try simp only [bsL] at q1
  · have hj2 : j < R.length := by omega
    obtain ⟨p, hp⟩ : ∃ p, R[j]? = some p := ⟨_, List.getElem?_eq_getElem hj2⟩
    obtain ⟨p1, p2⟩ := hR p (List.mem_of_getElem? hp)
    obtain ⟨g1, g2⟩ := rangeC_get hp
    have hnx : ∀ i, inR (R.take (j + 1)) i → inR (R.take j) i ∨ (p.1 ≤ i ∧ i ≤ p.2) := by
      rintro i ⟨q, hq, hq2⟩
      rw [List.take_add_one, hp] at hq
      rcases List.mem_append.1 hq with hq | hq
      · exact .inl ⟨q, hq, hq2⟩
      · simp only [Option.toList_some, List.mem_singleton] at hq; subst hq; exact .inr hq2
    conv => whnf
    (first | refine need_intro (⟨by omega, by omega⟩) ?_ | refine must.mk (⟨by omega, by omega⟩) ?_); conv => whnf
    refine ⟨_, loadI aggOp hb (j := 2 * j) (by omega) g1, ?_⟩; conv => whnf
    refine loop_at [6] [] (fun r vs _ h' => h = h' ∧ ∃ o : Nat, p.1 ≤ o ∧ o ≤ p.2 + 1 ∧ r = p.2 + 1 - o ∧ vs = [.v (.int .i64 (o + 1 : Nat))] ∧ ∀ i, p.1 ≤ i → i < o → ¬ hit w i) (p.2 + 1 - p.1) ⟨rfl, p.1, by omega, by omega, rfl, rfl, fun i h1 h2 => by omega⟩ ?_
    rintro r vs cs mm2 bx2 _ ⟨rfl, o, ho1, ho2, rfl, rfl, hno2⟩
    conv => whnf
    (first | refine ov_c (by simp only [loK, hiK]; omega) ?_ | refine ov_c (by decide) ?_); conv => whnf
    (first | refine need_intro (⟨by omega, by omega⟩) ?_ | refine must.mk (⟨by omega, by omega⟩) ?_); conv => whnf
    refine ⟨_, loadI aggOp hb (j := 2 * j + 1) (by omega) g2, ?_⟩; conv => whnf
    refine bsel_intro (fun q2 => ?_) (fun q2 => ?_) <;> try simp only [bsL] at q2
    · have ho98 : o < 98 := by omega
      obtain ⟨l1, l2⟩ := mask_lt o ho98
      conv => whnf
      refine fixed_x o ho98 ?_
      conv => whnf
      refine val_by (and32 hw l1) ?_; conv => whnf
      by_cases hh : w &&& maskN o = isN o
      · refine bsel_true (by rw [hh]; simp) ?_; conv => whnf
        exact hk1 o ⟨ho98, hh⟩ ⟨p, List.mem_of_getElem? hp, by omega, by omega⟩
      · refine bsel_false (by simpa using fun e => hh (by exact_mod_cast e)) ?_; conv => whnf
        (first | refine ov_c (by simp only [loK, hiK]; omega) ?_ | refine ov_c (by decide) ?_); conv => whnf
        refine ⟨p.2 + 1 - (o + 1), by omega, rfl, o + 1, by omega, by omega, rfl, rfl, fun i h1 h2 => ?_⟩
        rcases Nat.lt_succ_iff_lt_or_eq.1 h2 with h2 | rfl
        · exact hno2 i h1 h2
        · exact fun hx => hh hx.2
    · conv => whnf
      (first | refine ov_c (by simp only [loK, hiK]; omega) ?_ | refine ov_c (by decide) ?_); conv => whnf
      refine ⟨R.length - (j + 1), by omega, rfl, j + 1, by omega, rfl, by rw [show ((2 * (j + 1) : Nat) : Int) = ((2 * j : Nat) : Int) + 2 by omega]; rfl, fun i hi => ?_⟩
      rcases hnx i hi with hi | hi
      · exact hno i hi
      · exact hno2 i hi.1 (by omega)
  · have : j = R.length := by omega
    rw [this, List.take_length] at hno
    conv => whnf
    exact hk0 hno
theorem opV_of {w : Nat} (hk : K (.int .i64 (opV w)) h) : (∀ i, hit w i → K (.int .i64 (i + 1 : Nat)) h) ∧ ((∀ i, ¬ hit w i) → K (.int .i64 0) h) := by
  unfold opV at hk
  refine ⟨fun i hi => ?_, fun hn => ?_⟩
  · rw [opOf_some hi] at hk; exact hk
  · rw [opOf_none hn] at hk; exact hk
theorem find_x (w : Nat) (hw : w < 2 ^ 32) (hk : K (.int .i64 (opV w)) h) : X Tryz.prog 86 #[wx w] h K := by
  refine X.forget ?_
  obtain ⟨hk1, hk0⟩ := opV_of hk
  have hr : ∀ i, hit w i → inR (rangesOf (w &&& 127)) i := fun i => hit_range
  have one : ∀ i, i < 98 → w &&& 127 = isN i → maskN i = 127 → hit w i := fun i hi e1 e2 => ⟨hi, by rw [e2, e1]⟩
  refine fnv (args := _) mixed [] [] [] Tryz.func86 rfl (by kernel_rfl) ?_; conv => whnf
  refine val_by (and32 hw (show 127 < 2 ^ 32 by decide)) ?_; conv => whnf
  generalize hc : w &&& 127 = c at hr one ⊢
  refine bsel_intro (fun q55 => ?_) (fun q55 => ?_) <;> try simp only [bsL] at q55
  · have e55 : c = 55 := by omega
    conv => whnf
    exact ⟨h, Hp.le_refl _, hk1 0 (one 0 (by decide) (by rw [e55]; decide) (by decide))⟩
  conv => whnf
  refine bsel_intro (fun q23 => ?_) (fun q23 => ?_) <;> try simp only [bsL] at q23
  · have e23 : c = 23 := by omega
    conv => whnf
    exact ⟨h, Hp.le_refl _, hk1 1 (one 1 (by decide) (by rw [e23]; decide) (by decide))⟩
  conv => whnf
  refine bsel_intro (fun q111 => ?_) (fun q111 => ?_) <;> try simp only [bsL] at q111
  · have e111 : c = 111 := by omega
    conv => whnf
    exact ⟨h, Hp.le_refl _, hk1 2 (one 2 (by decide) (by rw [e111]; decide) (by decide))⟩
  conv => whnf
  refine bsel_intro (fun q103 => ?_) (fun q103 => ?_) <;> try simp only [bsL] at q103
  · have e103 : c = 103 := by omega
    conv => whnf
    refine new_intro (o := rowO 22 (([(3, 3)] : List (Nat × Nat)).flatMap rangeC)) (fun b h1 n_b le_b at_b ot_b => ?_); conv => whnf
    refine seek_x w hw [(3, 3)] (by decide) (by decide) b _ at_b 2 rfl (fun i hi _ => ?_) (fun hn => ?_)
    · conv => whnf
      exact ⟨h, le_b, hk1 i hi⟩
    · conv => whnf
      exact ⟨h, le_b, hk0 fun i hi => hn i (by have := hr i hi; rw [e103] at this; exact this) hi⟩
  conv => whnf
  refine bsel_intro (fun q99 => ?_) (fun q99 => ?_) <;> try simp only [bsL] at q99
  · have e99 : c = 99 := by omega
    conv => whnf
    refine new_intro (o := rowO 22 (([(4, 9)] : List (Nat × Nat)).flatMap rangeC)) (fun b h1 n_b le_b at_b ot_b => ?_); conv => whnf
    refine seek_x w hw [(4, 9)] (by decide) (by decide) b _ at_b 2 rfl (fun i hi _ => ?_) (fun hn => ?_)
    · conv => whnf
      exact ⟨h, le_b, hk1 i hi⟩
    · conv => whnf
      exact ⟨h, le_b, hk0 fun i hi => hn i (by have := hr i hi; rw [e99] at this; exact this) hi⟩
  conv => whnf
  refine bsel_intro (fun q3 => ?_) (fun q3 => ?_) <;> try simp only [bsL] at q3
  · have e3 : c = 3 := by omega
    conv => whnf
    refine new_intro (o := rowO 22 (([(10, 16)] : List (Nat × Nat)).flatMap rangeC)) (fun b h1 n_b le_b at_b ot_b => ?_); conv => whnf
    refine seek_x w hw [(10, 16)] (by decide) (by decide) b _ at_b 2 rfl (fun i hi _ => ?_) (fun hn => ?_)
    · conv => whnf
      exact ⟨h, le_b, hk1 i hi⟩
    · conv => whnf
      exact ⟨h, le_b, hk0 fun i hi => hn i (by have := hr i hi; rw [e3] at this; exact this) hi⟩
  conv => whnf
  refine bsel_intro (fun q35 => ?_) (fun q35 => ?_) <;> try simp only [bsL] at q35
  · have e35 : c = 35 := by omega
    conv => whnf
    refine new_intro (o := rowO 22 (([(17, 20)] : List (Nat × Nat)).flatMap rangeC)) (fun b h1 n_b le_b at_b ot_b => ?_); conv => whnf
    refine seek_x w hw [(17, 20)] (by decide) (by decide) b _ at_b 2 rfl (fun i hi _ => ?_) (fun hn => ?_)
    · conv => whnf
      exact ⟨h, le_b, hk1 i hi⟩
    · conv => whnf
      exact ⟨h, le_b, hk0 fun i hi => hn i (by have := hr i hi; rw [e35] at this; exact this) hi⟩
  conv => whnf
  refine bsel_intro (fun q19 => ?_) (fun q19 => ?_) <;> try simp only [bsL] at q19
  · have e19 : c = 19 := by omega
    conv => whnf
    refine new_intro (o := rowO 22 (([(21, 29)] : List (Nat × Nat)).flatMap rangeC)) (fun b h1 n_b le_b at_b ot_b => ?_); conv => whnf
    refine seek_x w hw [(21, 29)] (by decide) (by decide) b _ at_b 2 rfl (fun i hi _ => ?_) (fun hn => ?_)
    · conv => whnf
      exact ⟨h, le_b, hk1 i hi⟩
    · conv => whnf
      exact ⟨h, le_b, hk0 fun i hi => hn i (by have := hr i hi; rw [e19] at this; exact this) hi⟩
  conv => whnf
  refine bsel_intro (fun q15 => ?_) (fun q15 => ?_) <;> try simp only [bsL] at q15
  · have e15 : c = 15 := by omega
    conv => whnf
    refine new_intro (o := rowO 22 (([(49, 50)] : List (Nat × Nat)).flatMap rangeC)) (fun b h1 n_b le_b at_b ot_b => ?_); conv => whnf
    refine seek_x w hw [(49, 50)] (by decide) (by decide) b _ at_b 2 rfl (fun i hi _ => ?_) (fun hn => ?_)
    · conv => whnf
      exact ⟨h, le_b, hk1 i hi⟩
    · conv => whnf
      exact ⟨h, le_b, hk0 fun i hi => hn i (by have := hr i hi; rw [e15] at this; exact this) hi⟩
  conv => whnf
  refine bsel_intro (fun q47 => ?_) (fun q47 => ?_) <;> try simp only [bsL] at q47
  · have e47 : c = 47 := by omega
    conv => whnf
    refine new_intro (o := rowO 22 (([(66, 87)] : List (Nat × Nat)).flatMap rangeC)) (fun b h1 n_b le_b at_b ot_b => ?_); conv => whnf
    refine seek_x w hw [(66, 87)] (by decide) (by decide) b _ at_b 2 rfl (fun i hi _ => ?_) (fun hn => ?_)
    · conv => whnf
      exact ⟨h, le_b, hk1 i hi⟩
    · conv => whnf
      exact ⟨h, le_b, hk0 fun i hi => hn i (by have := hr i hi; rw [e47] at this; exact this) hi⟩
  conv => whnf
  refine bsel_intro (fun q51 => ?_) (fun q51 => ?_) <;> try simp only [bsL] at q51
  · have e51 : c = 51 := by omega
    conv => whnf
    refine bsel_true (by rw [e51]; rfl) ?_; conv => whnf
    refine new_intro (o := rowO 22 (([(30, 65), (88, 97)] : List (Nat × Nat)).flatMap rangeC)) (fun b h1 n_b le_b at_b ot_b => ?_); conv => whnf
    refine seek_x w hw [(30, 65), (88, 97)] (by decide) (by decide) b _ at_b 4 rfl (fun i hi _ => ?_) (fun hn => ?_)
    · conv => whnf
      exact ⟨h, le_b, hk1 i hi⟩
    · conv => whnf
      exact ⟨h, le_b, hk0 fun i hi => hn i (by have := hr i hi; rw [e51] at this; exact this) hi⟩
  conv => whnf
  refine bsel_intro (fun q27 => ?_) (fun q27 => ?_) <;> try simp only [bsL] at q27
  · have e27 : c = 27 := by omega
    conv => whnf
    refine bsel_true (by rw [e27]; rfl) ?_; conv => whnf
    refine new_intro (o := rowO 22 (([(30, 65), (88, 97)] : List (Nat × Nat)).flatMap rangeC)) (fun b h1 n_b le_b at_b ot_b => ?_); conv => whnf
    refine seek_x w hw [(30, 65), (88, 97)] (by decide) (by decide) b _ at_b 4 rfl (fun i hi _ => ?_) (fun hn => ?_)
    · conv => whnf
      exact ⟨h, le_b, hk1 i hi⟩
    · conv => whnf
      exact ⟨h, le_b, hk0 fun i hi => hn i (by have := hr i hi; rw [e27] at this; exact this) hi⟩
  conv => whnf
  refine bsel_intro (fun q59 => ?_) (fun q59 => ?_) <;> try simp only [bsL] at q59
  · have e59 : c = 59 := by omega
    conv => whnf
    refine bsel_true (by rw [e59]; rfl) ?_; conv => whnf
    refine new_intro (o := rowO 22 (([(30, 65), (88, 97)] : List (Nat × Nat)).flatMap rangeC)) (fun b h1 n_b le_b at_b ot_b => ?_); conv => whnf
    refine seek_x w hw [(30, 65), (88, 97)] (by decide) (by decide) b _ at_b 4 rfl (fun i hi _ => ?_) (fun hn => ?_)
    · conv => whnf
      exact ⟨h, le_b, hk1 i hi⟩
    · conv => whnf
      exact ⟨h, le_b, hk0 fun i hi => hn i (by have := hr i hi; rw [e59] at this; exact this) hi⟩
  conv => whnf
  refine bsel_intro (fun q115 => ?_) (fun q115 => ?_) <;> try simp only [bsL] at q115
  · have e115 : c = 115 := by omega
    conv => whnf
    refine new_intro (o := rowO 22 (([(30, 65), (88, 97)] : List (Nat × Nat)).flatMap rangeC)) (fun b h1 n_b le_b at_b ot_b => ?_); conv => whnf
    refine seek_x w hw [(30, 65), (88, 97)] (by decide) (by decide) b _ at_b 4 rfl (fun i hi _ => ?_) (fun hn => ?_)
    · conv => whnf
      exact ⟨h, le_b, hk1 i hi⟩
    · conv => whnf
      exact ⟨h, le_b, hk0 fun i hi => hn i (by have := hr i hi; rw [e115] at this; exact this) hi⟩
  conv => whnf
  refine ⟨h, Hp.le_refl _, hk0 fun i hi => ?_⟩
  have := hr i hi
  have hnil : rangesOf c = [] := by
    unfold rangesOf
    split <;> first | rfl | (exfalso; omega)
  rw [hnil] at this
  obtain ⟨p, hp, _⟩ := this
  simp at hp
theorem opV_none {w : Nat} (h : opOf w = none) : opV w = 0 := by unfold opV; rw [h]
theorem opV_some {w i : Nat} (h : opOf w = some i) : opV w = (i + 1 : Nat) := by unfold opV; rw [h]
end
end Go.Proofs.YtlobclgbbhoeiaaGreatDoor
