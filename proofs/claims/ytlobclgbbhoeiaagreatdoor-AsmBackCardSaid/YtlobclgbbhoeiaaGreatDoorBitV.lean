/-
  The operations on words' bits, as those of natural numbers.
-/
import Derived.Test.YtlobclgbbhoeiaaGreatDoorMidXY
import Derived.Test.YtlobclgbbhoeiaaGreatDoorBitZ
/-! The operations on words' bits, as those of natural numbers. -/
namespace Go.Bits
set_option linter.unusedSimpArgs false
set_option linter.unusedVariables false
open Go Go.Mid
theorem bv64 {a : Nat} (h : a < 2 ^ 64) : (BitVec.ofInt IntKind.u64.bits (a : Int)).toNat = a := by
  show (BitVec.ofInt 64 (a : Int)).toNat = a
  rw [BitVec.toNat_ofInt]; omega
theorem bv32 {a : Nat} (h : a < 2 ^ 32) : (BitVec.ofInt IntKind.u32.bits (a : Int)).toNat = a := by
  show (BitVec.ofInt 32 (a : Int)).toNat = a
  rw [BitVec.toNat_ofInt]; omega
theorem bv8 {a : Nat} (h : a < 2 ^ 8) : (BitVec.ofInt IntKind.u8.bits (a : Int)).toNat = a := by
  show (BitVec.ofInt 8 (a : Int)).toNat = a
  rw [BitVec.toNat_ofInt]; omega
theorem w64 {a : Nat} (h : a < 2 ^ 64) : IntKind.u64.wrap (a : Int) = a := IntWalk.u64_in _ (by omega)
theorem w32 {a : Nat} (h : a < 2 ^ 32) : IntKind.u32.wrap (a : Int) = a := IntWalk.u32_in _ (by omega)
theorem w8 {a : Nat} (h : a < 2 ^ 8) : IntKind.u8.wrap (a : Int) = a := IntWalk.u8_in _ (by omega)
theorem and64 {a b : Nat} (ha : a < 2 ^ 64) (hb : b < 2 ^ 64) : IntKind.u64.wrap ((BitVec.ofInt IntKind.u64.bits (a : Int) &&& BitVec.ofInt IntKind.u64.bits (b : Int)).toNat : Int) = ((a &&& b : Nat) : Int) := by
  rw [BitVec.toNat_and, bv64 ha, bv64 hb]; exact w64 (Nat.and_lt_two_pow _ hb)
theorem or64 {a b : Nat} (ha : a < 2 ^ 64) (hb : b < 2 ^ 64) : IntKind.u64.wrap ((BitVec.ofInt IntKind.u64.bits (a : Int) ||| BitVec.ofInt IntKind.u64.bits (b : Int)).toNat : Int) = ((a ||| b : Nat) : Int) := by
  rw [BitVec.toNat_or, bv64 ha, bv64 hb]; exact w64 (Nat.or_lt_two_pow ha hb)
theorem xor64 {a b : Nat} (ha : a < 2 ^ 64) (hb : b < 2 ^ 64) : IntKind.u64.wrap ((BitVec.ofInt IntKind.u64.bits (a : Int) ^^^ BitVec.ofInt IntKind.u64.bits (b : Int)).toNat : Int) = ((a ^^^ b : Nat) : Int) := by
  rw [BitVec.toNat_xor, bv64 ha, bv64 hb]; exact w64 (Nat.xor_lt_two_pow ha hb)
theorem and32 {a b : Nat} (ha : a < 2 ^ 32) (hb : b < 2 ^ 32) : IntKind.u32.wrap ((BitVec.ofInt IntKind.u32.bits (a : Int) &&& BitVec.ofInt IntKind.u32.bits (b : Int)).toNat : Int) = ((a &&& b : Nat) : Int) := by
  rw [BitVec.toNat_and, bv32 ha, bv32 hb]; exact w32 (Nat.and_lt_two_pow _ hb)
theorem or32 {a b : Nat} (ha : a < 2 ^ 32) (hb : b < 2 ^ 32) : IntKind.u32.wrap ((BitVec.ofInt IntKind.u32.bits (a : Int) ||| BitVec.ofInt IntKind.u32.bits (b : Int)).toNat : Int) = ((a ||| b : Nat) : Int) := by
  rw [BitVec.toNat_or, bv32 ha, bv32 hb]; exact w32 (Nat.or_lt_two_pow ha hb)
/-- a without the bits of b. -/
def andN (a b : Nat) : Nat := bitsOf 64 fun i => if bitN b i = 1 then 0 else bitN a i
theorem andN_bit (a b i : Nat) : bitN (andN a b) i = if i < 64 then (if bitN b i = 1 then 0 else bitN a i) else 0 := bitsOf_bit (fun i => by split <;> first | exact bitN_lt _ _ | decide) i
theorem andN_lt (a b : Nat) : andN a b < 2 ^ 64 := bitsOf_lt (fun i => by split <;> first | exact bitN_lt _ _ | decide)
theorem andNot64 {a b : Nat} (ha : a < 2 ^ 64) (hb : b < 2 ^ 64) : IntKind.u64.wrap ((BitVec.ofInt IntKind.u64.bits (a : Int) &&& ~~~BitVec.ofInt IntKind.u64.bits (b : Int)).toNat : Int) = ((andN a b : Nat) : Int) := by
  have e : (BitVec.ofInt IntKind.u64.bits (a : Int) &&& ~~~BitVec.ofInt IntKind.u64.bits (b : Int)).toNat = andN a b := by
    refine eq_bits (n := 64) (BitVec.isLt _) (andN_lt _ _) fun i hi => ?_
    rw [andN_bit, if_pos hi, bit_eq, bit_eq, bit_eq, ← BitVec.getLsbD, BitVec.getLsbD_and, BitVec.getLsbD_not]
    have h1 : (BitVec.ofInt IntKind.u64.bits (a : Int)).getLsbD i = a.testBit i := by rw [BitVec.getLsbD, bv64 ha]
    have h2 : (BitVec.ofInt IntKind.u64.bits (b : Int)).getLsbD i = b.testBit i := by rw [BitVec.getLsbD, bv64 hb]
    rw [h1, h2, show decide (i < IntKind.u64.bits) = true from decide_eq_true hi]
    cases a.testBit i <;> cases b.testBit i <;> rfl
  rw [e]; exact w64 (andN_lt _ _)
theorem shr64 (a k : Nat) (hk : k ≤ 64) : (a : Int).fdiv (2 ^ (min ((k : Int)).toNat IntKind.u64.bits)) = ((a / 2 ^ k : Nat) : Int) := by
  rw [Int.toNat_natCast, show min k IntKind.u64.bits = k from Nat.min_eq_left hk, Int.fdiv_eq_ediv_of_nonneg _ (Int.le_of_lt (Int.pow_pos (by decide)))]
  norm_cast
theorem shr32 (a k : Nat) (hk : k ≤ 32) : (a : Int).fdiv (2 ^ (min ((k : Int)).toNat IntKind.u32.bits)) = ((a / 2 ^ k : Nat) : Int) := by
  rw [Int.toNat_natCast, show min k IntKind.u32.bits = k from Nat.min_eq_left hk, Int.fdiv_eq_ediv_of_nonneg _ (Int.le_of_lt (Int.pow_pos (by decide)))]
  norm_cast
theorem shl64 (a k : Nat) (hk : k ≤ 64) : IntKind.u64.wrap ((a : Int) * 2 ^ (min ((k : Int)).toNat IntKind.u64.bits)) = ((a * 2 ^ k % 18446744073709551616 : Nat) : Int) := by
  rw [Int.toNat_natCast, show min k IntKind.u64.bits = k from Nat.min_eq_left hk, show IntKind.u64.wrap ((a : Int) * 2 ^ k) = ((a : Int) * 2 ^ k) % 18446744073709551616 by unfold IntKind.wrap; simp [IntKind.signed, IntKind.bits]]
  rw [show (a : Int) * 2 ^ k = ((a * 2 ^ k : Nat) : Int) by push_cast; rfl]
  omega
theorem shl32 (a k : Nat) (hk : k ≤ 32) : IntKind.u32.wrap ((a : Int) * 2 ^ (min ((k : Int)).toNat IntKind.u32.bits)) = ((a * 2 ^ k % 4294967296 : Nat) : Int) := by
  rw [Int.toNat_natCast, show min k IntKind.u32.bits = k from Nat.min_eq_left hk, show IntKind.u32.wrap ((a : Int) * 2 ^ k) = ((a : Int) * 2 ^ k) % 4294967296 by unfold IntKind.wrap; simp [IntKind.signed, IntKind.bits]]
  rw [show (a : Int) * 2 ^ k = ((a * 2 ^ k : Nat) : Int) by push_cast; rfl]
  omega
theorem toU32 (a : Nat) : IntKind.u32.wrap (a : Int) = ((a % 4294967296 : Nat) : Int) := by
  rw [show IntKind.u32.wrap (a : Int) = (a : Int) % 4294967296 by unfold IntKind.wrap; simp [IntKind.signed, IntKind.bits]]
  omega
theorem toU64 (n : Int) : IntKind.u64.wrap n = ((n % 18446744073709551616).toNat : Int) := by
  rw [show IntKind.u64.wrap n = n % 18446744073709551616 by unfold IntKind.wrap; simp [IntKind.signed, IntKind.bits]]
  omega
end Go.Bits
/-! Instructions as words: pieces of numbers, laid together: plain laws. -/
namespace Go.Bits
set_option linter.unusedSimpArgs false
set_option linter.unusedVariables false
/-- A piece: from where, how many bits, to where. -/
abbrev Piece := Nat × Nat × Nat
def pieceN (u : Nat) (p : Piece) : Nat := u / 2 ^ p.1 % 2 ^ p.2.1 * 2 ^ p.2.2
def orP (u : Nat) : List Piece → Nat
  | [] => 0
  | p :: l => pieceN u p ||| orP u l
/-- Which bit of the number stands at a place. -/
def covers (q : Nat) (p : Piece) : Option Nat := if p.2.2 ≤ q ∧ q < p.2.2 + p.2.1 then some (p.1 + (q - p.2.2)) else none
def mx (u : Nat) : List Nat → Nat
  | [] => 0
  | j :: l => max (bitN u j) (mx u l)
theorem piece_bit (u : Nat) (p : Piece) (q : Nat) : bitN (pieceN u p) q = match covers q p with | some j => bitN u j | none => 0 := by
  unfold pieceN covers
  rw [bit_mul, bit_mod, bit_div]
  by_cases h1 : p.2.2 ≤ q
  · rw [if_pos h1]
    by_cases h2 : q < p.2.2 + p.2.1
    · rw [if_pos (by omega), if_pos ⟨h1, h2⟩]
    · rw [if_neg (by omega), if_neg (fun h => h2 h.2)]
  · rw [if_neg h1, if_neg (fun h => h1 h.1)]
theorem orP_bit (u : Nat) : ∀ (l : List Piece) (q : Nat), bitN (orP u l) q = mx u (l.filterMap (covers q))
  | [], q => by simp [orP, mx, bitN]
  | p :: l, q => by
    show bitN (pieceN u p ||| orP u l) q = _
    rw [bit_or, piece_bit, orP_bit u l q, List.filterMap_cons]
    cases covers q p with
    | none => simp
    | some j => rfl
theorem orP_lt (u : Nat) : ∀ (l : List Piece), (∀ p ∈ l, p.2.1 + p.2.2 ≤ 32) → orP u l < 2 ^ 32
  | [], _ => (show (0 : Nat) < 2 ^ 32 by decide)
  | p :: l, h => by
    have hp := h p (by simp)
    refine Nat.or_lt_two_pow ?_ (orP_lt u l fun x hx => h x (by simp [hx]))
    have h1 : u / 2 ^ p.1 % 2 ^ p.2.1 < 2 ^ p.2.1 := Nat.mod_lt _ (Nat.pow_pos (by decide))
    have h2 := Nat.mul_lt_mul_of_pos_right h1 (show 0 < 2 ^ p.2.2 from Nat.pow_pos (by decide))
    rw [← Nat.pow_add] at h2
    exact Nat.lt_of_lt_of_le h2 (Nat.pow_le_pow_right (by decide) hp)
/-- What a number's bits make of a word (the program's), by a format. -/
def layL : Nat → List Piece
  | 2 => [(0, 12, 20)]
  | 3 => [(5, 7, 25), (0, 5, 7)]
  | 4 => [(12, 1, 31), (5, 6, 25), (1, 4, 8), (11, 1, 7)]
  | 5 => [(12, 20, 12)]
  | 6 => [(20, 1, 31), (1, 10, 21), (11, 1, 20), (12, 8, 12)]
  | 7 => [(0, 6, 20)]
  | 8 => [(0, 5, 20)]
  | _ => []
def layP (f u : Nat) : Nat := orP u (layL f)
/-- Where the bits of a format's number stand in the word (the program's). -/
def immL : Nat → List Piece
  | 2 => [(20, 12, 0)]
  | 3 => [(25, 7, 5), (7, 5, 0)]
  | 4 => [(31, 1, 12), (7, 1, 11), (25, 6, 5), (8, 4, 1)]
  | 5 => [(12, 20, 12)]
  | 6 => [(31, 1, 20), (12, 8, 12), (20, 1, 11), (21, 10, 1)]
  | 7 => [(20, 6, 0)]
  | 8 => [(20, 5, 0)]
  | _ => []
theorem layL_ok : ∀ f : Nat, f < 15 → (∀ p ∈ layL f, p.2.1 + p.2.2 ≤ 32) ∧ (∀ p ∈ immL f, p.2.1 + p.2.2 ≤ 32) ∧ once (placesL f) = true := by decide
def placeOf (ps : List Int) (q : Nat) : List Nat := match ps.findIdx? (· == (q : Int)) with
  | some j => [j]
  | none => []
theorem layN_bit (u : Nat) (ps : List Int) (ho : once ps = true) (q : Nat) (hq : q < 64) : bitN (layFrom u ps 0 0) q = mx u (placeOf ps q) := by
  unfold placeOf
  cases hf : ps.findIdx? (· == (q : Int)) with
  | none =>
    rw [List.findIdx?_eq_none_iff] at hf
    rw [lay_other ps 0 0 q hq (fun hm => by have := hf _ hm; simp at this)]
    simp [mx, bitN]
  | some j =>
    rw [List.findIdx?_eq_some_iff_getElem] at hf
    obtain ⟨hj, e, _⟩ := hf
    have e : ps[j] = (q : Int) := by simpa using e
    rw [lay_at ps 0 0 j q hq ho (by rw [List.getElem?_eq_getElem hj, e])]
    simp [mx]
theorem lay_maps : ∀ f : Nat, f < 15 → ∀ q : Nat, q < 64 → (layL f).filterMap (covers q) = placeOf (placesL f) q := by decide +kernel
theorem lay_eq (f : Nat) (hf : f < 15) (u : Nat) : layP f u = layN f u := by
  have hlt := orP_lt u (layL f) (layL_ok f hf).1
  have hl2 : ∀ (ps : List Int) (i w : Nat), w < 2 ^ 64 → layFrom u ps i w < 2 ^ 64 := fun ps => by
    induction ps with
    | nil => intro i w hw; exact hw
    | cons p ps ih =>
      intro i w hw
      refine ih (i + 1) _ ?_
      split
      · exact put_lt _ _ _ _
      · exact hw
  refine eq_bits (n := 64) (Nat.lt_trans hlt (by decide)) (hl2 _ 0 0 (by decide)) fun q hq => ?_
  unfold layP layN
  rw [orP_bit, lay_maps f hf q hq, layN_bit u _ (layL_ok f hf).2.2 q hq]
def bitAt (ps : List Int) (k : Nat) : List Nat := match ps[k]? with
  | some p => if 0 ≤ p then [p.toNat] else []
  | none => []
theorem immBits_at (w : Nat) (ps : List Int) (k : Nat) : bitN (ofL (immBits ps w)) k = mx w (bitAt ps k) := by
  rw [bit_ofL _ (fun b hb => by obtain ⟨p, _, rfl⟩ := List.mem_map.1 hb; split <;> first | exact bitN_lt _ _ | decide)]
  unfold immBits bitAt
  rw [List.getD_eq_getElem?_getD, List.getElem?_map]
  cases ps[k]? with
  | none => rfl
  | some p =>
    simp only [Option.map_some, Option.getD_some]
    split
    · simp [mx]
    · rfl
theorem imm_maps : ∀ f : Nat, f < 15 → ∀ k : Nat, k < 32 → (immL f).filterMap (covers k) = bitAt (placesL f) k := by decide +kernel
theorem imm_eq (f : Nat) (hf : f < 15) (w : Nat) : orP w (immL f) = ofL (immBits (placesL f) w) := by
  have h32 : (placesL f).length ≤ 32 := by
    have : ∀ f : Nat, f < 15 → (placesL f).length ≤ 32 := by decide
    exact this f hf
  refine eq_bits (n := 32) (orP_lt w (immL f) (layL_ok f hf).2.1) (Nat.lt_of_lt_of_le (immBits_lt _ _) (Nat.pow_le_pow_right (by decide) h32)) fun k hk => ?_
  rw [orP_bit, imm_maps f hf k hk, immBits_at]
end Go.Bits
