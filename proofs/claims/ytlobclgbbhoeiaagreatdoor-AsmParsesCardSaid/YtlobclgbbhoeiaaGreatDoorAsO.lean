/-
  Instructions as words: the document's places of a number's bits; numbers laid, and read (printed by a program).
-/
import Derived.Test.YtlobclgbbhoeiaaGreatDoorAsN
import Derived.Test.YtlobclgbbhoeiaaGreatDoorBitZ
import Derived.Test.YtlobclgbbhoeiaaGreatDoorLibV
namespace Go.Proofs.YtlobclgbbhoeiaaGreatDoor
set_option linter.unusedSimpArgs false
set_option linter.unusedVariables false
open Go Go.Mid Go.RowKit Go.Bits
attribute [local irreducible] mid
theorem Owns.lit {k h : Hp} {el n b : Nat} {cs : List Value} (hle : k.le h) (hk : k b = none) (hb : h b = some (rowO el cs)) (hl : cs.length = n) : Owns k h el 1 (.slice (some ⟨b, 0, none⟩) n n) n cs :=
  ⟨some b, ⟨by omega, .inr ⟨b, n, [], rfl, rfl, Nat.le_refl _, by simp, by rw [List.append_nil]; exact hb⟩⟩, hle, fun c e => by cases e; exact hk⟩
abbrev jv (n : Int) : Value := .int .i64 n
theorem map_succ {f : Nat → Int} (l : List Value) (i : Nat) : (l ++ (List.range (i + 1)).map fun k => jv (f k)) = (l ++ (List.range i).map fun k => jv (f k)) ++ [jv (f i)] := by
  rw [List.range_succ, List.map_append, List.append_assoc]; rfl
theorem fits_eq (f : Nat) (n : Int) : fitsN f n = Go.Bits.fits f n := by
  match f with
  | 0 | 1 | 2 | 3 | 4 | 5 | 6 | 7 | 8 => rfl
  | f + 9 => rfl
section
set_option maxHeartbeats 8000000
set_option maxRecDepth 10000
variable {h : Hp} {K : Value → Hp → Prop}
theorem infInt : Tryz.prog.info? 3 = some Tryz.prog.types[3] := by kernel_rfl
theorem places0_x (hk : ∀ sl h', Owns h h' 3 1 sl (placesL 0).length ((placesL 0).map jv) → K (.tuple #[sl, .bool (signedB 0)]) h') : X Tryz.prog 90 #[.string (bs [])] h K := by
  refine fnv (args := _) mixed [] [] [] Tryz.func90 rfl (by kernel_rfl) ?_; conv => whnf
  iterate 7 (refine seq_false (by decide) ?_; conv => whnf)
  exact hk _ _ (Owns.nil (Hp.le_refl _))
theorem places1_x (hk : ∀ sl h', Owns h h' 3 1 sl (placesL 1).length ((placesL 1).map jv) → K (.tuple #[sl, .bool (signedB 1)]) h') : X Tryz.prog 90 #[.string (bs [82])] h K := by
  refine fnv (args := _) mixed [] [] [] Tryz.func90 rfl (by kernel_rfl) ?_; conv => whnf
  iterate 7 (refine seq_false (by decide) ?_; conv => whnf)
  exact hk _ _ (Owns.nil (Hp.le_refl _))
theorem places2_x (hk : ∀ sl h', Owns h h' 3 1 sl (placesL 2).length ((placesL 2).map jv) → K (.tuple #[sl, .bool (signedB 2)]) h') : X Tryz.prog 90 #[.string (bs [73])] h K := by
  refine fnv (args := _) mixed [] [] [] Tryz.func90 rfl (by kernel_rfl) ?_; conv => whnf
  refine seq_true (rfl) ?_; conv => whnf
  refine loop_at [5, 4] [] (fun r vs _ h' => ∃ (i : Nat) (sl : Value), i ≤ 12 ∧ r = 12 - i ∧ vs = [.v (jv ((0 : Int) + i)), .v sl] ∧ Owns h h' 3 1 sl (0 + i) ([] ++ (List.range i).map (fun k => jv ((20 : Int) + (k : Nat))))) 12 ⟨0, _, by omega, rfl, rfl, Owns.nil (Hp.le_refl _)⟩ ?_
  rintro r vs cs mm bx h1 ⟨i, sl, hi, rfl, rfl, hO⟩
  obtain ⟨sa, sc, rfl⟩ := hO.shape
  conv => whnf
  refine bsel_intro (fun q1 => ?_) (fun q1 => ?_) <;> try simp only [bsL] at q1
  · conv => whnf
    (first | refine ov_c (by simp only [loK, hiK]; omega) ?_ | refine ov_c (by decide) ?_); conv => whnf
    refine new_intro (o := rowO 3 [_]) (fun y h2 n_y le_y at_y ot_y => ?_); conv => whnf
    refine Owns.app1 (z := .int .i64 0) (by kernel_rfl) infInt (by kernel_rfl) (by kernel_rfl) (by kernel_rfl) rfl (bytes := 8) (by decide) rfl rfl rfl (hO.up le_y) at_y rfl rfl (by omega) fun s3 h3 hO3 => ?_
    conv => whnf
    (first | refine ov_c (by simp only [loK, hiK]; omega) ?_ | refine ov_c (by decide) ?_); conv => whnf
    refine ⟨12 - (i + 1), by omega, i + 1, s3, by omega, rfl, by rw [show ((0 : Int) + ((i + 1 : Nat) : Int)) = 0 + (i : Int) + 1 by omega]; rfl, ?_⟩
    rw [map_succ (f := fun k => (20 : Int) + (k : Nat))]
    rw [show ((20 : Int) + (i : Nat)) = 20 + (0 + (i : Int)) by omega]
    exact hO3
  · obtain rfl : i = 12 := by omega
    conv => whnf
    exact hk _ _ hO
theorem places3_x (hk : ∀ sl h', Owns h h' 3 1 sl (placesL 3).length ((placesL 3).map jv) → K (.tuple #[sl, .bool (signedB 3)]) h') : X Tryz.prog 90 #[.string (bs [83])] h K := by
  refine fnv (args := _) mixed [] [] [] Tryz.func90 rfl (by kernel_rfl) ?_; conv => whnf
  refine seq_false ((by decide)) ?_; conv => whnf
  refine seq_true (rfl) ?_; conv => whnf
  refine loop_at [6, 4] [] (fun r vs _ h' => ∃ (i : Nat) (sl : Value), i ≤ 5 ∧ r = 5 - i ∧ vs = [.v (jv ((0 : Int) + i)), .v sl] ∧ Owns h h' 3 1 sl (0 + i) ([] ++ (List.range i).map (fun k => jv ((7 : Int) + (k : Nat))))) 5 ⟨0, _, by omega, rfl, rfl, Owns.nil (Hp.le_refl _)⟩ ?_
  rintro r vs cs mm bx h1 ⟨i, sl, hi, rfl, rfl, hO⟩
  obtain ⟨sa, sc, rfl⟩ := hO.shape
  conv => whnf
  refine bsel_intro (fun q1 => ?_) (fun q1 => ?_) <;> try simp only [bsL] at q1
  · conv => whnf
    (first | refine ov_c (by simp only [loK, hiK]; omega) ?_ | refine ov_c (by decide) ?_); conv => whnf
    refine new_intro (o := rowO 3 [_]) (fun y h2 n_y le_y at_y ot_y => ?_); conv => whnf
    refine Owns.app1 (z := .int .i64 0) (by kernel_rfl) infInt (by kernel_rfl) (by kernel_rfl) (by kernel_rfl) rfl (bytes := 8) (by decide) rfl rfl rfl (hO.up le_y) at_y rfl rfl (by omega) fun s3 h3 hO3 => ?_
    conv => whnf
    (first | refine ov_c (by simp only [loK, hiK]; omega) ?_ | refine ov_c (by decide) ?_); conv => whnf
    refine ⟨5 - (i + 1), by omega, i + 1, s3, by omega, rfl, by rw [show ((0 : Int) + ((i + 1 : Nat) : Int)) = 0 + (i : Int) + 1 by omega]; rfl, ?_⟩
    rw [map_succ (f := fun k => (7 : Int) + (k : Nat))]
    rw [show ((7 : Int) + (i : Nat)) = 7 + (0 + (i : Int)) by omega]
    exact hO3
  · obtain rfl : i = 5 := by omega
    conv => whnf
    refine loop_at [7, 4] [] (fun r vs _ h' => ∃ (i : Nat) (sl : Value), i ≤ 7 ∧ r = 7 - i ∧ vs = [.v (jv ((0 : Int) + i)), .v sl] ∧ Owns h h' 3 1 sl (5 + i) (((List.range 5).map fun k => jv ((7 : Int) + (k : Nat))) ++ (List.range i).map (fun k => jv ((25 : Int) + (k : Nat))))) 7 ⟨0, _, by omega, rfl, rfl, hO⟩ ?_
    rintro r vs cs mm bx h1 ⟨i, sl, hi, rfl, rfl, hO⟩
    obtain ⟨sa, sc, rfl⟩ := hO.shape
    conv => whnf
    refine bsel_intro (fun q1 => ?_) (fun q1 => ?_) <;> try simp only [bsL] at q1
    · conv => whnf
      (first | refine ov_c (by simp only [loK, hiK]; omega) ?_ | refine ov_c (by decide) ?_); conv => whnf
      refine new_intro (o := rowO 3 [_]) (fun y h2 n_y le_y at_y ot_y => ?_); conv => whnf
      refine Owns.app1 (z := .int .i64 0) (by kernel_rfl) infInt (by kernel_rfl) (by kernel_rfl) (by kernel_rfl) rfl (bytes := 8) (by decide) rfl rfl rfl (hO.up le_y) at_y rfl rfl (by omega) fun s3 h3 hO3 => ?_
      conv => whnf
      (first | refine ov_c (by simp only [loK, hiK]; omega) ?_ | refine ov_c (by decide) ?_); conv => whnf
      refine ⟨7 - (i + 1), by omega, i + 1, s3, by omega, rfl, by rw [show ((0 : Int) + ((i + 1 : Nat) : Int)) = 0 + (i : Int) + 1 by omega]; rfl, ?_⟩
      rw [map_succ (f := fun k => (25 : Int) + (k : Nat))]
      rw [show ((25 : Int) + (i : Nat)) = 25 + (0 + (i : Int)) by omega]
      exact hO3
    · obtain rfl : i = 7 := by omega
      conv => whnf
      exact hk _ _ hO
theorem places4_x (hk : ∀ sl h', Owns h h' 3 1 sl (placesL 4).length ((placesL 4).map jv) → K (.tuple #[sl, .bool (signedB 4)]) h') : X Tryz.prog 90 #[.string (bs [66])] h K := by
  refine fnv (args := _) mixed [] [] [] Tryz.func90 rfl (by kernel_rfl) ?_; conv => whnf
  iterate 2 (refine seq_false (by decide) ?_; conv => whnf)
  refine seq_true (rfl) ?_; conv => whnf
  refine new_intro (o := _) (fun y h2 n_y le_y at_y ot_y => ?_); conv => whnf
  refine hk _ _ (Owns.lit le_y n_y at_y rfl)
theorem places5_x (hk : ∀ sl h', Owns h h' 3 1 sl (placesL 5).length ((placesL 5).map jv) → K (.tuple #[sl, .bool (signedB 5)]) h') : X Tryz.prog 90 #[.string (bs [85])] h K := by
  refine fnv (args := _) mixed [] [] [] Tryz.func90 rfl (by kernel_rfl) ?_; conv => whnf
  iterate 3 (refine seq_false (by decide) ?_; conv => whnf)
  refine seq_true (rfl) ?_; conv => whnf
  refine loop_at [8, 4] [] (fun r vs _ h' => ∃ (i : Nat) (sl : Value), i ≤ 12 ∧ r = 12 - i ∧ vs = [.v (jv ((0 : Int) + i)), .v sl] ∧ Owns h h' 3 1 sl (0 + i) ([] ++ (List.range i).map (fun _ => jv (-1)))) 12 ⟨0, _, by omega, rfl, rfl, Owns.nil (Hp.le_refl _)⟩ ?_
  rintro r vs cs mm bx h1 ⟨i, sl, hi, rfl, rfl, hO⟩
  obtain ⟨sa, sc, rfl⟩ := hO.shape
  conv => whnf
  refine bsel_intro (fun q1 => ?_) (fun q1 => ?_) <;> try simp only [bsL] at q1
  · conv => whnf
    refine new_intro (o := rowO 3 [_]) (fun y h2 n_y le_y at_y ot_y => ?_); conv => whnf
    refine Owns.app1 (z := .int .i64 0) (by kernel_rfl) infInt (by kernel_rfl) (by kernel_rfl) (by kernel_rfl) rfl (bytes := 8) (by decide) rfl rfl rfl (hO.up le_y) at_y rfl rfl (by omega) fun s3 h3 hO3 => ?_
    conv => whnf
    (first | refine ov_c (by simp only [loK, hiK]; omega) ?_ | refine ov_c (by decide) ?_); conv => whnf
    refine ⟨12 - (i + 1), by omega, i + 1, s3, by omega, rfl, by rw [show ((0 : Int) + ((i + 1 : Nat) : Int)) = 0 + (i : Int) + 1 by omega]; rfl, ?_⟩
    rw [map_succ (f := fun _ => (-1 : Int))]
    exact hO3
  · obtain rfl : i = 12 := by omega
    conv => whnf
    refine loop_at [9, 4] [] (fun r vs _ h' => ∃ (i : Nat) (sl : Value), i ≤ 20 ∧ r = 20 - i ∧ vs = [.v (jv ((12 : Int) + i)), .v sl] ∧ Owns h h' 3 1 sl (12 + i) (((List.range 12).map fun _ => jv (-1)) ++ (List.range i).map (fun k => jv ((12 : Int) + (k : Nat))))) 20 ⟨0, _, by omega, rfl, rfl, hO⟩ ?_
    rintro r vs cs mm bx h1 ⟨i, sl, hi, rfl, rfl, hO⟩
    obtain ⟨sa, sc, rfl⟩ := hO.shape
    conv => whnf
    refine bsel_intro (fun q1 => ?_) (fun q1 => ?_) <;> try simp only [bsL] at q1
    · conv => whnf
      refine new_intro (o := rowO 3 [_]) (fun y h2 n_y le_y at_y ot_y => ?_); conv => whnf
      refine Owns.app1 (z := .int .i64 0) (by kernel_rfl) infInt (by kernel_rfl) (by kernel_rfl) (by kernel_rfl) rfl (bytes := 8) (by decide) rfl rfl rfl (hO.up le_y) at_y rfl rfl (by omega) fun s3 h3 hO3 => ?_
      conv => whnf
      (first | refine ov_c (by simp only [loK, hiK]; omega) ?_ | refine ov_c (by decide) ?_); conv => whnf
      refine ⟨20 - (i + 1), by omega, i + 1, s3, by omega, rfl, by rw [show ((12 : Int) + ((i + 1 : Nat) : Int)) = 12 + (i : Int) + 1 by omega]; rfl, ?_⟩
      rw [map_succ (f := fun k => (12 : Int) + (k : Nat))]
      skip
      exact hO3
    · obtain rfl : i = 20 := by omega
      conv => whnf
      exact hk _ _ hO
theorem places6_x (hk : ∀ sl h', Owns h h' 3 1 sl (placesL 6).length ((placesL 6).map jv) → K (.tuple #[sl, .bool (signedB 6)]) h') : X Tryz.prog 90 #[.string (bs [74])] h K := by
  refine fnv (args := _) mixed [] [] [] Tryz.func90 rfl (by kernel_rfl) ?_; conv => whnf
  iterate 4 (refine seq_false (by decide) ?_; conv => whnf)
  refine seq_true (rfl) ?_; conv => whnf
  refine new_intro (o := _) (fun y h2 n_y le_y at_y ot_y => ?_); conv => whnf
  refine hk _ _ (Owns.lit le_y n_y at_y rfl)
theorem places7_x (hk : ∀ sl h', Owns h h' 3 1 sl (placesL 7).length ((placesL 7).map jv) → K (.tuple #[sl, .bool (signedB 7)]) h') : X Tryz.prog 90 #[.string (bs [83, 104, 105, 102, 116])] h K := by
  refine fnv (args := _) mixed [] [] [] Tryz.func90 rfl (by kernel_rfl) ?_; conv => whnf
  iterate 5 (refine seq_false (by decide) ?_; conv => whnf)
  refine seq_true (rfl) ?_; conv => whnf
  refine new_intro (o := _) (fun y h2 n_y le_y at_y ot_y => ?_); conv => whnf
  refine hk _ _ (Owns.lit le_y n_y at_y rfl)
theorem places8_x (hk : ∀ sl h', Owns h h' 3 1 sl (placesL 8).length ((placesL 8).map jv) → K (.tuple #[sl, .bool (signedB 8)]) h') : X Tryz.prog 90 #[.string (bs [83, 104, 105, 102, 116, 87])] h K := by
  refine fnv (args := _) mixed [] [] [] Tryz.func90 rfl (by kernel_rfl) ?_; conv => whnf
  iterate 6 (refine seq_false (by decide) ?_; conv => whnf)
  refine seq_true (rfl) ?_; conv => whnf
  refine new_intro (o := _) (fun y h2 n_y le_y at_y ot_y => ?_); conv => whnf
  refine hk _ _ (Owns.lit le_y n_y at_y rfl)
theorem places9_x (hk : ∀ sl h', Owns h h' 3 1 sl (placesL 9).length ((placesL 9).map jv) → K (.tuple #[sl, .bool (signedB 9)]) h') : X Tryz.prog 90 #[.string (bs [67, 115, 114])] h K := by
  refine fnv (args := _) mixed [] [] [] Tryz.func90 rfl (by kernel_rfl) ?_; conv => whnf
  iterate 7 (refine seq_false (by decide) ?_; conv => whnf)
  exact hk _ _ (Owns.nil (Hp.le_refl _))
theorem places10_x (hk : ∀ sl h', Owns h h' 3 1 sl (placesL 10).length ((placesL 10).map jv) → K (.tuple #[sl, .bool (signedB 10)]) h') : X Tryz.prog 90 #[.string (bs [67, 115, 114, 73])] h K := by
  refine fnv (args := _) mixed [] [] [] Tryz.func90 rfl (by kernel_rfl) ?_; conv => whnf
  iterate 7 (refine seq_false (by decide) ?_; conv => whnf)
  exact hk _ _ (Owns.nil (Hp.le_refl _))
theorem places11_x (hk : ∀ sl h', Owns h h' 3 1 sl (placesL 11).length ((placesL 11).map jv) → K (.tuple #[sl, .bool (signedB 11)]) h') : X Tryz.prog 90 #[.string (bs [65])] h K := by
  refine fnv (args := _) mixed [] [] [] Tryz.func90 rfl (by kernel_rfl) ?_; conv => whnf
  iterate 7 (refine seq_false (by decide) ?_; conv => whnf)
  exact hk _ _ (Owns.nil (Hp.le_refl _))
theorem places12_x (hk : ∀ sl h', Owns h h' 3 1 sl (placesL 12).length ((placesL 12).map jv) → K (.tuple #[sl, .bool (signedB 12)]) h') : X Tryz.prog 90 #[.string (bs [76, 114])] h K := by
  refine fnv (args := _) mixed [] [] [] Tryz.func90 rfl (by kernel_rfl) ?_; conv => whnf
  iterate 7 (refine seq_false (by decide) ?_; conv => whnf)
  exact hk _ _ (Owns.nil (Hp.le_refl _))
theorem places13_x (hk : ∀ sl h', Owns h h' 3 1 sl (placesL 13).length ((placesL 13).map jv) → K (.tuple #[sl, .bool (signedB 13)]) h') : X Tryz.prog 90 #[.string (bs [66, 97, 114, 101])] h K := by
  refine fnv (args := _) mixed [] [] [] Tryz.func90 rfl (by kernel_rfl) ?_; conv => whnf
  iterate 7 (refine seq_false (by decide) ?_; conv => whnf)
  exact hk _ _ (Owns.nil (Hp.le_refl _))
theorem places14_x (hk : ∀ sl h', Owns h h' 3 1 sl (placesL 14).length ((placesL 14).map jv) → K (.tuple #[sl, .bool (signedB 14)]) h') : X Tryz.prog 90 #[.string (bs [83, 102, 101, 110, 99, 101])] h K := by
  refine fnv (args := _) mixed [] [] [] Tryz.func90 rfl (by kernel_rfl) ?_; conv => whnf
  iterate 7 (refine seq_false (by decide) ?_; conv => whnf)
  exact hk _ _ (Owns.nil (Hp.le_refl _))
theorem places_x (f : Nat) (hf : f < 15) (hk : ∀ sl h', Owns h h' 3 1 sl (placesL f).length ((placesL f).map jv) → K (.tuple #[sl, .bool (signedB f)]) h') : X Tryz.prog 90 #[.string (bs (fmtS.getD f []))] h K := by
  match f, hf, hk with
  | 0, _, hk => exact places0_x hk
  | 1, _, hk => exact places1_x hk
  | 2, _, hk => exact places2_x hk
  | 3, _, hk => exact places3_x hk
  | 4, _, hk => exact places4_x hk
  | 5, _, hk => exact places5_x hk
  | 6, _, hk => exact places6_x hk
  | 7, _, hk => exact places7_x hk
  | 8, _, hk => exact places8_x hk
  | 9, _, hk => exact places9_x hk
  | 10, _, hk => exact places10_x hk
  | 11, _, hk => exact places11_x hk
  | 12, _, hk => exact places12_x hk
  | 13, _, hk => exact places13_x hk
  | 14, _, hk => exact places14_x hk
  | f + 15, hf, _ => exact absurd hf (by omega)
theorem pl_lt : ∀ f : Nat, f < 15 → (placesL f).length ≤ 32 ∧ (∀ p ∈ placesL f, -1 ≤ p ∧ p ≤ 31) ∧ (signedB f = true → 1 ≤ (placesL f).length) := by decide
theorem wrap_u (n : Int) : IntKind.u64.wrap n = (u64N n : Nat) := by
  unfold u64N
  rw [wrap_u64]; omega
theorem wrap_i (w : Nat) (hw : w < 2 ^ 64) : IntKind.i64.wrap (w : Int) = i64N w := by
  unfold i64N
  rw [IntKind.wrap_i64]
  split <;> omega
theorem u64N_lt (n : Int) : u64N n < 2 ^ 64 := by unfold u64N; omega
theorem rimm_x (f : Nat) (hf : f < 15) (w : Nat) (hw : w < 2 ^ 64) (hk : K (jv (i64N (immN f w))) h) : X Tryz.prog 57 #[.string (bs (fmtS.getD f [])), uv w] h K := by
  refine X.forget ?_
  obtain ⟨p1, p2, p3⟩ := pl_lt f hf
  have hd : immN f w = if signedB f = true then signN (ofL (immBits (placesL f) w)) (placesL f).length else ofL (immBits (placesL f) w) := rfl
  rw [hd] at hk
  have hlt := immBits_lt (placesL f) w
  have h32 : 2 ^ (placesL f).length ≤ 2 ^ 32 := Nat.pow_le_pow_right (by decide) p1
  have hlen : (immBits (placesL f) w).length = (placesL f).length := List.length_map _
  have hb1 : ∀ x ∈ immBits (placesL f) w, x < 2 := fun x hx => by
    obtain ⟨p, _, rfl⟩ := List.mem_map.1 hx
    split
    · exact bitN_lt _ _
    · decide
  refine fnv (args := _) mixed [] [] [] Tryz.func57 rfl (by kernel_rfl) ?_; conv => whnf
  refine places_x f hf fun pl h1 hP => ?_
  obtain ⟨pa, pc, rfl⟩ := hP.shape
  generalize placesL f = ps at *
  generalize signedB f = sg at *
  conv => whnf
  refine loop_at [8, 7] [] (fun r vs _ h' => ∃ (i : Nat) (sl : Value), i ≤ ps.length ∧ r = ps.length - i ∧ vs = [.v (.int .i64 i), .v sl] ∧ Owns h1 h' 41 1 sl i ((immBits (ps.take i) w).map uv)) ps.length
    ⟨0, .slice none 0 0, by omega, rfl, rfl, Owns.nil (Hp.le_refl _)⟩ ?_
  rintro r vs cs mm bx h2 ⟨i, sl, hi, rfl, rfl, hO⟩
  obtain ⟨sa, sc, rfl⟩ := hO.shape
  conv => whnf
  refine bsel_intro (fun q1 => ?_) (fun q1 => ?_) <;> try simp only [bsL] at q1
  · have hi2 : i < ps.length := by omega
    obtain ⟨p, hp⟩ : ∃ p, ps[i]? = some p := ⟨_, List.getElem?_eq_getElem hi2⟩
    obtain ⟨b, cap, rest, e0, hc, hb, _⟩ := (hP.up hO.le).row (by omega)
    obtain ⟨rfl, rfl⟩ : pa = some ⟨b, 0, none⟩ ∧ pc = cap := by injection e0 with e1 e2 e3; exact ⟨e1, e3⟩
    have hcell : (ps.map jv ++ rest)[i]? = some (jv p) := by
      rw [List.getElem?_append_left (by simpa using hi2), List.getElem?_map, hp]; rfl
    have hpb := p2 p (List.mem_of_getElem? hp)
    have ht : immBits (ps.take (i + 1)) w = immBits (ps.take i) w ++ [if 0 ≤ p then bitN w p.toNat else 0] := by
      unfold immBits
      rw [List.take_add_one, hp, List.map_append]; rfl
    conv => whnf
    (first | refine need_intro (⟨by omega, by omega⟩) ?_ | refine must.mk (⟨by omega, by omega⟩) ?_); conv => whnf
    refine ⟨_, loadI aggIn hb (j := i) rfl hcell, ?_⟩; conv => whnf
    refine rbit_x w p hw (by omega) ?_
    conv => whnf
    refine new_intro (o := rowO 41 [uv (if 0 ≤ p then bitN w p.toNat else 0)]) (fun y h3 n_y le_y at_y ot_y => ?_); conv => whnf
    refine Owns.app1 (z := .int .u64 0) (by kernel_rfl) infU64 (by kernel_rfl) (by kernel_rfl) (by kernel_rfl) rfl (bytes := 8) (by decide) rfl rfl rfl (hO.up le_y) at_y rfl rfl (by omega) fun s3 h4 hO3 => ?_
    conv => whnf
    (first | refine ov_c (by simp only [loK, hiK]; omega) ?_ | refine ov_c (by decide) ?_); conv => whnf
    refine ⟨ps.length - (i + 1), by omega, i + 1, s3, by omega, rfl, rfl, ?_⟩
    rw [ht, List.map_append]
    exact hO3
  · obtain rfl : i = ps.length := by omega
    rw [List.take_length] at hO
    have hle : h.le h2 := Hp.le_trans hP.le hO.le
    conv => whnf
    refine rof_x (l := immBits ps w) (by rw [hlen]; exact hO) (by omega) hb1 ?_
    cases sg with
    | true =>
      rw [if_pos rfl] at hk
      conv => whnf
      refine rsign_x (ofL (immBits ps w)) ps.length (by omega) (p3 rfl) (by omega) ?_
      conv => whnf
      refine ov_by (wrap_i _ (sign_lt _ _)) ?_
      conv => whnf
      exact ⟨h, hle, hk⟩
    | false =>
      rw [if_neg (by decide)] at hk
      conv => whnf
      refine ov_by (wrap_i _ (by omega)) ?_
      conv => whnf
      exact ⟨h, hle, hk⟩
theorem layFrom_lt (u : Nat) : ∀ (ps : List Int) (i w : Nat), w < 2 ^ 64 → layFrom u ps i w < 2 ^ 64
  | [], _, _, hw => hw
  | p :: ps, i, w, hw => layFrom_lt u ps (i + 1) _ (by split <;> first | exact put_lt _ _ _ _ | exact hw)
theorem rlay_x (f : Nat) (hf : f < 15) (n : Int) (hk : K (uv (layN f (u64N n))) h) : X Tryz.prog 68 #[.string (bs (fmtS.getD f [])), jv n] h K := by
  refine X.forget ?_
  obtain ⟨p1, p2, _⟩ := pl_lt f hf
  unfold layN at hk
  have hu := u64N_lt n
  have hw := wrap_u n
  generalize u64N n = u at *
  refine fnv (args := _) mixed [] [] [29] Tryz.func68 rfl (by kernel_rfl) ?_; conv => whnf
  refine places_x f hf fun pl h1 hP => ?_
  obtain ⟨pa, pc, rfl⟩ := hP.shape
  have hle := hP.le
  generalize placesL f = ps at *
  conv => whnf
  refine loop_at [8, 7] [] (fun r vs _ h' => h1 = h' ∧ ∃ (i w : Nat), i ≤ ps.length ∧ r = ps.length - i ∧ vs = [.v (.int .i64 i), .v (uv w)] ∧ w < 2 ^ 64 ∧ layFrom u (ps.drop i) i w = layFrom u ps 0 0) ps.length
    ⟨rfl, 0, 0, by omega, rfl, rfl, by decide, rfl⟩ ?_
  rintro r vs cs mm bx _ ⟨rfl, i, w, hi, rfl, rfl, hw64, hR⟩
  conv => whnf
  refine bsel_intro (fun q1 => ?_) (fun q1 => ?_) <;> try simp only [bsL] at q1
  · have hi2 : i < ps.length := by omega
    obtain ⟨p, hp⟩ : ∃ p, ps[i]? = some p := ⟨_, List.getElem?_eq_getElem hi2⟩
    obtain ⟨b, cap, rest, e0, hc, hb, _⟩ := hP.row (by omega)
    obtain ⟨rfl, rfl⟩ : pa = some ⟨b, 0, none⟩ ∧ pc = cap := by injection e0 with e1 e2 e3; exact ⟨e1, e3⟩
    have hcell : (ps.map jv ++ rest)[i]? = some (jv p) := by
      rw [List.getElem?_append_left (by simpa using hi2), List.getElem?_map, hp]; rfl
    have hpb := p2 p (List.mem_of_getElem? hp)
    have hd : ps.drop i = p :: ps.drop (i + 1) := by
      rw [List.drop_eq_getElem_cons hi2]
      congr 1
      exact (List.getElem?_eq_some_iff.1 hp).2
    rw [hd] at hR
    have hR : layFrom u (ps.drop (i + 1)) (i + 1) (if 0 ≤ p then putN w p.toNat 1 (bitN u i) else w) = layFrom u ps 0 0 := hR
    conv => whnf
    (first | refine need_intro (⟨by omega, by omega⟩) ?_ | refine must.mk (⟨by omega, by omega⟩) ?_); conv => whnf
    refine ⟨_, loadI aggIn hb (j := i) rfl hcell, ?_⟩; conv => whnf
    refine bsel_intro (fun q2 => ?_) (fun q2 => ?_) <;> try simp only [bsL] at q2
    · rw [if_pos q2] at hR
      obtain ⟨pn, rfl⟩ : ∃ pn : Nat, p = pn := ⟨p.toNat, by omega⟩
      rw [Int.toNat_natCast] at hR
      conv => whnf
      refine ⟨fun h' => h' = h1, rfl, ?_⟩
      conv => whnf
      (first | refine need_intro (⟨by omega, by omega⟩) ?_ | refine must.mk (⟨by omega, by omega⟩) ?_); conv => whnf
      refine ⟨jv pn, fun h' e => by rw [e]; exact loadI aggIn hb (j := i) rfl hcell, ?_⟩
      conv => whnf
      refine ov_by hw ?_
      conv => whnf
      refine rbit_x u i hu (by omega) ?_
      rw [if_pos (by omega), Int.toNat_natCast]
      refine ⟨rfl, ?_⟩
      conv => whnf
      refine rput_x w pn 1 (bitN u i) hw64 (Nat.lt_trans (bitN_lt _ _) (by decide)) (by omega) (by omega) ?_
      refine ⟨rfl, ?_⟩
      conv => whnf
      (first | refine ov_c (by simp only [loK, hiK]; omega) ?_ | refine ov_c (by decide) ?_); conv => whnf
      refine ⟨ps.length - (i + 1), by omega, rfl, i + 1, _, by omega, rfl, rfl, put_lt _ _ _ _, hR⟩
    · rw [if_neg q2] at hR
      conv => whnf
      (first | refine ov_c (by simp only [loK, hiK]; omega) ?_ | refine ov_c (by decide) ?_); conv => whnf
      refine ⟨ps.length - (i + 1), by omega, rfl, i + 1, _, by omega, rfl, rfl, hw64, hR⟩
  · obtain rfl : i = ps.length := by omega
    rw [List.drop_length] at hR
    have hR : w = layFrom u ps 0 0 := hR
    subst hR
    conv => whnf
    exact ⟨h, hle, hk⟩
end
end Go.Proofs.YtlobclgbbhoeiaaGreatDoor
