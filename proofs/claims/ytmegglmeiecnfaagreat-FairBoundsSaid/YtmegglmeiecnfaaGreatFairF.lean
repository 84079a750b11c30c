/-
  How many picks a machine needs at most: the document's answer.
-/
import Derived.Test.YtmegglmeiecnfaaGreatFair8
namespace Go.Proofs.YtmegglmeiecnfaaGreat
open Go Go.Mid Go.RowKit
attribute [local irreducible] X MLoop mid
set_option maxHeartbeats 4000000 in
set_option maxRecDepth 10000 in
theorem rright_x (a b c d : Int) (h : Hp) (K : Value → Hp → Prop) (hk : K (.bool (decide (rightP a b c d))) h) : X Tryz.prog 10 #[confV a b c d] h K := by
  refine fnv (args := [confV a b c d]) mixed [(1, 1), (3, 1), (7, 1), (12, 1), (17, 1), (22, 1), (27, 1), (32, 1), (37, 1)] [] [] Tryz.func10 rfl (by kernel_rfl) ?_
  have no : ¬ rightP a b c d → K (.bool false) h := fun e => by rw [decide_eq_false e] at hk; exact hk
  conv => whnf
  refine bsel_intro (fun h1 => ?_) (fun h1 => ?_) <;> simp only [decide_eq_true_eq, decide_eq_false_iff_not] at h1 <;> conv => whnf
  case _ =>
    refine bsel_intro (fun h2 => ?_) (fun h2 => ?_) <;> simp only [decide_eq_true_eq, decide_eq_false_iff_not] at h2 <;> conv => whnf
    case _ =>
      refine bsel_intro (fun h3 => ?_) (fun h3 => ?_) <;> simp only [decide_eq_true_eq, decide_eq_false_iff_not] at h3 <;> conv => whnf
      case _ =>
        refine bsel_intro (fun h4 => ?_) (fun h4 => ?_) <;> simp only [decide_eq_true_eq, decide_eq_false_iff_not] at h4 <;> conv => whnf
        case _ =>
          refine bsel_intro (fun h5 => ?_) (fun h5 => ?_) <;> simp only [decide_eq_true_eq, decide_eq_false_iff_not] at h5 <;> conv => whnf
          case _ =>
            refine bsel_intro (fun h6 => ?_) (fun h6 => ?_) <;> simp only [decide_eq_true_eq, decide_eq_false_iff_not] at h6 <;> conv => whnf
            case _ =>
              refine bsel_intro (fun h7 => ?_) (fun h7 => ?_) <;> simp only [decide_eq_true_eq, decide_eq_false_iff_not] at h7 <;> conv => whnf
              case _ =>
                have : rightP a b c d ↔ d < 33 := by unfold rightP; omega
                simp only [this] at hk
                exact hk
              case _ => exact no (by unfold rightP; omega)
            case _ => exact no (by unfold rightP; omega)
          case _ => exact no (by unfold rightP; omega)
        case _ => exact no (by unfold rightP; omega)
      case _ => exact no (by unfold rightP; omega)
    case _ => exact no (by unfold rightP; omega)
  case _ => exact no (by unfold rightP; omega)
set_option maxHeartbeats 4000000 in
set_option maxRecDepth 10000 in
theorem rw_x : ∀ (n : Nat) (h : Hp) (K : Value → Hp → Prop), n ≤ 7 → K (.int .i64 (waitL n)) h → X Tryz.prog 11 #[.int .i64 n] h K
  | 0, h, K, _, hk => by
    refine fnv (args := [.int .i64 ((0 : Nat) : Int)]) mixed [] [] [] Tryz.func11 rfl (by kernel_rfl) ?_
    conv => whnf
    exact hk
  | n + 1, h, K, hn, hk => by
    refine fnv (args := [.int .i64 ((n + 1 : Nat) : Int)]) mixed [] [] [] Tryz.func11 rfl (by kernel_rfl) ?_
    generalize hm : ((n + 1 : Nat) : Int) = m
    conv => whnf
    refine bsel_intro (fun h1 => ?_) (fun h1 => ?_) <;> simp at h1
    · omega
    conv => whnf
    have hwa : IntKind.i64.wrap (m - 1) = (n : Int) := by rw [IntWalk.i64_in _ (by omega)]; omega
    rw [hwa]
    refine rw_x n h _ (by omega) ?_
    conv => whnf
    have h3 := waitL_le n (by omega)
    have h4 := waitL_step n (by omega)
    have hm' : m = (n : Int) + 1 := by omega
    subst hm'
    show K (.int .i64 (IntKind.i64.wrap (((n : Int) + 1) * IntKind.i64.wrap (waitL n + 6)))) h
    rw [IntWalk.i64_in (waitL n + 6) (by omega), IntWalk.i64_in (((n : Int) + 1) * (waitL n + 6)) (by omega)]
    exact hk
set_option maxHeartbeats 4000000 in
set_option maxRecDepth 10000 in
theorem rbound_x (a b c d : Int) (bs : List Int) (k : Int) (h : Hp) (K : Value → Hp → Prop) (hbs : bs.length = 8)
    (hk : K (.tuple #[.int .i64 (boundL a b c d bs k).1, .int .i64 (boundL a b c d bs k).2]) h) : X Tryz.prog 5 #[confV a b c d, .agg (iv bs).toArray, .int .i64 k] h K := by
  refine fnv (args := [confV a b c d, .agg (iv bs).toArray, .int .i64 k]) mixed [(3, 3), (16, 3), (37, 3), (44, 3), (51, 3), (4, 4), (22, 4), (27, 4), (33, 4)] [11] [] Tryz.func5 rfl (by kernel_rfl) ?_
  conv => whnf
  refine rright_x a b c d _ _ ?_
  conv => whnf
  unfold boundL at hk
  by_cases hr : rightP a b c d
  case neg =>
    rw [decide_eq_false hr]
    rw [if_neg hr] at hk
    conv => whnf
    exact hk
  rw [decide_eq_true hr]
  rw [if_pos hr] at hk
  obtain ⟨⟨ha1, ha8⟩, _⟩ := hr
  have hlt : (bs.take a.toNat).length = a.toNat := by rw [List.length_take]; omega
  conv => whnf
  refine loop_at [9, 8] [3, 4] (fun r vs cs h' => h = h' ∧ ∃ (j : Nat) (t : Int), j ≤ a.toNat ∧ r = a.toNat - j ∧ vs = [.v (.int .i64 j), .v (.int .i64 t)] ∧ cs = [some [.int .i64 a, .int .i64 b, .int .i64 c, .int .i64 d], some (iv bs)] ∧ turnsL ((bs.take a.toNat).take j) = some t) a.toNat ⟨rfl, 0, 0, by omega, by omega, rfl, rfl, rfl⟩ ?_
  rintro r vs cs mm bx _ ⟨rfl, j, t, hj, rfl, rfl, rfl, htu⟩
  have htb := turnsL_le _ _ htu
  rw [List.length_take, hlt] at htb
  conv => whnf
  refine bsel_intro (fun h1 => ?_) (fun h1 => ?_) <;> simp only [decide_eq_true_eq, decide_eq_false_iff_not] at h1
  case _ =>
    have hj8 : j < bs.length := by omega
    have hjt : j < (bs.take a.toNat).length := by omega
    have hsn := turnsL_snoc ((bs.take a.toNat).take j) (bs.take a.toNat)[j]
    rw [← List.take_succ_eq_append_getElem hjt, htu, List.getElem_take] at hsn
    simp only at hsn
    have hbad : (bs[j] < 0 ∨ 1000 < bs[j]) → K (.tuple #[.int .i64 0, .int .i64 3]) h := by
      intro hb
      rw [if_pos hb] at hsn
      have : turnsL (bs.take a.toNat) = none := by
        rw [← List.take_append_drop (j + 1) (bs.take a.toNat)]
        exact turnsL_none _ _ hsn
      rw [this] at hk
      exact hk
    have hivl : (iv bs).length = 8 := by simp [iv, hbs]
    have hget : ∀ q : Nat, q = j → (iv bs).getD q undef = .int .i64 bs[j] := by
      rintro q rfl
      simp [iv, List.getD_eq_getElem?_getD, hj8]
    conv => whnf
    refine need_intro ⟨by omega, by omega⟩ ?_
    conv => whnf
    refine need_intro (by show 0 + (j : Int).toNat * 1 < (iv bs).length; rw [hivl]; omega) ?_
    rw [hget _ (by show 0 + (j : Int).toNat * 1 = j; omega)]
    conv => whnf
    refine bsel_intro (fun h2 => ?_) (fun h2 => ?_) <;> simp only [decide_eq_true_eq, decide_eq_false_iff_not] at h2
    case _ =>
      conv => whnf
      exact hbad (.inl h2)
    conv => whnf
    refine need_intro ⟨by omega, by omega⟩ ?_
    conv => whnf
    refine need_intro (by show 0 + (j : Int).toNat * 1 < (iv bs).length; rw [hivl]; omega) ?_
    rw [hget _ (by show 0 + (j : Int).toNat * 1 = j; omega)]
    conv => whnf
    refine bsel_intro (fun h3 => ?_) (fun h3 => ?_) <;> simp only [decide_eq_true_eq, decide_eq_false_iff_not] at h3
    case _ =>
      conv => whnf
      exact hbad (.inr h3)
    conv => whnf
    refine need_intro ⟨by omega, by omega⟩ ?_
    conv => whnf
    refine need_intro (by show 0 + (j : Int).toNat * 1 < (iv bs).length; rw [hivl]; omega) ?_
    rw [hget _ (by show 0 + (j : Int).toNat * 1 = j; omega)]
    conv => whnf
    rw [if_neg (by omega)] at hsn
    refine ⟨a.toNat - (j + 1), by omega, rfl, j + 1, t + bs[j], by omega, rfl, ?_, rfl, hsn⟩
    show [MV.v (.int .i64 (IntKind.i64.wrap (j + 1))), MV.v (.int .i64 (IntKind.i64.wrap (t + bs[j])))] = _
    rw [IntWalk.i64_in ((j : Int) + 1) (by omega), IntWalk.i64_in (t + bs[j]) (by omega)]; rfl
  obtain rfl : j = a.toNat := by omega
  rw [show ((bs.take a.toNat).take a.toNat) = bs.take a.toNat by rw [List.take_take, Nat.min_self]] at htu
  rw [htu] at hk
  simp only at hk
  conv => whnf
  refine bsel_intro (fun h2 => ?_) (fun h2 => ?_) <;> simp only [decide_eq_true_eq, decide_eq_false_iff_not] at h2
  case _ =>
    conv => whnf
    rw [if_pos (.inl h2)] at hk
    exact hk
  conv => whnf
  refine bsel_intro (fun h3 => ?_) (fun h3 => ?_) <;> simp only [decide_eq_true_eq, decide_eq_false_iff_not] at h3
  case _ =>
    conv => whnf
    rw [if_pos (.inr h3)] at hk
    exact hk
  conv => whnf
  rw [if_neg (by omega)] at hk
  have hwa : IntKind.i64.wrap (a - 1) = ((a.toNat - 1 : Nat) : Int) := by rw [IntWalk.i64_in _ (by omega)]; omega
  rw [hwa]
  refine rw_x (a.toNat - 1) _ _ (by omega) ?_
  have hW := waitL_le (a.toNat - 1) (by omega)
  generalize waitL (a.toNat - 1) = W at *
  have ht : 0 ≤ t ∧ t ≤ 8000 := by omega
  have hB : 0 ≤ t * (24 + 16 * a) ∧ t * (24 + 16 * a) ≤ 8000 * 152 := ⟨Int.mul_nonneg ht.1 (by omega), Int.mul_le_mul ht.2 (by omega) (by omega) (by omega)⟩
  have hC : 0 ≤ 6 * (2 * W + 7) * (t * (24 + 16 * a) + 1) ∧ 6 * (2 * W + 7) * (t * (24 + 16 * a) + 1) ≤ 986370 * 1216001 := ⟨Int.mul_nonneg (by omega) (by omega), Int.mul_le_mul (by omega) (by omega) (by omega) (by omega)⟩
  have hD : 0 ≤ k * (1 + 6 * (2 * W + 7) * (t * (24 + 16 * a) + 1)) ∧ k * (1 + 6 * (2 * W + 7) * (t * (24 + 16 * a) + 1)) ≤ 1000 * 1199430000000 := ⟨Int.mul_nonneg (by omega) (by omega), Int.mul_le_mul (by omega) (by omega) (by omega) (by omega)⟩
  conv => whnf
  show K (.tuple #[.int .i64 (IntKind.i64.wrap (k * IntKind.i64.wrap (1 + IntKind.i64.wrap (IntKind.i64.wrap (6 * IntKind.i64.wrap (IntKind.i64.wrap (2 * W) + 7)) * IntKind.i64.wrap (IntKind.i64.wrap (t * IntKind.i64.wrap (24 + IntKind.i64.wrap (16 * a))) + 1))))), .int .i64 0]) h
  rw [IntWalk.i64_in (2 * W) (by omega), IntWalk.i64_in (2 * W + 7) (by omega), IntWalk.i64_in (6 * (2 * W + 7)) (by omega), IntWalk.i64_in (16 * a) (by omega), IntWalk.i64_in (24 + 16 * a) (by omega), IntWalk.i64_in (t * (24 + 16 * a)) (by omega),
    IntWalk.i64_in (t * (24 + 16 * a) + 1) (by omega), IntWalk.i64_in (6 * (2 * W + 7) * (t * (24 + 16 * a) + 1)) (by omega), IntWalk.i64_in (1 + 6 * (2 * W + 7) * (t * (24 + 16 * a) + 1)) (by omega), IntWalk.i64_in _ (by omega)]
  exact hk
end Go.Proofs.YtmegglmeiecnfaaGreat
