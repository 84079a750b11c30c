/-
  The chapter's examples, and the walk of FairTells.
-/
import Derived.Test.YtnlbgcfobfklpaaFair7
namespace Go.Proofs.Ytnlbgcfobfklpaa
open Go Go.Mid Go.RowKit
attribute [local irreducible] X MLoop mid
set_option maxHeartbeats 4000000 in
set_option maxRecDepth 10000 in
theorem live_x (h : Hp) (K : Value → Hp → Prop) (hk : K (.bool true) h) : X Try.prog 5 #[] h K := by
  refine X.forget ?_
  refine fnv (args := []) mixed [] [] [] Try.func5 rfl (by kernel_rfl) ?_
  conv => whnf
  intro b hb
  conv => whnf
  have hle : h.le (h.set b (rowO 5 ([0, 0, 0].map (.int .u8)))) := Hp.le_set hb
  refine make_x (some ⟨b, 0, none⟩) 3 [0, 0, 0] 2 2 (h.set b (rowO 5 ([0, 0, 0].map (.int .u8)))) _ (by decide) (by decide) (fun i r hi => ⟨_, rfl, ?_⟩) (fun hh => by omega) (fun _ _ _ s h1 hle1 hr1 => ?_)
  · rw [addr_add, Nat.zero_add]
    refine cell_row (el := 5) (l := [0, 0, 0].map (.int .u8)) (Hp.set_same _ _ _) ?_
    simp only [List.getElem?_map, hi, Option.map_some]
  have hp : picksL 2 (List.replicate (2 : Int).toNat 0) [0, 0, 0] = [0, 1, 0] := by decide
  rw [hp] at hr1
  conv => whnf
  refine bound_x 1 1 1 1 [1, 0, 0, 0, 0, 0, 0, 0] 1 _ _ rfl ?_
  have hb2 : boundL 1 1 1 1 [1, 0, 0, 0, 0, 0, 0, 0] 1 = (1723, 0) := by decide
  rw [hb2]
  conv => whnf
  intro c hc
  conv => whnf
  have hle2 : h1.le (h1.set c (rowO 3 (iv [0, 1, 0]))) := Hp.le_set hc
  refine ints_x s (.slice (some ⟨c, 0, none⟩) 3 3) [0, 1, 0] [0, 1, 0] (h1.set c (rowO 3 (iv [0, 1, 0]))) _ (by decide) (by decide) (hr1.le hle2) (Rd.row (l := iv [0, 1, 0]) (r := []) agg3 (Hp.set_same _ _ _)) ?_
  conv => whnf
  exact ⟨h, Hp.le_trans hle (Hp.le_trans hle1 hle2), hk⟩
theorem gone_ge (l : List Int) (h : Int) : ∀ (j k : Nat), j ≤ l.length → (k ≤ gone h (l.take j) ↔ (k ≤ j ∧ ∀ i, j ≤ i + k → i < j → l.getD i 0 ≠ h))
  | 0, k, _ => by
    have : gone h (l.take 0) = 0 := by simp [gone]
    rw [this]
    constructor
    · intro hk; exact ⟨hk, fun i _ hi => by omega⟩
    · intro hk; exact hk.1
  | j + 1, k, hj => by
    rw [gone_snoc h l j (by omega)]
    split
    · rename_i he
      constructor
      · intro hk; exact ⟨by omega, fun i h1 h2 => by omega⟩
      · rintro ⟨h1, h2⟩
        by_cases hk : k = 0
        · omega
        · exact absurd he (h2 j (by omega) (by omega))
    · rename_i he
      cases k with
      | zero => exact ⟨fun _ => ⟨by omega, fun i h1 h2 => by omega⟩, fun _ => by omega⟩
      | succ k =>
        have ih := gone_ge l h j k (by omega)
        constructor
        · intro hk
          obtain ⟨h1, h2⟩ := ih.1 (by omega)
          refine ⟨by omega, fun i h3 h4 => ?_⟩
          by_cases hi : i = j
          · subst hi; exact he
          · exact h2 i (by omega) (by omega)
        · rintro ⟨h1, h2⟩
          have := ih.2 ⟨by omega, fun i h3 h4 => h2 i (by omega) (by omega)⟩
          omega
/-- Whether picks are fair: the program's answer and the document's are the same. -/
theorem fair_same (l : List Int) (n k : Int) (hk : 1 ≤ k) : okUpto l k n.toNat ↔ okWin l n.toNat k.toNat ((l.length : Int) - k + 1).toNat := by
  constructor
  · intro hu a ha h hh
    have h1 := hu h hh (a + k.toNat) (by omega)
    have h2 := gone_ge l h (a + k.toNat) k.toNat (by omega)
    have h3 : ¬ k.toNat ≤ gone h (l.take (a + k.toNat)) := by omega
    rw [h2] at h3
    refine Classical.byContradiction fun hno => h3 ⟨by omega, fun i h4 h5 he => hno ⟨i, by omega, by omega, he⟩⟩
  · intro hw m hm j hj
    refine Classical.byContradiction fun hno => ?_
    obtain ⟨h1, h2⟩ := (gone_ge l m j k.toNat hj).1 (by omega)
    obtain ⟨i, h3, h4, h5⟩ := hw (j - k.toNat) (by omega) m hm
    exact h2 i (by omega) (by omega) h5
set_option maxHeartbeats 4000000 in
set_option maxRecDepth 10000 in
/-- FairTells. -/
theorem tells_x (base : Option Addr) (l : List Int) (cap : Nat) (n k : Int) (h : Hp) (K : Value → Hp → Prop) (hmax : (l.length : Int) ≤ 9223372036854775807) (hkb : k ≤ 9223372036854775807)
    (hc : ∀ i, i < l.length → ∃ a, base = some a ∧ h.cell? (a.add i) = some (.int .i64 (l.getD i 0))) (hk : K (.bool true) h) :
    X Try.prog 3 #[.slice base l.length cap, .int .i64 n, .int .i64 k] h K := by
  refine fnv (args := [.slice base l.length cap, .int .i64 n, .int .i64 k]) mixed [] [] [] Try.func3 rfl (by kernel_rfl) ?_
  conv => whnf
  refine bsel_intro (fun h1 => ?_) (fun h1 => ?_) <;> simp only [decide_eq_true_eq, decide_eq_false_iff_not] at h1
  · conv => whnf
    refine live_x _ _ ?_
    conv => whnf
    exact hk
  · conv => whnf
    refine fair_x base l cap n k h _ (by omega) hc fun b1 hb1 => ?_
    conv => whnf
    refine rfair_x base l cap n k h _ (by omega) hkb hc fun b2 hb2 => ?_
    have hb : b1 = b2 := by
      have : b1 = true ↔ b2 = true := by
        rw [hb1, hb2]
        constructor
        · rintro ⟨q1, q2, q3, q4⟩; exact ⟨q1, q2, q3, (fair_same l n k q3).1 q4⟩
        · rintro ⟨q1, q2, q3, q4⟩; exact ⟨q1, q2, q3, (fair_same l n k q3).2 q4⟩
      cases b1 <;> cases b2 <;> simp_all
    subst hb
    cases b1
    · conv => whnf
      refine live_x _ _ ?_
      conv => whnf
      exact hk
    · conv => whnf
      refine live_x _ _ ?_
      conv => whnf
      exact hk
theorem tells_law (base : Option Addr) (l : List Int) (cap : Nat) (n k : Int) (w : World) (hmax : (l.length : Int) ≤ 9223372036854775807) (hkb : k ≤ 9223372036854775807)
    (hc : ∀ i, i < l.length → ∃ a, base = some a ∧ w.cell? (a.add i) = some (.int .i64 (l.getD i 0))) :
    Calls Try.prog 3 #[.slice base l.length cap, .int .i64 n, .int .i64 k] w fun e w' => e = .returned (.bool true) ∧ Below w.heap.size w w' := by
  refine X.law (tells_x base l cap n k (whole w) _ hmax hkb (fun i hi => ?_) ⟨rfl, Hp.le_refl _⟩)
  obtain ⟨a, e1, e2⟩ := hc i hi
  exact ⟨a, e1, e2⟩
end Go.Proofs.Ytnlbgcfobfklpaa
