/-
  FairBounds: the walk.
-/
import Derived.Test.YtmegglmeiecnfaaGreatFairF
import Derived.Test.YtmegglmeiecnfaaGreatMidR
namespace Go.Proofs.YtmegglmeiecnfaaGreat
open Go Go.Mid Go.RowKit
attribute [local irreducible] X MLoop mid
set_option maxHeartbeats 4000000 in
set_option maxRecDepth 10000 in
theorem conf_x (h : Hp) (K : Value → Hp → Prop) (hk : K (confV 0 0 0 0) h) : X Tryz.prog 13 #[.pointer none] h K := by
  refine fnv (args := [.pointer none]) mixed [(2, 2)] [] [] Tryz.func13 rfl (by kernel_rfl) ?_
  conv => whnf
  exact hk
set_option maxHeartbeats 4000000 in
set_option maxRecDepth 10000 in
theorem done_x (h : Hp) (K : Value → Hp → Prop) (hk : K (.bool true) h) : X Tryz.prog 14 #[.pointer none] h K := by
  refine fnv (args := [.pointer none]) mixed [] [23] [] Tryz.func14 rfl (by kernel_rfl) ?_
  conv => whnf
  exact hk
set_option maxHeartbeats 4000000 in
set_option maxRecDepth 10000 in
theorem play_nil (s : Value) (k m : Int) (h : Hp) (K : Value → Hp → Prop) (hk : K (.tuple #[.int .i64 0, .bool true]) h) : X Tryz.prog 6 #[.pointer none, s, .int .i64 k, .int .i64 m] h K := by
  refine fnv (args := [.pointer none, s, .int .i64 k, .int .i64 m]) mixed [] [] [] Tryz.func6 rfl (by kernel_rfl) ?_
  conv => whnf
  refine conf_x _ _ ?_
  conv => whnf
  refine new_x 0 k _ _ (fun _ => ?_) (fun h1 => by omega)
  conv => whnf
  refine done_x _ _ ?_
  conv => whnf
  exact hk
set_option maxHeartbeats 4000000 in
set_option maxRecDepth 10000 in
theorem bounds_x (a b c d : Int) (bs : List Int) (k : Int) (h : Hp) (K : Value → Hp → Prop) (hbs : bs.length = 8) (hk : K (.bool true) h) :
    X Tryz.prog 3 #[confV a b c d, .agg (iv bs).toArray, .int .i64 k] h K := by
  obtain ⟨b0, b1, b2, b3, b4, b5, b6, b7, rfl⟩ : ∃ b0 b1 b2 b3 b4 b5 b6 b7 : Int, bs = [b0, b1, b2, b3, b4, b5, b6, b7] := by
    match bs, hbs with
    | [b0, b1, b2, b3, b4, b5, b6, b7], _ => exact ⟨b0, b1, b2, b3, b4, b5, b6, b7, rfl⟩
  refine X.forget ?_
  refine fnv (args := [confV a b c d, .agg (iv [b0, b1, b2, b3, b4, b5, b6, b7]).toArray, .int .i64 k]) mixed [(3, 3), (4, 4)] [] [] Tryz.func3 rfl (by kernel_rfl) ?_
  conv => whnf
  refine bound_x a b c d [b0, b1, b2, b3, b4, b5, b6, b7] k _ _ rfl ?_
  conv => whnf
  refine rbound_x a b c d [b0, b1, b2, b3, b4, b5, b6, b7] k _ _ rfl ?_
  conv => whnf
  intro g hg
  conv => whnf
  refine play_nil _ k 5 _ _ ?_
  conv => whnf
  refine bsel_intro (fun _ => ?_) (fun h1 => by simp at h1)
  conv => whnf
  refine bsel_intro (fun _ => ?_) (fun h1 => by simp at h1)
  conv => whnf
  refine live_x _ _ ?_
  conv => whnf
  exact ⟨h, Hp.le_set hg, hk⟩
theorem cells4 {h : Hp} {cs : List Value} (w : Wf h (.struct [.int .i64, .int .i64, .int .i64, .int .i64]) cs) : ∃ a b c d : Int, cs = [.int .i64 a, .int .i64 b, .int .i64 c, .int .i64 d] := by
  unfold Wf at w
  unfold Wfs at w
  obtain ⟨x1, y1, rfl, -, w1, w⟩ := w
  unfold Wfs at w
  obtain ⟨x2, y2, rfl, -, w2, w⟩ := w
  unfold Wfs at w
  obtain ⟨x3, y3, rfl, -, w3, w⟩ := w
  unfold Wfs at w
  obtain ⟨x4, y4, rfl, -, w4, w⟩ := w
  unfold Wfs at w
  subst w
  unfold Wf at w1 w2 w3 w4
  obtain ⟨a, rfl, _⟩ := w1
  obtain ⟨b, rfl, _⟩ := w2
  obtain ⟨c, rfl, _⟩ := w3
  obtain ⟨d, rfl, _⟩ := w4
  exact ⟨a, b, c, d, rfl⟩
theorem ints_of {h : Hp} : ∀ (n : Nat) (cs : List Value), cs.length = n → (∀ i, i < n → Wf h (.int .i64) ((cs.drop i).take 1)) → ∃ bs : List Int, bs.length = n ∧ cs = iv bs
  | 0, cs, hl, _ => ⟨[], rfl, by rw [List.length_eq_zero_iff.1 hl]; rfl⟩
  | n + 1, [], hl, _ => by simp at hl
  | n + 1, c :: cs, hl, hw => by
    obtain ⟨bs, h1, h2⟩ := ints_of n cs (by simpa using hl) fun i hi => by have := hw (i + 1) (by omega); simpa using this
    have h0 := hw 0 (by omega)
    unfold Wf at h0
    obtain ⟨x, hx, _⟩ := h0
    simp at hx
    exact ⟨x :: bs, by simp [h1], by rw [hx, h2]; rfl⟩
theorem fairBounds_w (w : World) {cs0 cs1 cs2 : List Value} (w0 : Wf (whole w) (.struct [.int .i64, .int .i64, .int .i64, .int .i64]) cs0) (l0 : cs0.length = 4) (w1 : Wf (whole w) (.array 8 (.int .i64)) cs1) (l1 : cs1.length = 8) (w2 : Wf (whole w) (.int .i64) cs2) (l2 : cs2.length = 1) :
    X Tryz.prog 3 #[.agg cs0.toArray, .agg cs1.toArray, cs2.headD undef] (whole w) fun v h' => v = .bool true ∧ (whole w).le h' := by
  obtain ⟨a, b, c, d, rfl⟩ := cells4 w0
  unfold Wf at w1 w2
  obtain ⟨bs, h1, rfl⟩ := ints_of 8 cs1 l1 fun i hi => by have := w1.2 i hi; simpa [Sh.n] using this
  obtain ⟨k, rfl, _⟩ := w2
  exact bounds_x a b c d bs k (whole w) _ h1 ⟨rfl, Hp.le_refl _⟩
end Go.Proofs.YtmegglmeiecnfaaGreat
