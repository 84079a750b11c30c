/-
  The chapter's examples, and the walk of FairTells.
-/
import Derived.Test.YtmegglmeiecnfaaGreatFair7
namespace Go.Proofs.YtmegglmeiecnfaaGreat
open Go Go.Mid Go.RowKit
attribute [local irreducible] X MLoop mid
set_option maxHeartbeats 4000000 in
set_option maxRecDepth 10000 in
theorem live_x (h : Hp) (K : Value → Hp → Prop) (hk : K (.bool true) h) : X Tryz.prog 7 #[] h K := by
  refine X.forget ?_
  refine fnv (args := []) mixed [] [] [] Tryz.func7 rfl (by kernel_rfl) ?_
  conv => whnf
  intro b hb
  conv => whnf
  have hle : h.le (h.set b (rowO 5 ([0, 0, 0].map (.int .u8)))) := Hp.le_set hb
  refine make_x (some ⟨b, 0, none⟩) 3 [0, 0, 0] 2 2 (h.set b (rowO 5 ([0, 0, 0].map (.int .u8)))) _ (by decide) (by decide) (fun i r hi => ⟨_, rfl, ?_⟩) (fun hh => by omega) (fun _ _ _ s h1 hle1 hr1 => ?_)
  · rw [addr_add, Nat.zero_add]
    refine cell_row (el := 5) (l := [0, 0, 0].map (.int .u8)) (Hp.set_same _ _ _) ?_
    simp only [List.getElem?_map, hi, Option.map_some]
  have hp : picksL 2 (List.replicate (2 : Int).toNat 0) [0, 0, 0] = [0, 1, 0] := by decide
  rw [hp] at hr1
  conv => whnf
  refine bound_x 1 1 1 1 [1, 0, 0, 0, 0, 0, 0, 0] 1 _ _ rfl ?_
  have hb2 : boundL 1 1 1 1 [1, 0, 0, 0, 0, 0, 0, 0] 1 = (1723, 0) := by decide
  rw [hb2]
  conv => whnf
  intro c hc
  conv => whnf
  have hle2 : h1.le (h1.set c (rowO 3 (iv [0, 1, 0]))) := Hp.le_set hc
  refine ints_x s (.slice (some ⟨c, 0, none⟩) 3 3) [0, 1, 0] [0, 1, 0] (h1.set c (rowO 3 (iv [0, 1, 0]))) _ (by decide) (by decide) (hr1.le hle2) (Rd.row (l := iv [0, 1, 0]) (r := []) agg3 (Hp.set_same _ _ _)) ?_
  conv => whnf
  exact ⟨h, Hp.le_trans hle (Hp.le_trans hle1 hle2), hk⟩
end Go.Proofs.YtmegglmeiecnfaaGreat
