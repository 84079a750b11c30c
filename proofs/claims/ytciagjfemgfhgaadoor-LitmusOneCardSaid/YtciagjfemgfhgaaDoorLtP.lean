/-
  The chapter's example.
-/
import Derived.Test.YtciagjfemgfhgaaDoorLtO
import Derived.Test.YtciagjfemgfhgaaDoorMidY
namespace Go.Proofs.YtciagjfemgfhgaaDoor
set_option linter.unusedSimpArgs false
set_option linter.unusedVariables false
open Go Go.Mid Go.RowKit
attribute [local irreducible] mid
abbrev bd1 : Dd := ⟨1, 0, 0, 1⟩
abbrev bd2 : Dd := ⟨2, 0, 1, 0⟩
abbrev bd3 : Dd := ⟨1, 0, 1, 1⟩
abbrev bd4 : Dd := ⟨2, 0, 0, 0⟩
abbrev bufT : List (List Dd) := [[bd1, bd2], [bd3, bd4]]
abbrev bO1 : Oc := ⟨[1, 1, 0, 0, 0, 0, 0, 0, 1, 0, 0, 0, 0, 0, 0, 0], rfl⟩
abbrev bO2 : Oc := ⟨[1, 1, 0, 0, 1, 0, 0, 0, 0, 0, 0, 0, 0, 0, 0, 0], rfl⟩
abbrev bO3 : Oc := ⟨[1, 1, 0, 0, 1, 0, 0, 0, 1, 0, 0, 0, 0, 0, 0, 0], rfl⟩
theorem buf_runs : runs bufT 4 S0 = [bO1.W, bO3.W, bO3.W, bO3.W, bO3.W, bO2.W] := by decide +kernel
theorem buf_ris : Ris [bO1, bO2, bO3] := by
  unfold Ris
  decide +kernel
theorem buf_mem (o : Oc) : o ∈ [bO1, bO2, bO3] ↔ OutS bufT S0 o := by
  unfold OutS
  rw [runs_ok (n := 4) (by decide) (fun _ _ _ => by decide) rfl (by decide) (by decide) o.W, buf_runs]
  have e : ∀ p : Oc, o = p ↔ o.W = p.W := fun p => ⟨fun h => by rw [h], Oc.ext⟩
  simp only [List.mem_cons, List.not_mem_nil, or_false, e]
  constructor
  · rintro (h | h | h)
    · exact .inl h
    · exact .inr (.inr (.inr (.inr (.inr h))))
    · exact .inr (.inl h)
  · rintro (h | h | h | h | h | h)
    · exact .inl h
    · exact .inr (.inr h)
    · exact .inr (.inr h)
    · exact .inr (.inr h)
    · exact .inr (.inr h)
    · exact .inr (.inl h)
theorem buf_chk : chk bufT = 0 := by decide +kernel
theorem buf_text : showT bO1.W 2 = [49, 32, 49, 32, 48, 32, 48, 32, 124, 32, 48, 32, 48, 32, 48, 32, 48, 32, 124, 32, 49, 32, 48, 32, 48, 32, 48] := by decide +kernel
theorem buf_lt : ∀ x ∈ bO1.W, x < 18446744073709551616 := by decide
section
set_option maxHeartbeats 8000000
set_option maxRecDepth 10000
variable {h : Hp} {K : Value → Hp → Prop}
theorem aggDd : isAggT Tryd.prog 80 = some true := by kernel_rfl
theorem sizDd : sizeT Tryd.prog 80 = some 4 := by kernel_rfl
theorem buffering_x (hk : ∀ (v : Value) (Ts : List Th) (h' : Hp), h.le h' → Ts.map (·.L) = bufT → RdP h' v Ts → K (.agg #[v]) h') : X Tryd.prog 25 #[] h K := by
  refine fnv (args := _) mixed [(0, 0)] [] [] Tryd.func25 rfl (by kernel_rfl) ?_
  conv => whnf
  refine new_intro (o := rowO 80 [zv 1, zv 0, zv 0, zv 1, zv 2, zv 0, zv 1, zv 0]) (fun b1 h1 n_b1 le_b1 at_b1 ot_b1 => ?_)
  conv => whnf
  refine new_intro (o := rowO 80 [zv 1, zv 0, zv 1, zv 1, zv 2, zv 0, zv 0, zv 0]) (fun b2 h2 n_b2 le_b2 at_b2 ot_b2 => ?_)
  conv => whnf
  refine new_intro (o := rowO 71 [.slice (some ⟨b1, 0, none⟩) 2 2, .slice (some ⟨b2, 0, none⟩) 2 2]) (fun b3 h3 n_b3 le_b3 at_b3 ot_b3 => ?_)
  conv => whnf
  have a1 := le_b3 _ _ (le_b2 _ _ at_b1)
  have a2 := le_b3 _ _ at_b2
  refine hk _ [⟨some ⟨b1, 0, none⟩, 2, [bd1, bd2]⟩, ⟨some ⟨b2, 0, none⟩, 2, [bd3, bd4]⟩] h3 (Hp.le_trans le_b1 (Hp.le_trans le_b2 le_b3)) rfl ⟨some ⟨b3, 0, none⟩, 2, rfl, fun i p hp => ⟨_, rfl, ?_⟩, fun p hp j d hd => ?_⟩
  · rw [Int.toNat_natCast]
    match i, hp with
    | 0, hp => cases hp; exact loadC1 aggDl at_b3 rfl
    | 1, hp => cases hp; exact loadC1 aggDl at_b3 rfl
  · rcases List.mem_cons.1 hp with rfl | hp
    · refine ⟨_, rfl, ?_⟩
      rw [Int.toNat_natCast]
      match j, hd with
      | 0, hd => cases hd; exact loadP (k := 0) aggDd sizDd a1 rfl rfl
      | 1, hd => cases hd; exact loadP (k := 4) aggDd sizDd a1 rfl rfl
    · rcases List.mem_cons.1 hp with rfl | hp
      · refine ⟨_, rfl, ?_⟩
        rw [Int.toNat_natCast]
        match j, hd with
        | 0, hd => cases hd; exact loadP (k := 0) aggDd sizDd a2 rfl rfl
        | 1, hd => cases hd; exact loadP (k := 4) aggDd sizDd a2 rfl rfl
      · cases hp
theorem live_x (hp : Pow h) (hk : K (.bool true) h) : X Tryd.prog 10 #[] h K := by
  refine X.forget ?_
  refine fnv (args := _) mixed [] [] [] Tryd.func10 rfl (by kernel_rfl) ?_
  conv => whnf
  refine buffering_x fun v Ts h1 le1 hTs hr => ?_
  conv => whnf
  refine outcomes_x v Ts hr (fun h' hle hc => absurd (by rw [hTs]; exact buf_chk) hc) fun L' s' h2 hc hris hmem le2 hlen hrd => ?_
  have hL : L' = [bO1, bO2, bO3] := ris_eq hris buf_ris fun o => by rw [hmem, hTs, buf_mem]
  subst hL
  obtain ⟨base, cap, rfl, f⟩ := hrd
  obtain ⟨a, rfl, l1⟩ := f 0 _ rfl
  conv => whnf
  refine ⟨_, l1, ?_⟩
  conv => whnf
  refine show_x (hp.le (Hp.le_trans le1 le2)) bO1 buf_lt 2 fun h3 le3 => ?_
  conv => whnf
  refine seq_true (buf_text) ?_
  conv => whnf
  exact ⟨h, Hp.le_trans le1 (Hp.le_trans le2 le3), hk⟩
end
end Go.Proofs.YtciagjfemgfhgaaDoor
