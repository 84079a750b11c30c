/-
  TraceClashes holds: the pairs that clash, of any log of up to sixty events, come as the document says, and the iterator stops where it is told to.
  It stands for every value of its parameters, where the listed package-level variables read as the program's text lays them (the card ties them to it).
-/
import Derived.Test.YtcmhfofmloiaiaaDoorRows
import Derived.Test.YtcmhfofmloiaiaaDoorCards
import Derived.Test.YtcmhfofmloiaiaaDoorTie
import Derived.WalkKit
import Derived.ProofKit
import Derived.OpenShut
import Derived.ChangeOld
import Derived.Below
import Derived.LaidMore
import Derived.Lay
import Derived.SevenTiedAt
import Derived.Stop.Joined
import Derived.Test.YtcmhfofmloiaiaaDoorTrcI
namespace Go.Proofs.YtcmhfofmloiaiaaDoor.traceClashes
set_option linter.unusedSimpArgs false
set_option linter.unusedVariables false
open Go.ChangeShapes Go.WideShapes Go.ChangeAt Go.RowKit Go.Mid
set_option linter.unusedVariables false

theorem own : ownKnob Tryd.prog.godebug = none := by kernel_rfl
theorem laidOut : laidOutB Tryd.prog = true := by kernel_rfl
theorem walk {cs0 cs1 : List Value} (w : World) (hL : laidMetH Tryd.prog Rows.traceClashesRow.laid w) (w0 : Wf (whole w) (.slice (.struct [(.int .i64), (.struct [(.int .i64), (.int .u64), (.int .u64), (.int .i64), (.int .i64), (.int .i64), (.int .u64), (.int .u64), .bool, (.int .i64), (.struct [.bool, .bool, .bool, (.int .u64), (.int .i64)]), (.struct [(.int .i64), (.int .u64), (.int .i64), (.int .u64)])]), (.struct [(.int .u64), .bool, (.array 8 (.struct [.bool, .bool, .bool, (.int .u64), (.int .i64)]))]), (.int .i64), (.int .i64), (.int .i64)])) cs0) (l0 : cs0.length = Sh.n (.slice (.struct [(.int .i64), (.struct [(.int .i64), (.int .u64), (.int .u64), (.int .i64), (.int .i64), (.int .i64), (.int .u64), (.int .u64), .bool, (.int .i64), (.struct [.bool, .bool, .bool, (.int .u64), (.int .i64)]), (.struct [(.int .i64), (.int .u64), (.int .i64), (.int .u64)])]), (.struct [(.int .u64), .bool, (.array 8 (.struct [.bool, .bool, .bool, (.int .u64), (.int .i64)]))]), (.int .i64), (.int .i64), (.int .i64)]))) (w1 : Wf (whole w) (.int .i64) cs1) (l1 : cs1.length = Sh.n (.int .i64)) :
    Calls Tryd.prog 3 #[Sh.v (.slice (.struct [(.int .i64), (.struct [(.int .i64), (.int .u64), (.int .u64), (.int .i64), (.int .i64), (.int .i64), (.int .u64), (.int .u64), .bool, (.int .i64), (.struct [.bool, .bool, .bool, (.int .u64), (.int .i64)]), (.struct [(.int .i64), (.int .u64), (.int .i64), (.int .u64)])]), (.struct [(.int .u64), .bool, (.array 8 (.struct [.bool, .bool, .bool, (.int .u64), (.int .i64)]))]), (.int .i64), (.int .i64), (.int .i64)])) cs0, Sh.v (.int .i64) cs1] w fun e w' => e = .returned (.bool true) ∧ Below w.heap.size w w' :=
  X.law (traceClashes_w w hL w0 l0 w1 l1)

abbrev met (w : World) : Prop := laidMetH Tryd.prog Rows.traceClashesRow.laid w
set_option maxRecDepth 100000 in
theorem lifted (os : Os) (started : os.Started) (H : Type) (enc : TypeId × Value → H) :
    ReturnsInHanded {} Tryd.checked os 3 .any (fun w args => (Rows.traceClashesSpec.pre enc Tryd.prog Tryd.f3 Rows.traceClashesRow.domain false w args ∧ laidMetH Tryd.prog Rows.traceClashesRow.laid w) ∧ sizedMet enc Tryd.prog Tryd.f3 (OpenSpec.ofChange Rows.traceClashesSpec) false w args) (Rows.traceClashesSpec.post enc Tryd.prog Tryd.f3 false true false false) := by
  refine returnsInHanded_of_change_and (C := Tryd.checked) (X := fun w _ => laidMetH Tryd.prog Rows.traceClashesRow.laid w) (fun _ _ _ hh h => h.of_heap hh) own started (by kernel_rfl) Tryd.func3
    (ChangeSpec.witness_shaped (enc := enc) (C := Tryd.checked) (os := os) (X := fun w _ => laidMetH Tryd.prog Rows.traceClashesRow.laid w) false (World.laidAll Tryd.prog os Rows.traceClashesRow.laid) #[.slice none 0 0, .int .i64 0] 8 (World.laidAll_os _ _ _)
      (World.shaped_of_ZipB (by kernel_rfl) (by kernel_rfl)) (by kernel_rfl) (by kernel_rfl) (by kernel_rfl)
      (by rw [MakeChecks.laidMetH_plain _ _ _ (by kernel_rfl)]; exact laidMet_laidAll _ (by kernel_rfl) (by kernel_rfl))) ?_
  intro W base args ds gs before hval0 hW _ _ hL _
  have hval : ∀ (j : Nat) t v, Tryd.f3.params[j]? = some t → args[j]? = some v → Value.okWide Tryd.prog W .any base t v := hval0
  have hW' := hW
  obtain ⟨p, q, hA0, hV, rfl, hfz, hnd⟩ := hW
  have hA : DataW.TrodAll enc Tryd.prog W 0 (fun _ => true) true Tryd.f3.params.toList args.toList ds p := hA0
  rw [Tryd.params3] at hA hval
  obtain ⟨v0, vs0, d0, ds0, p0, q0, hargs, rfl, rfl, h0, r0⟩ := trodAll_cons hA
  obtain ⟨v1, vs1, d1, ds1, p1, q1, rfl, rfl, rfl, h1, r1⟩ := trodAll_cons r0
  obtain ⟨rfl, rfl, rfl⟩ := trodAll_nil r1
  obtain rfl : args = #[v0, v1] := by cases args; simp_all
  obtain ⟨rfl, rfl⟩ := trodVars_none hV
  have k0 := h0
  have lt0 : ∀ x ∈ p0, x.block < W.heap.size := by obtain ⟨m, hm⟩ := k0; exact DataW.trod_lt m _ _ _ hm
  obtain ⟨cs0, rfl, w0, l0⟩ := arg_of (.slice (.struct [(.int .i64), (.struct [(.int .i64), (.int .u64), (.int .u64), (.int .i64), (.int .i64), (.int .i64), (.int .u64), (.int .u64), .bool, (.int .i64), (.struct [.bool, .bool, .bool, (.int .u64), (.int .i64)]), (.struct [(.int .i64), (.int .u64), (.int .i64), (.int .u64)])]), (.struct [(.int .u64), .bool, (.array 8 (.struct [.bool, .bool, .bool, (.int .u64), (.int .i64)]))]), (.int .i64), (.int .i64), (.int .i64)])) (by kernel_rfl) (hval 0 22 v0 rfl rfl) h0
  have k1 := h1
  have lt1 : ∀ x ∈ p1, x.block < W.heap.size := by obtain ⟨m, hm⟩ := k1; exact DataW.trod_lt m _ _ _ hm
  obtain ⟨cs1, rfl, w1, l1⟩ := arg_of (.int .i64) (by kernel_rfl) (hval 1 3 v1 rfl rfl) h1
  clear hA0 hval0
  refine (walk W hL w0 l0 w1 l1).mono fun e W' ⟨he, bel⟩ => ?_
  subst he
  exact ⟨_, rfl, _, _, _, [], _, [], hW', trodAll_mk1 (shut_bool Tryd.underlying4 _), (trodAll_cons_mk (Below.trod laidOut (by kernel_rfl) (of_decide_eq_true (by kernel_rfl)) k0 bel lt0) (trodAll_cons_mk (Below.trod laidOut (by kernel_rfl) (of_decide_eq_true (by kernel_rfl)) k1 bel lt1) trodAll_mk0)), rfl, bel.frame _, fun h => by cases h⟩

theorem over : Rows.traceClashesRow.holds Tryd.pinned (OpenSpec.ofChange Rows.traceClashesSpec) :=
  OpenClaim.holds_of_wide 3 Tryd.f3 rfl rfl rfl rfl rfl rfl rfl ⟨rfl, rfl, rfl, rfl, rfl⟩ rfl rfl rfl rfl rfl (by kernel_rfl) Tryd.func3 (by kernel_rfl)
    (of_decide_eq_true (by kernel_rfl)) (by unfold Func.isWrapper; first | (rw [if_pos (by decide +kernel)]; kernel_rfl) | (rw [if_neg (by decide +kernel)]; exact ⟨rfl, rfl⟩))
    (fun os started H enc _ => lifted os started H enc)

theorem proved : Rows.TraceClashesCardSaid :=
  Claim7.holds_tied_plain_at .later [] [.data, .data, .data] true (true, "8e6bbadd9428f32fa9a1f76ced0289e56c3d99f3a04287130c111f10f018eb9e") false
    over (fun _ h => by cases h) (by kernel_rfl) (fun _ h => by cases h) traceClashes_row_tie rfl ⟨rfl, rfl⟩ (by kernel_rfl) rfl
    (fun f fn hf hfn => by
      obtain rfl : f = 3 := Option.some.inj ((show Tryd.prog.funcNamed "roebuck/roebucklaw46.TraceClashes" = some 3 by kernel_rfl).symm.trans hf) |>.symm
      obtain rfl : fn = Tryd.f3 := (Option.some.inj (Tryd.func3.symm.trans hfn)).symm
      exact ⟨by kernel_rfl, fun j t ht => by
        rw [Tryd.params3] at ht
        have hm : t ∈ [22, 3] := by simpa using Array.mem_of_getElem? ht
        have hall : ([22, 3].all fun u => !Tryd.prog.wantsStandIn u) = true := by kernel_rfl
        exact (show Tryd.prog.wantsStandIn t = false by simpa using List.all_eq_true.1 hall t hm)⟩)
    (by kernel_rfl)
#print axioms proved
end Go.Proofs.YtcmhfofmloiaiaaDoor.traceClashes
