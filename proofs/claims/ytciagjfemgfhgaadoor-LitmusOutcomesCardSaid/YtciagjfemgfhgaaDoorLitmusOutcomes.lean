/-
  All outcomes of any test are those of all its orders, gone through one by one; which of two outcomes is less, and an outcome's text, is as the document says.
  It stands for every value of its parameters, where the listed package-level variables read as the program's text lays them (the card ties them to it).
-/
import Derived.Test.YtciagjfemgfhgaaDoorRows
import Derived.Test.YtciagjfemgfhgaaDoorCards
import Derived.Test.YtciagjfemgfhgaaDoorTie
import Derived.WalkKit
import Derived.ProofKit
import Derived.OpenShut
import Derived.ChangeOld
import Derived.Below
import Derived.LaidMore
import Derived.Lay
import Derived.SevenTiedAt
import Derived.Stop.Joined
import Derived.Test.YtciagjfemgfhgaaDoorLtQ
namespace Go.Proofs.YtciagjfemgfhgaaDoor.litmusOutcomes
set_option linter.unusedSimpArgs false
set_option linter.unusedVariables false
open Go.ChangeShapes Go.WideShapes Go.ChangeAt Go.RowKit Go.Mid
set_option linter.unusedVariables false

theorem own : ownKnob Tryd.prog.godebug = none := by kernel_rfl
theorem laidOut : laidOutB Tryd.prog = true := by kernel_rfl
theorem walk {cs0 cs1 cs2 cs3 : List Value} (w : World) (hL : laidMetH Tryd.prog Rows.litmusOutcomesRow.laid w) (w0 : Wf (whole w) (.struct [(.slice (.slice (.struct [(.int .i64), (.int .i64), (.int .i64), (.int .i64)])))]) cs0) (l0 : cs0.length = Sh.n (.struct [(.slice (.slice (.struct [(.int .i64), (.int .i64), (.int .i64), (.int .i64)])))])) (w1 : Wf (whole w) (.struct [(.array 4 (.int .u64)), (.array 3 (.array 4 (.int .u64)))]) cs1) (l1 : cs1.length = Sh.n (.struct [(.array 4 (.int .u64)), (.array 3 (.array 4 (.int .u64)))])) (w2 : Wf (whole w) (.struct [(.array 4 (.int .u64)), (.array 3 (.array 4 (.int .u64)))]) cs2) (l2 : cs2.length = Sh.n (.struct [(.array 4 (.int .u64)), (.array 3 (.array 4 (.int .u64)))])) (w3 : Wf (whole w) (.int .i64) cs3) (l3 : cs3.length = Sh.n (.int .i64)) :
    Calls Tryd.prog 3 #[Sh.v (.struct [(.slice (.slice (.struct [(.int .i64), (.int .i64), (.int .i64), (.int .i64)])))]) cs0, Sh.v (.struct [(.array 4 (.int .u64)), (.array 3 (.array 4 (.int .u64)))]) cs1, Sh.v (.struct [(.array 4 (.int .u64)), (.array 3 (.array 4 (.int .u64)))]) cs2, Sh.v (.int .i64) cs3] w fun e w' => e = .returned (.bool true) ∧ Below w.heap.size w w' :=
  X.law (litmusOutcomes_w w hL w0 l0 w1 l1 w2 l2 w3 l3)

abbrev met (w : World) : Prop := laidMetH Tryd.prog Rows.litmusOutcomesRow.laid w
set_option maxRecDepth 100000 in
theorem lifted (os : Os) (started : os.Started) (H : Type) (enc : TypeId × Value → H) :
    ReturnsInHanded {} Tryd.checked os 3 .any (fun w args => (Rows.litmusOutcomesSpec.pre enc Tryd.prog Tryd.f3 Rows.litmusOutcomesRow.domain false w args ∧ laidMetH Tryd.prog Rows.litmusOutcomesRow.laid w) ∧ sizedMet enc Tryd.prog Tryd.f3 (OpenSpec.ofChange Rows.litmusOutcomesSpec) false w args) (Rows.litmusOutcomesSpec.post enc Tryd.prog Tryd.f3 false true false false) := by
  refine returnsInHanded_of_change_and (C := Tryd.checked) (X := fun w _ => laidMetH Tryd.prog Rows.litmusOutcomesRow.laid w) (fun _ _ _ hh h => h.of_heap hh) own started (by kernel_rfl) Tryd.func3
    (ChangeSpec.witness_shaped (enc := enc) (C := Tryd.checked) (os := os) (X := fun w _ => laidMetH Tryd.prog Rows.litmusOutcomesRow.laid w) false (World.laidAll Tryd.prog os Rows.litmusOutcomesRow.laid) #[(.agg #[.slice none 0 0]), (.agg #[.int .u64 0, .int .u64 0, .int .u64 0, .int .u64 0, .int .u64 0, .int .u64 0, .int .u64 0, .int .u64 0, .int .u64 0, .int .u64 0, .int .u64 0, .int .u64 0, .int .u64 0, .int .u64 0, .int .u64 0, .int .u64 0]), (.agg #[.int .u64 0, .int .u64 0, .int .u64 0, .int .u64 0, .int .u64 0, .int .u64 0, .int .u64 0, .int .u64 0, .int .u64 0, .int .u64 0, .int .u64 0, .int .u64 0, .int .u64 0, .int .u64 0, .int .u64 0, .int .u64 0]), .int .i64 0] 8 (World.laidAll_os _ _ _)
      (World.shaped_of_ZipB (by kernel_rfl) (by kernel_rfl)) (by kernel_rfl) (by kernel_rfl) (by kernel_rfl)
      (by rw [MakeChecks.laidMetH_plain _ _ _ (by kernel_rfl)]; exact laidMet_laidAll _ (by kernel_rfl) (by kernel_rfl))) ?_
  intro W base args ds gs before hval0 hW _ hz0 hL _
  have hval : ∀ (j : Nat) t v, Tryd.f3.params[j]? = some t → args[j]? = some v → Value.okWide Tryd.prog W .any base t v := hval0
  have hW' := hW
  obtain ⟨p, q, hA0, hV, rfl, hfz, hnd⟩ := hW
  have hA : DataW.TrodAll enc Tryd.prog W 0 (fun _ => true) true Tryd.f3.params.toList args.toList ds p := hA0
  rw [Tryd.params3] at hA hval
  obtain ⟨v0, vs0, d0, ds0, p0, q0, hargs, rfl, rfl, h0, r0⟩ := trodAll_cons hA
  obtain ⟨v1, vs1, d1, ds1, p1, q1, rfl, rfl, rfl, h1, r1⟩ := trodAll_cons r0
  obtain ⟨v2, vs2, d2, ds2, p2, q2, rfl, rfl, rfl, h2, r2⟩ := trodAll_cons r1
  obtain ⟨v3, vs3, d3, ds3, p3, q3, rfl, rfl, rfl, h3, r3⟩ := trodAll_cons r2
  obtain ⟨rfl, rfl, rfl⟩ := trodAll_nil r3
  obtain rfl : args = #[v0, v1, v2, v3] := by cases args; simp_all
  obtain ⟨rfl, rfl⟩ := trodVars_none hV
  rw [Tryd.params3] at hz0
  have hz0 := hz0
  obtain ⟨z0, hz1⟩ := weights_cons hz0
  obtain ⟨z1, hz2⟩ := weights_cons hz1
  obtain ⟨z2, hz3⟩ := weights_cons hz2
  obtain ⟨z3, hz4⟩ := weights_cons hz3
  have k0 := h0
  have lt0 : ∀ x ∈ p0, x.block < W.heap.size := by obtain ⟨m, hm⟩ := k0; exact DataW.trod_lt m _ _ _ hm
  obtain ⟨cs0, rfl, w0, l0⟩ := arg_of (.struct [(.slice (.slice (.struct [(.int .i64), (.int .i64), (.int .i64), (.int .i64)])))]) (by kernel_rfl) (hval 0 24 v0 rfl rfl) h0 z0
  have k1 := h1
  have lt1 : ∀ x ∈ p1, x.block < W.heap.size := by obtain ⟨m, hm⟩ := k1; exact DataW.trod_lt m _ _ _ hm
  obtain ⟨cs1, rfl, w1, l1⟩ := arg_of (.struct [(.array 4 (.int .u64)), (.array 3 (.array 4 (.int .u64)))]) (by kernel_rfl) (hval 1 29 v1 rfl rfl) h1 z1
  have k2 := h2
  have lt2 : ∀ x ∈ p2, x.block < W.heap.size := by obtain ⟨m, hm⟩ := k2; exact DataW.trod_lt m _ _ _ hm
  obtain ⟨cs2, rfl, w2, l2⟩ := arg_of (.struct [(.array 4 (.int .u64)), (.array 3 (.array 4 (.int .u64)))]) (by kernel_rfl) (hval 2 29 v2 rfl rfl) h2 z2
  have k3 := h3
  have lt3 : ∀ x ∈ p3, x.block < W.heap.size := by obtain ⟨m, hm⟩ := k3; exact DataW.trod_lt m _ _ _ hm
  obtain ⟨cs3, rfl, w3, l3⟩ := arg_of (.int .i64) (by kernel_rfl) (hval 3 3 v3 rfl rfl) h3 z3
  clear hA0 hval0
  refine (walk W hL w0 l0 w1 l1 w2 l2 w3 l3).mono fun e W' ⟨he, bel⟩ => ?_
  subst he
  exact ⟨_, rfl, _, _, _, [], _, [], hW', trodAll_mk1 (shut_bool Tryd.underlying4 _), (trodAll_cons_mk (Below.trod laidOut (by kernel_rfl) (of_decide_eq_true (by kernel_rfl)) k0 bel lt0) (trodAll_cons_mk (Below.trod laidOut (by kernel_rfl) (of_decide_eq_true (by kernel_rfl)) k1 bel lt1) (trodAll_cons_mk (Below.trod laidOut (by kernel_rfl) (of_decide_eq_true (by kernel_rfl)) k2 bel lt2) (trodAll_cons_mk (Below.trod laidOut (by kernel_rfl) (of_decide_eq_true (by kernel_rfl)) k3 bel lt3) trodAll_mk0)))), rfl, bel.frame _, fun h => by cases h⟩

theorem over : Rows.litmusOutcomesRow.holds Tryd.pinned (OpenSpec.ofChange Rows.litmusOutcomesSpec) :=
  OpenClaim.holds_of_wide 3 Tryd.f3 rfl rfl rfl rfl rfl rfl rfl ⟨rfl, rfl, rfl, rfl, rfl⟩ rfl rfl rfl rfl rfl (by kernel_rfl) Tryd.func3 (by kernel_rfl)
    (of_decide_eq_true (by kernel_rfl)) (by unfold Func.isWrapper; first | (rw [if_pos (by decide +kernel)]; kernel_rfl) | (rw [if_neg (by decide +kernel)]; exact ⟨rfl, rfl⟩))
    (fun os started H enc _ => lifted os started H enc)

theorem proved : Rows.LitmusOutcomesCardSaid :=
  Claim7.holds_tied_plain_at .later [] [.data, .data, .data] true (true, "03c941a6053109b90ee8ab0b294f8a0207173d52797b9160bcd38a13b75c01af") false
    over (fun _ h => by cases h) (by kernel_rfl) (fun _ h => by cases h) litmusOutcomes_row_tie rfl ⟨rfl, rfl⟩ (by kernel_rfl) rfl
    (fun f fn hf hfn => by
      obtain rfl : f = 3 := Option.some.inj ((show Tryd.prog.funcNamed "roebuck/roebucklaw43.LitmusOutcomes" = some 3 by kernel_rfl).symm.trans hf) |>.symm
      obtain rfl : fn = Tryd.f3 := (Option.some.inj (Tryd.func3.symm.trans hfn)).symm
      exact ⟨by kernel_rfl, fun j t ht => by
        rw [Tryd.params3] at ht
        have hm : t ∈ [24, 29, 29, 3] := by simpa using Array.mem_of_getElem? ht
        have hall : ([24, 29, 29, 3].all fun u => !Tryd.prog.wantsStandIn u) = true := by kernel_rfl
        exact (show Tryd.prog.wantsStandIn t = false by simpa using List.all_eq_true.1 hall t hm)⟩)
    (by kernel_rfl)
#print axioms proved
end Go.Proofs.YtciagjfemgfhgaaDoor.litmusOutcomes
