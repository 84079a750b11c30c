/-
  What each hart did, which lines are asked for most, and the events at any address, are as the document says: for every log of events, two numbers and address the function returns true, and its arguments read as they did.
  It stands for every value of its parameters, where the listed package-level variables read as the program's text lays them (the card ties them to it).
-/
import Derived.Test.YtcmhfofmloiaiaaGreatDoorRows
import Derived.Test.YtcmhfofmloiaiaaGreatDoorCards
import Derived.Test.YtcmhfofmloiaiaaGreatDoorTie
import Derived.WalkKit
import Derived.ProofKit
import Derived.OpenShut
import Derived.ChangeOld
import Derived.Below
import Derived.LaidMore
import Derived.Lay
import Derived.SevenTiedAt
import Derived.Stop.Joined
import Derived.Test.YtcmhfofmloiaiaaGreatDoorTt
namespace Go.Proofs.YtcmhfofmloiaiaaGreatDoor.traceTells
set_option linter.unusedSimpArgs false
set_option linter.unusedVariables false
open Go.ChangeShapes Go.WideShapes Go.ChangeAt Go.RowKit Go.Mid
set_option linter.unusedVariables false

theorem own : ownKnob Tryz.prog.godebug = none := by kernel_rfl
theorem laidOut : laidOutB Tryz.prog = true := by kernel_rfl
theorem walk {cs0 cs1 cs2 cs3 : List Value} (w : World) (hL : laidMetH Tryz.prog Rows.traceTellsRow.laid w) (w0 : Wf (whole w) (.slice (.struct [(.int .i64), (.struct [(.int .i64), (.int .u64), (.int .u64), (.int .i64), (.int .i64), (.int .i64), (.int .u64), (.int .u64), .bool, (.int .i64), (.struct [.bool, .bool, .bool, (.int .u64), (.int .i64)]), (.struct [(.int .i64), (.int .u64), (.int .i64), (.int .u64)])]), (.struct [(.int .u64), .bool, (.array 8 (.struct [.bool, .bool, .bool, (.int .u64), (.int .i64)]))]), (.int .i64), (.int .i64), (.int .i64)])) cs0) (l0 : cs0.length = Sh.n (.slice (.struct [(.int .i64), (.struct [(.int .i64), (.int .u64), (.int .u64), (.int .i64), (.int .i64), (.int .i64), (.int .u64), (.int .u64), .bool, (.int .i64), (.struct [.bool, .bool, .bool, (.int .u64), (.int .i64)]), (.struct [(.int .i64), (.int .u64), (.int .i64), (.int .u64)])]), (.struct [(.int .u64), .bool, (.array 8 (.struct [.bool, .bool, .bool, (.int .u64), (.int .i64)]))]), (.int .i64), (.int .i64), (.int .i64)]))) (w1 : Wf (whole w) (.int .i64) cs1) (l1 : cs1.length = Sh.n (.int .i64)) (w2 : Wf (whole w) (.int .i64) cs2) (l2 : cs2.length = Sh.n (.int .i64)) (w3 : Wf (whole w) (.int .u64) cs3) (l3 : cs3.length = Sh.n (.int .u64)) :
    Calls Tryz.prog 3 #[Sh.v (.slice (.struct [(.int .i64), (.struct [(.int .i64), (.int .u64), (.int .u64), (.int .i64), (.int .i64), (.int .i64), (.int .u64), (.int .u64), .bool, (.int .i64), (.struct [.bool, .bool, .bool, (.int .u64), (.int .i64)]), (.struct [(.int .i64), (.int .u64), (.int .i64), (.int .u64)])]), (.struct [(.int .u64), .bool, (.array 8 (.struct [.bool, .bool, .bool, (.int .u64), (.int .i64)]))]), (.int .i64), (.int .i64), (.int .i64)])) cs0, Sh.v (.int .i64) cs1, Sh.v (.int .i64) cs2, Sh.v (.int .u64) cs3] w fun e w' => e = .returned (.bool true) ∧ Below w.heap.size w w' :=
  X.law (traceTells_w w hL w0 l0 w1 l1 w2 l2 w3 l3)

abbrev met (w : World) : Prop := laidMetH Tryz.prog Rows.traceTellsRow.laid w
set_option maxRecDepth 100000 in
theorem lifted (os : Os) (started : os.Started) (H : Type) (enc : TypeId × Value → H) :
    ReturnsInHanded {} Tryz.checked os 3 .any (fun w args => (Rows.traceTellsSpec.pre enc Tryz.prog Tryz.f3 Rows.traceTellsRow.domain false w args ∧ laidMetH Tryz.prog Rows.traceTellsRow.laid w) ∧ sizedMet enc Tryz.prog Tryz.f3 (OpenSpec.ofChange Rows.traceTellsSpec) false w args) (Rows.traceTellsSpec.post enc Tryz.prog Tryz.f3 false true false false) := by
  refine returnsInHanded_of_change_and (C := Tryz.checked) (X := fun w _ => laidMetH Tryz.prog Rows.traceTellsRow.laid w) (fun _ _ _ hh h => h.of_heap hh) own started (by kernel_rfl) Tryz.func3
    (ChangeSpec.witness_shaped (enc := enc) (C := Tryz.checked) (os := os) (X := fun w _ => laidMetH Tryz.prog Rows.traceTellsRow.laid w) false (World.laidAll Tryz.prog os Rows.traceTellsRow.laid) #[.slice none 0 0, .int .i64 0, .int .i64 0, .int .u64 0] 8 (World.laidAll_os _ _ _)
      (World.shaped_of_ZipB (by kernel_rfl) (by kernel_rfl)) (by kernel_rfl) (by kernel_rfl) (by kernel_rfl)
      (by rw [MakeChecks.laidMetH_plain _ _ _ (by kernel_rfl)]; exact laidMet_laidAll _ (by kernel_rfl) (by kernel_rfl))) ?_
  intro W base args ds gs before hval0 hW _ _ hL _
  have hval : ∀ (j : Nat) t v, Tryz.f3.params[j]? = some t → args[j]? = some v → Value.okWide Tryz.prog W .any base t v := hval0
  have hW' := hW
  obtain ⟨p, q, hA0, hV, rfl, hfz, hnd⟩ := hW
  have hA : DataW.TrodAll enc Tryz.prog W 0 (fun _ => true) true Tryz.f3.params.toList args.toList ds p := hA0
  rw [Tryz.params3] at hA hval
  obtain ⟨v0, vs0, d0, ds0, p0, q0, hargs, rfl, rfl, h0, r0⟩ := trodAll_cons hA
  obtain ⟨v1, vs1, d1, ds1, p1, q1, rfl, rfl, rfl, h1, r1⟩ := trodAll_cons r0
  obtain ⟨v2, vs2, d2, ds2, p2, q2, rfl, rfl, rfl, h2, r2⟩ := trodAll_cons r1
  obtain ⟨v3, vs3, d3, ds3, p3, q3, rfl, rfl, rfl, h3, r3⟩ := trodAll_cons r2
  obtain ⟨rfl, rfl, rfl⟩ := trodAll_nil r3
  obtain rfl : args = #[v0, v1, v2, v3] := by cases args; simp_all
  obtain ⟨rfl, rfl⟩ := trodVars_none hV
  have k0 := h0
  have lt0 : ∀ x ∈ p0, x.block < W.heap.size := by obtain ⟨m, hm⟩ := k0; exact DataW.trod_lt m _ _ _ hm
  obtain ⟨cs0, rfl, w0, l0⟩ := arg_of (.slice (.struct [(.int .i64), (.struct [(.int .i64), (.int .u64), (.int .u64), (.int .i64), (.int .i64), (.int .i64), (.int .u64), (.int .u64), .bool, (.int .i64), (.struct [.bool, .bool, .bool, (.int .u64), (.int .i64)]), (.struct [(.int .i64), (.int .u64), (.int .i64), (.int .u64)])]), (.struct [(.int .u64), .bool, (.array 8 (.struct [.bool, .bool, .bool, (.int .u64), (.int .i64)]))]), (.int .i64), (.int .i64), (.int .i64)])) (by kernel_rfl) (hval 0 22 v0 rfl rfl) h0
  have k1 := h1
  have lt1 : ∀ x ∈ p1, x.block < W.heap.size := by obtain ⟨m, hm⟩ := k1; exact DataW.trod_lt m _ _ _ hm
  obtain ⟨cs1, rfl, w1, l1⟩ := arg_of (.int .i64) (by kernel_rfl) (hval 1 3 v1 rfl rfl) h1
  have k2 := h2
  have lt2 : ∀ x ∈ p2, x.block < W.heap.size := by obtain ⟨m, hm⟩ := k2; exact DataW.trod_lt m _ _ _ hm
  obtain ⟨cs2, rfl, w2, l2⟩ := arg_of (.int .i64) (by kernel_rfl) (hval 2 3 v2 rfl rfl) h2
  have k3 := h3
  have lt3 : ∀ x ∈ p3, x.block < W.heap.size := by obtain ⟨m, hm⟩ := k3; exact DataW.trod_lt m _ _ _ hm
  obtain ⟨cs3, rfl, w3, l3⟩ := arg_of (.int .u64) (by kernel_rfl) (hval 3 23 v3 rfl rfl) h3
  clear hA0 hval0
  refine (walk W hL w0 l0 w1 l1 w2 l2 w3 l3).mono fun e W' ⟨he, bel⟩ => ?_
  subst he
  exact ⟨_, rfl, _, _, _, [], _, [], hW', trodAll_mk1 (shut_bool Tryz.underlying4 _), (trodAll_cons_mk (Below.trod laidOut (by kernel_rfl) (of_decide_eq_true (by kernel_rfl)) k0 bel lt0) (trodAll_cons_mk (Below.trod laidOut (by kernel_rfl) (of_decide_eq_true (by kernel_rfl)) k1 bel lt1) (trodAll_cons_mk (Below.trod laidOut (by kernel_rfl) (of_decide_eq_true (by kernel_rfl)) k2 bel lt2) (trodAll_cons_mk (Below.trod laidOut (by kernel_rfl) (of_decide_eq_true (by kernel_rfl)) k3 bel lt3) trodAll_mk0)))), rfl, bel.frame _, fun h => by cases h⟩

theorem over : Rows.traceTellsRow.holds Tryz.pinned (OpenSpec.ofChange Rows.traceTellsSpec) :=
  OpenClaim.holds_of_wide 3 Tryz.f3 rfl rfl rfl rfl rfl rfl rfl ⟨rfl, rfl, rfl, rfl, rfl⟩ rfl rfl rfl rfl rfl (by kernel_rfl) Tryz.func3 (by kernel_rfl)
    (of_decide_eq_true (by kernel_rfl)) (by unfold Func.isWrapper; first | (rw [if_pos (by decide +kernel)]; kernel_rfl) | (rw [if_neg (by decide +kernel)]; exact ⟨rfl, rfl⟩))
    (fun os started H enc _ => lifted os started H enc)

theorem proved : Rows.TraceTellsCardSaid :=
  Claim7.holds_tied_plain_at .later [] [.data, .data, .data] true (true, "18742ad340d7d5a005d1ff018c83145d3e347edb2d746cbe0836f0f7ded99359") false
    over (fun _ h => by cases h) (by kernel_rfl) (fun _ h => by cases h) traceTells_row_tie rfl ⟨rfl, rfl⟩ (by kernel_rfl) rfl
    (fun f fn hf hfn => by
      obtain rfl : f = 3 := Option.some.inj ((show Tryz.prog.funcNamed "roebuck/roebucklaw46.TraceTells" = some 3 by kernel_rfl).symm.trans hf) |>.symm
      obtain rfl : fn = Tryz.f3 := (Option.some.inj (Tryz.func3.symm.trans hfn)).symm
      exact ⟨by kernel_rfl, fun j t ht => by
        rw [Tryz.params3] at ht
        have hm : t ∈ [22, 3, 3, 23] := by simpa using Array.mem_of_getElem? ht
        have hall : ([22, 3, 3, 23].all fun u => !Tryz.prog.wantsStandIn u) = true := by kernel_rfl
        exact (show Tryz.prog.wantsStandIn t = false by simpa using List.all_eq_true.1 hall t hm)⟩)
    (by kernel_rfl)
#print axioms proved
end Go.Proofs.YtcmhfofmloiaiaaGreatDoor.traceTells
