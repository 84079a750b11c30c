/-
  ScriptTexts holds: whether any script may be, its text, and whether two are the same, is as the document says.
  It stands for every value of its parameters, where the listed package-level variables read as the program's text lays them (the card ties them to it).
-/
import Derived.Test.YtclbommhagmpdaaDoorRows
import Derived.Test.YtclbommhagmpdaaDoorCards
import Derived.Test.YtclbommhagmpdaaDoorTie
import Derived.WalkKit
import Derived.ProofKit
import Derived.OpenShut
import Derived.ChangeOld
import Derived.Below
import Derived.LaidMore
import Derived.Lay
import Derived.SevenTiedAt
import Derived.Stop.Joined
import Derived.Test.YtclbommhagmpdaaDoorStx8
namespace Go.Proofs.YtclbommhagmpdaaDoor.scriptTexts
set_option linter.unusedSimpArgs false
set_option linter.unusedVariables false
open Go.ChangeShapes Go.WideShapes Go.ChangeAt Go.RowKit Go.Mid
set_option linter.unusedVariables false

theorem own : ownKnob Tryd.prog.godebug = none := by kernel_rfl
theorem laidOut : laidOutB Tryd.prog = true := by kernel_rfl
theorem walk {cs0 cs1 : List Value} (w : World) (hL : laidMetH Tryd.prog Rows.scriptTextsRow.laid w) (w0 : Wf (whole w) (.struct [(.struct [(.int .i64), (.int .i64), (.int .i64), (.int .i64)]), (.array 8 (.int .i64)), (.slice (.struct [(.int .u64), (.slice (.int .u8))])), (.slice (.struct [(.int .i64), (.int .i64), .bool]))]) cs0) (l0 : cs0.length = Sh.n (.struct [(.struct [(.int .i64), (.int .i64), (.int .i64), (.int .i64)]), (.array 8 (.int .i64)), (.slice (.struct [(.int .u64), (.slice (.int .u8))])), (.slice (.struct [(.int .i64), (.int .i64), .bool]))])) (w1 : Wf (whole w) (.struct [(.struct [(.int .i64), (.int .i64), (.int .i64), (.int .i64)]), (.array 8 (.int .i64)), (.slice (.struct [(.int .u64), (.slice (.int .u8))])), (.slice (.struct [(.int .i64), (.int .i64), .bool]))]) cs1) (l1 : cs1.length = Sh.n (.struct [(.struct [(.int .i64), (.int .i64), (.int .i64), (.int .i64)]), (.array 8 (.int .i64)), (.slice (.struct [(.int .u64), (.slice (.int .u8))])), (.slice (.struct [(.int .i64), (.int .i64), .bool]))])) :
    Calls Tryd.prog 5 #[Sh.v (.struct [(.struct [(.int .i64), (.int .i64), (.int .i64), (.int .i64)]), (.array 8 (.int .i64)), (.slice (.struct [(.int .u64), (.slice (.int .u8))])), (.slice (.struct [(.int .i64), (.int .i64), .bool]))]) cs0, Sh.v (.struct [(.struct [(.int .i64), (.int .i64), (.int .i64), (.int .i64)]), (.array 8 (.int .i64)), (.slice (.struct [(.int .u64), (.slice (.int .u8))])), (.slice (.struct [(.int .i64), (.int .i64), .bool]))]) cs1] w fun e w' => e = .returned (.bool true) ∧ Below w.heap.size w w' :=
  X.law (scriptTexts_w w hL w0 l0 w1 l1)

abbrev met (w : World) : Prop := laidMetH Tryd.prog Rows.scriptTextsRow.laid w
set_option maxRecDepth 100000 in
theorem lifted (os : Os) (started : os.Started) (H : Type) (enc : TypeId × Value → H) :
    ReturnsInHanded {} Tryd.checked os 5 .any (fun w args => (Rows.scriptTextsSpec.pre enc Tryd.prog Tryd.f5 Rows.scriptTextsRow.domain false w args ∧ laidMetH Tryd.prog Rows.scriptTextsRow.laid w) ∧ sizedMet enc Tryd.prog Tryd.f5 (OpenSpec.ofChange Rows.scriptTextsSpec) false w args) (Rows.scriptTextsSpec.post enc Tryd.prog Tryd.f5 false true false false) := by
  refine returnsInHanded_of_change_and (C := Tryd.checked) (X := fun w _ => laidMetH Tryd.prog Rows.scriptTextsRow.laid w) (fun _ _ _ hh h => h.of_heap hh) own started (by kernel_rfl) Tryd.func5
    (ChangeSpec.witness_shaped (enc := enc) (C := Tryd.checked) (os := os) (X := fun w _ => laidMetH Tryd.prog Rows.scriptTextsRow.laid w) false (World.laidAll Tryd.prog os Rows.scriptTextsRow.laid) #[(.agg #[.int .i64 0, .int .i64 0, .int .i64 0, .int .i64 0, .int .i64 0, .int .i64 0, .int .i64 0, .int .i64 0, .int .i64 0, .int .i64 0, .int .i64 0, .int .i64 0, .slice none 0 0, .slice none 0 0]), (.agg #[.int .i64 0, .int .i64 0, .int .i64 0, .int .i64 0, .int .i64 0, .int .i64 0, .int .i64 0, .int .i64 0, .int .i64 0, .int .i64 0, .int .i64 0, .int .i64 0, .slice none 0 0, .slice none 0 0])] 8 (World.laidAll_os _ _ _)
      (World.shaped_of_ZipB (by kernel_rfl) (by kernel_rfl)) (by kernel_rfl) (by kernel_rfl) (by kernel_rfl)
      (by rw [MakeChecks.laidMetH_plain _ _ _ (by kernel_rfl)]; exact laidMet_laidAll _ (by kernel_rfl) (by kernel_rfl))) ?_
  intro W base args ds gs before hval0 hW _ _ hL _
  have hval : ∀ (j : Nat) t v, Tryd.f5.params[j]? = some t → args[j]? = some v → Value.okWide Tryd.prog W .any base t v := hval0
  have hW' := hW
  obtain ⟨p, q, hA0, hV, rfl, hfz, hnd⟩ := hW
  have hA : DataW.TrodAll enc Tryd.prog W 0 (fun _ => true) true Tryd.f5.params.toList args.toList ds p := hA0
  rw [Tryd.params5] at hA hval
  obtain ⟨v0, vs0, d0, ds0, p0, q0, hargs, rfl, rfl, h0, r0⟩ := trodAll_cons hA
  obtain ⟨v1, vs1, d1, ds1, p1, q1, rfl, rfl, rfl, h1, r1⟩ := trodAll_cons r0
  obtain ⟨rfl, rfl, rfl⟩ := trodAll_nil r1
  obtain rfl : args = #[v0, v1] := by cases args; simp_all
  obtain ⟨rfl, rfl⟩ := trodVars_none hV
  have k0 := h0
  have lt0 : ∀ x ∈ p0, x.block < W.heap.size := by obtain ⟨m, hm⟩ := k0; exact DataW.trod_lt m _ _ _ hm
  obtain ⟨cs0, rfl, w0, l0⟩ := arg_of (.struct [(.struct [(.int .i64), (.int .i64), (.int .i64), (.int .i64)]), (.array 8 (.int .i64)), (.slice (.struct [(.int .u64), (.slice (.int .u8))])), (.slice (.struct [(.int .i64), (.int .i64), .bool]))]) (by kernel_rfl) (hval 0 56 v0 rfl rfl) h0
  have k1 := h1
  have lt1 : ∀ x ∈ p1, x.block < W.heap.size := by obtain ⟨m, hm⟩ := k1; exact DataW.trod_lt m _ _ _ hm
  obtain ⟨cs1, rfl, w1, l1⟩ := arg_of (.struct [(.struct [(.int .i64), (.int .i64), (.int .i64), (.int .i64)]), (.array 8 (.int .i64)), (.slice (.struct [(.int .u64), (.slice (.int .u8))])), (.slice (.struct [(.int .i64), (.int .i64), .bool]))]) (by kernel_rfl) (hval 1 56 v1 rfl rfl) h1
  clear hA0 hval0
  refine (walk W hL w0 l0 w1 l1).mono fun e W' ⟨he, bel⟩ => ?_
  subst he
  exact ⟨_, rfl, _, _, _, [], _, [], hW', trodAll_mk1 (shut_bool Tryd.underlying4 _), (trodAll_cons_mk (Below.trod laidOut (by kernel_rfl) (of_decide_eq_true (by kernel_rfl)) k0 bel lt0) (trodAll_cons_mk (Below.trod laidOut (by kernel_rfl) (of_decide_eq_true (by kernel_rfl)) k1 bel lt1) trodAll_mk0)), rfl, bel.frame _, fun h => by cases h⟩

theorem over : Rows.scriptTextsRow.holds Tryd.pinned (OpenSpec.ofChange Rows.scriptTextsSpec) :=
  OpenClaim.holds_of_wide 5 Tryd.f5 rfl rfl rfl rfl rfl rfl rfl ⟨rfl, rfl, rfl, rfl, rfl⟩ rfl rfl rfl rfl rfl (by kernel_rfl) Tryd.func5 (by kernel_rfl)
    (of_decide_eq_true (by kernel_rfl)) (by unfold Func.isWrapper; first | (rw [if_pos (by decide +kernel)]; kernel_rfl) | (rw [if_neg (by decide +kernel)]; exact ⟨rfl, rfl⟩))
    (fun os started H enc _ => lifted os started H enc)

theorem proved : Rows.ScriptTextsCardSaid :=
  Claim7.holds_tied_plain_at .later [] [.data, .data, .data] true (true, "88d7782d79c5c21f9bebcc704f5234f9b406d83a90255999a752b3683e6f7ada") false
    over (fun _ h => by cases h) (by kernel_rfl) (fun _ h => by cases h) scriptTexts_row_tie rfl ⟨rfl, rfl⟩ (by kernel_rfl) rfl
    (fun f fn hf hfn => by
      obtain rfl : f = 5 := Option.some.inj ((show Tryd.prog.funcNamed "roebuck/roebucklaw36.ScriptTexts" = some 5 by kernel_rfl).symm.trans hf) |>.symm
      obtain rfl : fn = Tryd.f5 := (Option.some.inj (Tryd.func5.symm.trans hfn)).symm
      exact ⟨by kernel_rfl, fun j t ht => by
        rw [Tryd.params5] at ht
        have hm : t ∈ [56, 56] := by simpa using Array.mem_of_getElem? ht
        have hall : ([56, 56].all fun u => !Tryd.prog.wantsStandIn u) = true := by kernel_rfl
        exact (show Tryd.prog.wantsStandIn t = false by simpa using List.all_eq_true.1 hall t hm)⟩)
    (by kernel_rfl)
#print axioms proved
end Go.Proofs.YtclbommhagmpdaaDoor.scriptTexts
