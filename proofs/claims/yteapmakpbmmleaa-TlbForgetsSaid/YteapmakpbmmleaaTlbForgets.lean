/-
  TlbForgets holds: behind a forget nothing is left that it would forget, and all else is, in its order; what is added then is found: of every size, any deeds (of more than 60 nothing is said but that the chapter's example stands), request and translation.
  It stands for every value of its parameters.
-/
import Derived.Test.YteapmakpbmmleaaRows
import Derived.WalkKit
import Derived.ProofKit
import Derived.OpenShut
import Derived.ChangeOld
import Derived.Below
import Derived.Test.YteapmakpbmmleaaTlbe
namespace Go.Proofs.Yteapmakpbmmleaa.tlbForgets
set_option linter.unusedSimpArgs false
set_option linter.unusedVariables false
open Go.ChangeShapes Go.WideShapes Go.ChangeAt Go.RowKit Go.Mid
set_option linter.unusedVariables false

theorem own : ownKnob Try.prog.godebug = none := by kernel_rfl
theorem laidOut : laidOutB Try.prog = true := by kernel_rfl
theorem walk {cs0 cs1 cs2 : List Value} (w : World) (w0 : Wf (whole w) (.int .u8) cs0) (l0 : cs0.length = Sh.n (.int .u8)) (w1 : Wf (whole w) (.slice (.struct [(.int .i64), (.struct [(.int .i64), (.int .u64), (.int .i64), (.int .u64)]), (.struct [.bool, .bool, .bool, (.int .u64), (.int .i64)])])) cs1) (l1 : cs1.length = Sh.n (.slice (.struct [(.int .i64), (.struct [(.int .i64), (.int .u64), (.int .i64), (.int .u64)]), (.struct [.bool, .bool, .bool, (.int .u64), (.int .i64)])]))) (w2 : Wf (whole w) (.struct [(.int .i64), (.struct [(.int .i64), (.int .u64), (.int .i64), (.int .u64)]), (.struct [.bool, .bool, .bool, (.int .u64), (.int .i64)])]) cs2) (l2 : cs2.length = Sh.n (.struct [(.int .i64), (.struct [(.int .i64), (.int .u64), (.int .i64), (.int .u64)]), (.struct [.bool, .bool, .bool, (.int .u64), (.int .i64)])])) :
    Calls Try.prog 3 #[Sh.v (.int .u8) cs0, Sh.v (.slice (.struct [(.int .i64), (.struct [(.int .i64), (.int .u64), (.int .i64), (.int .u64)]), (.struct [.bool, .bool, .bool, (.int .u64), (.int .i64)])])) cs1, Sh.v (.struct [(.int .i64), (.struct [(.int .i64), (.int .u64), (.int .i64), (.int .u64)]), (.struct [.bool, .bool, .bool, (.int .u64), (.int .i64)])]) cs2] w fun e w' => e = .returned (.bool true) ∧ Below w.heap.size w w' :=
  X.law (tlbForgets_w w w0 l0 w1 l1 w2 l2)

set_option maxRecDepth 100000 in
theorem lifted (os : Os) (started : os.Started) (H : Type) (enc : TypeId × Value → H) :
    ReturnsInHanded {} Try.checked os 3 .any (Rows.tlbForgetsSpec.pre6 enc Try.prog Try.f3 Rows.tlbForgetsRow.domain false) (Rows.tlbForgetsSpec.post enc Try.prog Try.f3 false true false false) := by
  refine returnsInHanded_of_change (C := Try.checked) own started (by kernel_rfl) Try.func3
    (ChangeSpec.witness6 (enc := enc) (C := Try.checked) false ⟨#[], #[.int .u8 0, .slice none 0 0, (.agg #[.int .i64 0, .int .i64 0, .int .u64 0, .int .i64 0, .int .u64 0, .bool false, .bool false, .bool false, .int .u64 0, .int .i64 0])], []⟩ 8 (by kernel_rfl) (by kernel_rfl) (by kernel_rfl) (by kernel_rfl)) ?_
  intro W base args ds gs before hval0 hW hcnd _
  have hval : ∀ (j : Nat) t v, Try.f3.params[j]? = some t → args[j]? = some v → Value.okWide Try.prog W .any base t v := hval0
  have hW' := hW
  obtain ⟨p, q, hA0, hV, rfl, hfz, hnd⟩ := hW
  have hA : DataW.TrodAll enc Try.prog W 0 (fun _ => true) true Try.f3.params.toList args.toList ds p := hA0
  rw [Try.params3] at hA hval
  obtain ⟨v0, vs0, d0, ds0, p0, q0, hargs, rfl, rfl, h0, r0⟩ := trodAll_cons hA
  obtain ⟨v1, vs1, d1, ds1, p1, q1, rfl, rfl, rfl, h1, r1⟩ := trodAll_cons r0
  obtain ⟨v2, vs2, d2, ds2, p2, q2, rfl, rfl, rfl, h2, r2⟩ := trodAll_cons r1
  obtain ⟨rfl, rfl, rfl⟩ := trodAll_nil r2
  obtain rfl : args = #[v0, v1, v2] := by cases args; simp_all
  obtain ⟨rfl, rfl⟩ := trodVars_none hV
  have k0 := h0
  have lt0 : ∀ x ∈ p0, x.block < W.heap.size := by obtain ⟨m, hm⟩ := k0; exact DataW.trod_lt m _ _ _ hm
  obtain ⟨cs0, rfl, w0, l0⟩ := arg_of (.int .u8) (by kernel_rfl) (hval 0 5 v0 rfl rfl) h0
  have k1 := h1
  have lt1 : ∀ x ∈ p1, x.block < W.heap.size := by obtain ⟨m, hm⟩ := k1; exact DataW.trod_lt m _ _ _ hm
  obtain ⟨cs1, rfl, w1, l1⟩ := arg_of (.slice (.struct [(.int .i64), (.struct [(.int .i64), (.int .u64), (.int .i64), (.int .u64)]), (.struct [.bool, .bool, .bool, (.int .u64), (.int .i64)])])) (by kernel_rfl) (hval 1 22 v1 rfl rfl) h1
  have k2 := h2
  have lt2 : ∀ x ∈ p2, x.block < W.heap.size := by obtain ⟨m, hm⟩ := k2; exact DataW.trod_lt m _ _ _ hm
  obtain ⟨cs2, rfl, w2, l2⟩ := arg_of (.struct [(.int .i64), (.struct [(.int .i64), (.int .u64), (.int .i64), (.int .u64)]), (.struct [.bool, .bool, .bool, (.int .u64), (.int .i64)])]) (by kernel_rfl) (hval 2 29 v2 rfl rfl) h2
  clear hA0 hval0
  refine (walk W w0 l0 w1 l1 w2 l2).mono fun e W' ⟨he, bel⟩ => ?_
  subst he
  exact ⟨_, rfl, _, _, _, [], _, [], hW', trodAll_mk1 (shut_bool Try.underlying4 _), (trodAll_cons_mk (Below.trod laidOut (by kernel_rfl) (of_decide_eq_true (by kernel_rfl)) k0 bel lt0) (trodAll_cons_mk (Below.trod laidOut (by kernel_rfl) (of_decide_eq_true (by kernel_rfl)) k1 bel lt1) (trodAll_cons_mk (Below.trod laidOut (by kernel_rfl) (of_decide_eq_true (by kernel_rfl)) k2 bel lt2) trodAll_mk0))), rfl, bel.frame _, fun h => by cases h⟩

theorem over : Rows.tlbForgetsRow.holds Try.pinned (OpenSpec.ofChange Rows.tlbForgetsSpec) :=
  OpenClaim.holds_of_wide 3 Try.f3 rfl rfl rfl rfl rfl rfl rfl ⟨rfl, rfl, rfl, rfl, rfl⟩ rfl rfl rfl rfl rfl (by kernel_rfl) Try.func3 (by kernel_rfl)
    (of_decide_eq_true (by kernel_rfl)) (by unfold Func.isWrapper; first | (rw [if_pos (by decide +kernel)]; kernel_rfl) | (rw [if_neg (by decide +kernel)]; exact ⟨rfl, rfl⟩))
    (fun os started H enc _ => lifted os started H enc)

theorem proved : Rows.TlbForgetsSaid := over
#print axioms proved
end Go.Proofs.Yteapmakpbmmleaa.tlbForgets
