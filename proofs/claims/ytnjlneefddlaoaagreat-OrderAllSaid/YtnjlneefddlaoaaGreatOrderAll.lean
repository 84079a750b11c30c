/-
  OrderAll holds: all orders that may be are told, the least one first, till nobody wants more, for up to 5 events, and every number of how many are wanted; of more than 9 none are.
  It stands for every value of its parameters.
-/
import Derived.Test.YtnjlneefddlaoaaGreatRows
import Derived.WalkKit
import Derived.ProofKit
import Derived.OpenShut
import Derived.ChangeOld
import Derived.Below
import Derived.HandedShaped
import Derived.Test.YtnjlneefddlaoaaGreatOrQ
set_option linter.unusedSimpArgs false
set_option linter.unusedVariables false
set_option maxHeartbeats 8000000
set_option maxRecDepth 10000
set_option linter.unusedSimpArgs false
set_option linter.unusedVariables false
namespace Go.Proofs.YtnjlneefddlaoaaGreat.orderAll
open Go.ChangeShapes Go.WideShapes Go.ChangeAt Go.RowKit Go.Mid
theorem own:ownKnob Tryz.prog.godebug=none:=by kernel_rfl
theorem laidOut:laidOutB Tryz.prog=true:=by kernel_rfl
theorem walk {cs0 cs1:List Value} (w:World) (w0:Wf (whole w) (.slice (.struct [(.int .i64),(.struct [(.int .i64),(.int .u64),(.int .u64),(.int .i64),(.int .i64),(.int .i64),(.int .u64),(.int .u64),.bool,(.int .i64),(.struct [.bool,.bool,.bool,(.int .u64),(.int .i64)]),(.struct [(.int .i64),(.int .u64),(.int .i64),(.int .u64)])]),(.struct [(.int .u64),.bool,(.array 8 (.struct [.bool,.bool,.bool,(.int .u64),(.int .i64)]))]),(.int .i64),(.int .i64),(.int .i64)])) cs0) (l0:cs0.length=Sh.n (.slice (.struct [(.int .i64),(.struct [(.int .i64),(.int .u64),(.int .u64),(.int .i64),(.int .i64),(.int .i64),(.int .u64),(.int .u64),.bool,(.int .i64),(.struct [.bool,.bool,.bool,(.int .u64),(.int .i64)]),(.struct [(.int .i64),(.int .u64),(.int .i64),(.int .u64)])]),(.struct [(.int .u64),.bool,(.array 8 (.struct [.bool,.bool,.bool,(.int .u64),(.int .i64)]))]),(.int .i64),(.int .i64),(.int .i64)]))) (w1:Wf (whole w) (.int .i64) cs1) (l1:cs1.length=Sh.n (.int .i64)) :
  Calls Tryz.prog 3 #[Sh.v (.slice (.struct [(.int .i64),(.struct [(.int .i64),(.int .u64),(.int .u64),(.int .i64),(.int .i64),(.int .i64),(.int .u64),(.int .u64),.bool,(.int .i64),(.struct [.bool,.bool,.bool,(.int .u64),(.int .i64)]),(.struct [(.int .i64),(.int .u64),(.int .i64),(.int .u64)])]),(.struct [(.int .u64),.bool,(.array 8 (.struct [.bool,.bool,.bool,(.int .u64),(.int .i64)]))]),(.int .i64),(.int .i64),(.int .i64)])) cs0,Sh.v (.int .i64) cs1] w fun e w'=>e=.returned (.bool true)∧Below w.heap.size w w' :=
 X.law (orderAll_w w w0 l0 w1 l1)
set_option maxRecDepth 100000 in
theorem lifted (os:Os) (started:os.Started) (H:Type) (enc:TypeId×Value→H) :
  ReturnsInHanded {} Tryz.checked os 3 .any (Rows.orderAllSpec.pre6 enc Tryz.prog Tryz.f3 Rows.orderAllRow.domain false) (Rows.orderAllSpec.post enc Tryz.prog Tryz.f3 false true false false):=by
 refine returnsInHanded_of_change_shaped (C:=Tryz.checked) own started (by kernel_rfl) Tryz.func3
  (ChangeSpec.witness6 (enc:=enc) (C:=Tryz.checked) false ⟨#[],#[.slice none 0 0,.int .i64 0],[]⟩ 8 (by kernel_rfl) (by kernel_rfl) (by kernel_rfl) (by kernel_rfl)) ?_
 intro W base args ds gs before hval0 hW hcnd hz0 hsh _
 have hval:∀ (j:Nat) t v,Tryz.f3.params[j]? = some t→args[j]? = some v→Value.okWide Tryz.prog W .any base t v:=hval0
 have hW':=hW
 obtain ⟨p,q,hA0,hV,rfl,hfz,hnd⟩:=hW
 have hA:DataW.TrodAll enc Tryz.prog W 0 (fun _=>true) true Tryz.f3.params.toList args.toList ds p:=hA0
 rw [Tryz.params3] at hA hval
 obtain ⟨v0,vs0,d0,ds0,p0,q0,hargs,rfl,rfl,h0,r0⟩:=trodAll_cons hA
 obtain ⟨v1,vs1,d1,ds1,p1,q1,rfl,rfl,rfl,h1,r1⟩:=trodAll_cons r0
 obtain ⟨rfl,rfl,rfl⟩:=trodAll_nil r1
 obtain rfl:args=#[v0,v1]:=by cases args;simp_all
 obtain ⟨rfl,rfl⟩:=trodVars_none hV
 rw [Tryz.params3] at hz0
 obtain ⟨z0,hz1⟩:=weights_cons hz0
 obtain ⟨z1,hz2⟩:=weights_cons hz1
 have k0:=h0
 have lt0:∀ x ∈ p0,x.block<W.heap.size:=by obtain ⟨m,hm⟩:=k0;exact DataW.trod_lt m _ _ _ hm
 obtain ⟨cs0,rfl,w0,l0⟩:=arg_of (.slice (.struct [(.int .i64),(.struct [(.int .i64),(.int .u64),(.int .u64),(.int .i64),(.int .i64),(.int .i64),(.int .u64),(.int .u64),.bool,(.int .i64),(.struct [.bool,.bool,.bool,(.int .u64),(.int .i64)]),(.struct [(.int .i64),(.int .u64),(.int .i64),(.int .u64)])]),(.struct [(.int .u64),.bool,(.array 8 (.struct [.bool,.bool,.bool,(.int .u64),(.int .i64)]))]),(.int .i64),(.int .i64),(.int .i64)])) (by kernel_rfl) (hval 0 22 v0 rfl rfl) h0 z0
 have k1:=h1
 have lt1:∀ x ∈ p1,x.block<W.heap.size:=by obtain ⟨m,hm⟩:=k1;exact DataW.trod_lt m _ _ _ hm
 obtain ⟨cs1,rfl,w1,l1⟩:=arg_of (.int .i64) (by kernel_rfl) (hval 1 3 v1 rfl rfl) h1 z1
 clear hA0 hval0
 refine (walk W w0 l0 w1 l1).mono fun e W' ⟨he,bel⟩=>?_
 subst he
 exact ⟨_,rfl,_,_,_,[],_,[],hW',trodAll_mk1 (shut_bool Tryz.underlying4 _),(trodAll_cons_mk (Below.trod laidOut (by kernel_rfl) (of_decide_eq_true (by kernel_rfl)) k0 bel lt0) (trodAll_cons_mk (Below.trod laidOut (by kernel_rfl) (of_decide_eq_true (by kernel_rfl)) k1 bel lt1) trodAll_mk0)),rfl,bel.frame _,fun h=>by cases h⟩
set_option maxHeartbeats 400000000 in
set_option maxRecDepth 100000 in
theorem closed:joinedFacts Tryz.checked.prog 3 Tryz.f3 Rows.orderAllSpec Rows.orderAllRow=true:=by
 unfold joinedFacts
 repeat' (with_reducible refine (Bool.and_eq_true_iff.2 ⟨?_,?_⟩))
 all_goals (as_aux_lemma=>kernel_rfl)
theorem over:Rows.orderAllRow.holds Tryz.pinned (OpenSpec.ofChange Rows.orderAllSpec) :=
 OpenClaim.holds_of_wide 3 Tryz.f3 rfl rfl rfl rfl rfl rfl rfl ⟨rfl,rfl,rfl,rfl,rfl⟩ rfl rfl rfl rfl rfl (by kernel_rfl) Tryz.func3 closed
  (of_decide_eq_true (by kernel_rfl)) (by unfold Func.isWrapper;first | (rw [if_pos (by decide +kernel)];kernel_rfl) | (rw [if_neg (by decide +kernel)];exact ⟨rfl,rfl⟩))
  (fun os started H enc _=>lifted os started H enc)
theorem proved:Rows.OrderAllSaid:=over
#print axioms proved
end Go.Proofs.YtnjlneefddlaoaaGreat.orderAll
