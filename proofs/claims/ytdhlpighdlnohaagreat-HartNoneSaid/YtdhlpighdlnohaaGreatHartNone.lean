/-
  HartNone holds: a hart that isn't there does nothing; a copy goes on by itself; what is drained on a hart's behalf is forgotten, for every configuration, how it stands at first, up to 30 answers, and what was posted.
  It stands for every value of its parameters.
-/
import Derived.Test.YtdhlpighdlnohaaGreatRows
import Derived.WalkKit
import Derived.ProofKit
import Derived.OpenShut
import Derived.ChangeOld
import Derived.Below
import Derived.HandedShaped
import Derived.Test.YtdhlpighdlnohaaGreatHnD
set_option linter.unusedSimpArgs false
set_option linter.unusedVariables false
set_option maxHeartbeats 8000000
set_option maxRecDepth 10000
set_option linter.unusedSimpArgs false
set_option linter.unusedVariables false
namespace Go.Proofs.YtdhlpighdlnohaaGreat.hartNone
open Go.ChangeShapes Go.WideShapes Go.ChangeAt Go.RowKit Go.Mid
theorem own:ownKnob Tryz.prog.godebug=none:=by kernel_rfl
theorem laidOut:laidOutB Tryz.prog=true:=by kernel_rfl
theorem walk {cs0 cs1 cs2 cs3:List Value} (w:World) (w0:Wf (whole w) (.struct [(.int .i64),(.int .i64),(.int .i64),(.int .i64)]) cs0) (l0:cs0.length=Sh.n (.struct [(.int .i64),(.int .i64),(.int .i64),(.int .i64)])) (w1:Wf (whole w) (.struct [(.slice (.struct [(.int .i64),(.struct [(.int .i64),(.int .i64),(.int .i64),(.int .i64),(.int .i64),(.int .i64),.bool,.bool]),(.int .u64),(.int .u64),.bool])),(.int .u64),(.int .i64),(.array 32 (.int .u64)),.bool,.bool,(.slice (.struct [(.int .i64),(.int .u64),(.int .i64),(.int .u64)]))]) cs1) (l1:cs1.length=Sh.n (.struct [(.slice (.struct [(.int .i64),(.struct [(.int .i64),(.int .i64),(.int .i64),(.int .i64),(.int .i64),(.int .i64),.bool,.bool]),(.int .u64),(.int .u64),.bool])),(.int .u64),(.int .i64),(.array 32 (.int .u64)),.bool,.bool,(.slice (.struct [(.int .i64),(.int .u64),(.int .i64),(.int .u64)]))])) (w2:Wf (whole w) (.slice (.struct [(.int .u64),.bool,(.array 8 (.struct [.bool,.bool,.bool,(.int .u64),(.int .i64)]))])) cs2) (l2:cs2.length=Sh.n (.slice (.struct [(.int .u64),.bool,(.array 8 (.struct [.bool,.bool,.bool,(.int .u64),(.int .i64)]))]))) (w3:Wf (whole w) (.array 8 (.struct [.bool,.bool,.bool,(.int .u64),(.int .i64)])) cs3) (l3:cs3.length=Sh.n (.array 8 (.struct [.bool,.bool,.bool,(.int .u64),(.int .i64)]))) :
  Calls Tryz.prog 6 #[Sh.v (.struct [(.int .i64),(.int .i64),(.int .i64),(.int .i64)]) cs0,Sh.v (.struct [(.slice (.struct [(.int .i64),(.struct [(.int .i64),(.int .i64),(.int .i64),(.int .i64),(.int .i64),(.int .i64),.bool,.bool]),(.int .u64),(.int .u64),.bool])),(.int .u64),(.int .i64),(.array 32 (.int .u64)),.bool,.bool,(.slice (.struct [(.int .i64),(.int .u64),(.int .i64),(.int .u64)]))]) cs1,Sh.v (.slice (.struct [(.int .u64),.bool,(.array 8 (.struct [.bool,.bool,.bool,(.int .u64),(.int .i64)]))])) cs2,Sh.v (.array 8 (.struct [.bool,.bool,.bool,(.int .u64),(.int .i64)])) cs3] w fun e w'=>e=.returned (.bool true)∧Below w.heap.size w w' :=
 X.law (hartNone_w w w0 l0 w1 l1 w2 l2 w3 l3)
set_option maxRecDepth 100000 in
theorem lifted (os:Os) (started:os.Started) (H:Type) (enc:TypeId×Value→H) :
  ReturnsInHanded {} Tryz.checked os 6 .any (Rows.hartNoneSpec.pre6 enc Tryz.prog Tryz.f6 Rows.hartNoneRow.domain false) (Rows.hartNoneSpec.post enc Tryz.prog Tryz.f6 false true false false):=by
 refine returnsInHanded_of_change_shaped (C:=Tryz.checked) own started (by kernel_rfl) Tryz.func6
  (ChangeSpec.witness6 (enc:=enc) (C:=Tryz.checked) false ⟨#[],#[(.agg #[.int .i64 0,.int .i64 0,.int .i64 0,.int .i64 0]),(.agg #[.slice none 0 0,.int .u64 0,.int .i64 0,.int .u64 0,.int .u64 0,.int .u64 0,.int .u64 0,.int .u64 0,.int .u64 0,.int .u64 0,.int .u64 0,.int .u64 0,.int .u64 0,.int .u64 0,.int .u64 0,.int .u64 0,.int .u64 0,.int .u64 0,.int .u64 0,.int .u64 0,.int .u64 0,.int .u64 0,.int .u64 0,.int .u64 0,.int .u64 0,.int .u64 0,.int .u64 0,.int .u64 0,.int .u64 0,.int .u64 0,.int .u64 0,.int .u64 0,.int .u64 0,.int .u64 0,.int .u64 0,.bool false,.bool false,.slice none 0 0]),.slice none 0 0,(.agg #[.bool false,.bool false,.bool false,.int .u64 0,.int .i64 0,.bool false,.bool false,.bool false,.int .u64 0,.int .i64 0,.bool false,.bool false,.bool false,.int .u64 0,.int .i64 0,.bool false,.bool false,.bool false,.int .u64 0,.int .i64 0,.bool false,.bool false,.bool false,.int .u64 0,.int .i64 0,.bool false,.bool false,.bool false,.int .u64 0,.int .i64 0,.bool false,.bool false,.bool false,.int .u64 0,.int .i64 0,.bool false,.bool false,.bool false,.int .u64 0,.int .i64 0])],[]⟩ 8 (by kernel_rfl) (by kernel_rfl) (by kernel_rfl) (by kernel_rfl)) ?_
 intro W base args ds gs before hval0 hW hcnd hz0 hsh _
 have hval:∀ (j:Nat) t v,Tryz.f6.params[j]? = some t→args[j]? = some v→Value.okWide Tryz.prog W .any base t v:=hval0
 have hW':=hW
 obtain ⟨p,q,hA0,hV,rfl,hfz,hnd⟩:=hW
 have hA:DataW.TrodAll enc Tryz.prog W 0 (fun _=>true) true Tryz.f6.params.toList args.toList ds p:=hA0
 rw [Tryz.params6] at hA hval
 obtain ⟨v0,vs0,d0,ds0,p0,q0,hargs,rfl,rfl,h0,r0⟩:=trodAll_cons hA
 obtain ⟨v1,vs1,d1,ds1,p1,q1,rfl,rfl,rfl,h1,r1⟩:=trodAll_cons r0
 obtain ⟨v2,vs2,d2,ds2,p2,q2,rfl,rfl,rfl,h2,r2⟩:=trodAll_cons r1
 obtain ⟨v3,vs3,d3,ds3,p3,q3,rfl,rfl,rfl,h3,r3⟩:=trodAll_cons r2
 obtain ⟨rfl,rfl,rfl⟩:=trodAll_nil r3
 obtain rfl:args=#[v0,v1,v2,v3]:=by cases args;simp_all
 obtain ⟨rfl,rfl⟩:=trodVars_none hV
 rw [Tryz.params6] at hz0
 obtain ⟨z0,hz1⟩:=weights_cons hz0
 obtain ⟨z1,hz2⟩:=weights_cons hz1
 obtain ⟨z2,hz3⟩:=weights_cons hz2
 obtain ⟨z3,hz4⟩:=weights_cons hz3
 have k0:=h0
 have lt0:∀ x ∈ p0,x.block<W.heap.size:=by obtain ⟨m,hm⟩:=k0;exact DataW.trod_lt m _ _ _ hm
 obtain ⟨cs0,rfl,w0,l0⟩:=arg_of (.struct [(.int .i64),(.int .i64),(.int .i64),(.int .i64)]) (by kernel_rfl) (hval 0 23 v0 rfl rfl) h0 z0
 have k1:=h1
 have lt1:∀ x ∈ p1,x.block<W.heap.size:=by obtain ⟨m,hm⟩:=k1;exact DataW.trod_lt m _ _ _ hm
 obtain ⟨cs1,rfl,w1,l1⟩:=arg_of (.struct [(.slice (.struct [(.int .i64),(.struct [(.int .i64),(.int .i64),(.int .i64),(.int .i64),(.int .i64),(.int .i64),.bool,.bool]),(.int .u64),(.int .u64),.bool])),(.int .u64),(.int .i64),(.array 32 (.int .u64)),.bool,.bool,(.slice (.struct [(.int .i64),(.int .u64),(.int .i64),(.int .u64)]))]) (by kernel_rfl) (hval 1 29 v1 rfl rfl) h1 z1
 have k2:=h2
 have lt2:∀ x ∈ p2,x.block<W.heap.size:=by obtain ⟨m,hm⟩:=k2;exact DataW.trod_lt m _ _ _ hm
 obtain ⟨cs2,rfl,w2,l2⟩:=arg_of (.slice (.struct [(.int .u64),.bool,(.array 8 (.struct [.bool,.bool,.bool,(.int .u64),(.int .i64)]))])) (by kernel_rfl) (hval 2 30 v2 rfl rfl) h2 z2
 have k3:=h3
 have lt3:∀ x ∈ p3,x.block<W.heap.size:=by obtain ⟨m,hm⟩:=k3;exact DataW.trod_lt m _ _ _ hm
 obtain ⟨cs3,rfl,w3,l3⟩:=arg_of (.array 8 (.struct [.bool,.bool,.bool,(.int .u64),(.int .i64)])) (by kernel_rfl) (hval 3 61 v3 rfl rfl) h3 z3
 clear hA0 hval0
 refine (walk W w0 l0 w1 l1 w2 l2 w3 l3).mono fun e W' ⟨he,bel⟩=>?_
 subst he
 exact ⟨_,rfl,_,_,_,[],_,[],hW',trodAll_mk1 (shut_bool Tryz.underlying4 _),(trodAll_cons_mk (Below.trod laidOut (by kernel_rfl) (of_decide_eq_true (by kernel_rfl)) k0 bel lt0) (trodAll_cons_mk (Below.trod laidOut (by kernel_rfl) (of_decide_eq_true (by kernel_rfl)) k1 bel lt1) (trodAll_cons_mk (Below.trod laidOut (by kernel_rfl) (of_decide_eq_true (by kernel_rfl)) k2 bel lt2) (trodAll_cons_mk (Below.trod laidOut (by kernel_rfl) (of_decide_eq_true (by kernel_rfl)) k3 bel lt3) trodAll_mk0)))),rfl,bel.frame _,fun h=>by cases h⟩
set_option maxHeartbeats 400000000 in
set_option maxRecDepth 100000 in
theorem closed:joinedFacts Tryz.checked.prog 6 Tryz.f6 Rows.hartNoneSpec Rows.hartNoneRow=true:=by
 unfold joinedFacts
 repeat' (with_reducible refine (Bool.and_eq_true_iff.2 ⟨?_,?_⟩))
 all_goals (as_aux_lemma=>kernel_rfl)
theorem over:Rows.hartNoneRow.holds Tryz.pinned (OpenSpec.ofChange Rows.hartNoneSpec) :=
 OpenClaim.holds_of_wide 6 Tryz.f6 rfl rfl rfl rfl rfl rfl rfl ⟨rfl,rfl,rfl,rfl,rfl⟩ rfl rfl rfl rfl rfl (by kernel_rfl) Tryz.func6 closed
  (of_decide_eq_true (by kernel_rfl)) (by unfold Func.isWrapper;first | (rw [if_pos (by decide +kernel)];kernel_rfl) | (rw [if_neg (by decide +kernel)];exact ⟨rfl,rfl⟩))
  (fun os started H enc _=>lifted os started H enc)
theorem proved:Rows.HartNoneSaid:=over
#print axioms proved
end Go.Proofs.YtdhlpighdlnohaaGreat.hartNone
