/-
  Which pages may be mapped into tables, what entries that makes, how many frames, and what is found for any address, is as the document says; tables that aren't there have nothing.
  It stands for every value of its parameters, where the listed package-level variables read as the program's text lays them (the card ties them to it).
-/
import Derived.Test.YtdhkjcdneidgaaaGreatDoorRows
import Derived.Test.YtdhkjcdneidgaaaGreatDoorCards
import Derived.Test.YtdhkjcdneidgaaaGreatDoorTie
import Derived.WalkKit
import Derived.ProofKit
import Derived.OpenShut
import Derived.ChangeOld
import Derived.Below
import Derived.LaidMore
import Derived.Lay
import Derived.SevenTiedAt
import Derived.Deep.DeepHandedRow
import Derived.Stop.Joined
import Derived.Test.YtdhkjcdneidgaaaGreatDoorImLc
namespace Go.Proofs.YtdhkjcdneidgaaaGreatDoor.imageTables
set_option linter.unusedSimpArgs false
set_option linter.unusedVariables false
set_option linter.unusedSimpArgs false
set_option linter.unusedVariables false
open Go.ChangeShapes Go.WideShapes Go.ChangeAt Go.RowKit Go.Mid
set_option linter.unusedVariables false
theorem own:ownKnob Tryz.prog.godebug=none:=by kernel_rfl
theorem laidOut:laidOutB Tryz.prog=true:=by kernel_rfl
theorem walk {cs0 cs1 cs2:List Value} (w:World) (hsh:w.ShapedOpen Tryz.prog) (hL:laidMetH Tryz.prog Rows.imageTablesRow.laid w) (w0:Wf (whole w) (.int .u64) cs0) (l0:cs0.length=Sh.n (.int .u64)) (w1:Wf (whole w) (.slice (.struct [(.int .u64),(.int .u64),(.int .i64),(.int .u64)])) cs1) (l1:cs1.length=Sh.n (.slice (.struct [(.int .u64),(.int .u64),(.int .i64),(.int .u64)]))) (w2:Wf (whole w) (.int .u64) cs2) (l2:cs2.length=Sh.n (.int .u64)) :
  Calls Tryz.prog 4 #[Sh.v (.int .u64) cs0,Sh.v (.slice (.struct [(.int .u64),(.int .u64),(.int .i64),(.int .u64)])) cs1,Sh.v (.int .u64) cs2] w fun e w'=>e=.returned (.bool true)∧Below w.heap.size w w' :=
 X.law (imageTables_w w hsh hL w0 l0 w1 l1 w2 l2)
abbrev met (w:World):Prop:=laidMetH Tryz.prog Rows.imageTablesRow.laid w
set_option maxRecDepth 100000 in
theorem lifted (os:Os) (started:os.Started) (H:Type) (enc:TypeId×Value→H) (F:Stop.Interp) :
  ReturnsInHanded {} Tryz.checked os 4 .any ((OpenSpec.ofChange Rows.imageTablesSpec).preRow enc Tryz.prog Tryz.f4 Rows.imageTablesRow.domain false Rows.imageTablesRow.laid) (((OpenSpec.ofChange Rows.imageTablesSpec).at F).post enc Tryz.prog Tryz.f4 false true false false):=by
 refine returnsInHanded_of_row (C:=Tryz.checked) (s:=OpenSpec.ofChange Rows.imageTablesSpec) own started (by kernel_rfl) Tryz.func4
  (ChangeSpec.witness_shaped (enc:=enc) (C:=Tryz.checked) (os:=os) (X:=fun w _=>laidMetH Tryz.prog Rows.imageTablesRow.laid w) false (World.laidAll Tryz.prog os Rows.imageTablesRow.laid) #[.int .u64 0,.slice none 0 0,.int .u64 0] 8 (World.laidAll_os _ _ _)
   (World.shaped_of_ZipB (by kernel_rfl) (by kernel_rfl)) (by kernel_rfl) (by kernel_rfl) (by kernel_rfl)
   (by rw [MakeChecks.laidMetH_plain _ _ _ (by kernel_rfl)];exact laidMet_laidAll _ (by kernel_rfl) (by kernel_rfl))) ?_
 intro W base args ds gs before hval0 hW _ _ hz0 hL hsh _
 suffices hh:Calls Tryz.prog 4 args W fun e W'=>∃ v,e=.returned v∧Rows.imageTablesSpec.post enc Tryz.prog Tryz.f4 false true false false W args v W' from hh
 have hval:∀ (j:Nat) t v,Tryz.f4.params[j]? = some t→args[j]? = some v→Value.okWide Tryz.prog W .any base t v:=hval0
 have hW':=hW
 obtain ⟨p,q,hA0,hV,rfl,hfz,hnd⟩:=hW
 have hA:DataW.TrodAll enc Tryz.prog W 0 (fun _=>true) true Tryz.f4.params.toList args.toList ds p:=hA0
 rw [Tryz.params4] at hA hval
 obtain ⟨v0,vs0,d0,ds0,p0,q0,hargs,rfl,rfl,h0,r0⟩:=trodAll_cons hA
 obtain ⟨v1,vs1,d1,ds1,p1,q1,rfl,rfl,rfl,h1,r1⟩:=trodAll_cons r0
 obtain ⟨v2,vs2,d2,ds2,p2,q2,rfl,rfl,rfl,h2,r2⟩:=trodAll_cons r1
 obtain ⟨rfl,rfl,rfl⟩:=trodAll_nil r2
 obtain rfl:args=#[v0,v1,v2]:=by cases args;simp_all
 obtain ⟨rfl,rfl⟩:=trodVars_none hV
 rw [Tryz.params4] at hz0
 have hz0:=hz0
 obtain ⟨z0,hz1⟩:=weights_cons hz0
 obtain ⟨z1,hz2⟩:=weights_cons hz1
 obtain ⟨z2,hz3⟩:=weights_cons hz2
 have k0:=h0
 have lt0:∀ x ∈ p0,x.block<W.heap.size:=by obtain ⟨m,hm⟩:=k0;exact DataW.trod_lt m _ _ _ hm
 obtain ⟨cs0,rfl,w0,l0⟩:=arg_of (.int .u64) (by kernel_rfl) (hval 0 25 v0 rfl rfl) h0 z0
 have k1:=h1
 have lt1:∀ x ∈ p1,x.block<W.heap.size:=by obtain ⟨m,hm⟩:=k1;exact DataW.trod_lt m _ _ _ hm
 obtain ⟨cs1,rfl,w1,l1⟩:=arg_of (.slice (.struct [(.int .u64),(.int .u64),(.int .i64),(.int .u64)])) (by kernel_rfl) (hval 1 40 v1 rfl rfl) h1 z1
 have k2:=h2
 have lt2:∀ x ∈ p2,x.block<W.heap.size:=by obtain ⟨m,hm⟩:=k2;exact DataW.trod_lt m _ _ _ hm
 obtain ⟨cs2,rfl,w2,l2⟩:=arg_of (.int .u64) (by kernel_rfl) (hval 2 25 v2 rfl rfl) h2 z2
 clear hA0 hval0
 refine (walk W hsh hL w0 l0 w1 l1 w2 l2).mono fun e W' ⟨he,bel⟩=>?_
 subst he
 exact ⟨_,rfl,_,_,_,[],_,[],hW',trodAll_mk1 (shut_bool Tryz.underlying4 _),(trodAll_cons_mk (Below.trod laidOut (by kernel_rfl) (of_decide_eq_true (by kernel_rfl)) k0 bel lt0) (trodAll_cons_mk (Below.trod laidOut (by kernel_rfl) (of_decide_eq_true (by kernel_rfl)) k1 bel lt1) (trodAll_cons_mk (Below.trod laidOut (by kernel_rfl) (of_decide_eq_true (by kernel_rfl)) k2 bel lt2) trodAll_mk0))),rfl,bel.frame _,fun h=>by cases h⟩
theorem over:Rows.imageTablesRow.holds Tryz.pinned (OpenSpec.ofChange Rows.imageTablesSpec) :=
 OpenClaim.holds_of_cond 4 Tryz.f4 rfl rfl rfl rfl rfl rfl rfl ⟨rfl,rfl,rfl,rfl,rfl⟩ rfl rfl rfl rfl rfl (by kernel_rfl) Tryz.func4 (by kernel_rfl)
  (of_decide_eq_true (by kernel_rfl)) (by unfold Func.isWrapper;first | (rw [if_pos (by decide +kernel)];kernel_rfl) | (rw [if_neg (by decide +kernel)];exact ⟨rfl,rfl⟩))
  (fun os started H enc _ F=>by rw [OpenClaim.pre_eq_preRow];exact lifted os started H enc F)
theorem proved:Rows.ImageTablesCardSaid :=
 Claim7.holds_tied_plain_at .later [] [.data, .data, .data, .data, .sentinel, .sentinel, .pinned] true (true, "8e231140c02433453f5cd9fd0429359a2cd99540e7a24d429a4f3656d1b3571b") true
  over (fun _ h=>by cases h) (by kernel_rfl) (fun _ h=>by cases h) imageTables_row_tie rfl ⟨rfl,rfl⟩ (by kernel_rfl) rfl
  (fun f fn hf hfn=>by
   obtain rfl : f = 4 := Option.some.inj ((show Tryz.prog.funcNamed "roebuck/roebucklaw38.ImageTables" = some 4 by kernel_rfl).symm.trans hf) |>.symm
   obtain rfl:fn=Tryz.f4:=(Option.some.inj (Tryz.func4.symm.trans hfn)).symm
   exact ⟨by kernel_rfl,fun j t ht=>by
    rw [Tryz.params4] at ht
    have hm:t ∈ [25,40,25]:=by simpa using Array.mem_of_getElem? ht
    have hall:([25,40,25].all fun u=>!Tryz.prog.wantsStandIn u)=true:=by kernel_rfl
    exact (show Tryz.prog.wantsStandIn t=false by simpa using List.all_eq_true.1 hall t hm)⟩)
  (by kernel_rfl)
#print axioms proved
end Go.Proofs.YtdhkjcdneidgaaaGreatDoor.imageTables
