/-
  What any source makes, or its first line that can't be, and why, is as the document says.
  It stands for every value of its parameters, where the listed package-level variables read as the program's text lays them (the card ties them to it).
-/
import Derived.Test.YtdhkjcdneidgaaaGreatDoorRows
import Derived.Test.YtdhkjcdneidgaaaGreatDoorCards
import Derived.Test.YtdhkjcdneidgaaaGreatDoorTie
import Derived.WalkKit
import Derived.ProofKit
import Derived.OpenShut
import Derived.ChangeOld
import Derived.Below
import Derived.LaidMore
import Derived.Lay
import Derived.SevenTiedAt
import Derived.Deep.DeepHandedRow
import Derived.Stop.Joined
import Derived.Test.YtdhkjcdneidgaaaGreatDoorImLc
set_option linter.unusedSimpArgs false
set_option linter.unusedVariables false
set_option maxHeartbeats 8000000
set_option maxRecDepth 10000
set_option linter.unusedSimpArgs false
set_option linter.unusedVariables false
namespace Go.Proofs.YtdhkjcdneidgaaaGreatDoor.imageBuilds
open Go.ChangeShapes Go.WideShapes Go.ChangeAt Go.RowKit Go.Mid
theorem own:ownKnob Tryz.prog.godebug=none:=by kernel_rfl
theorem laidOut:laidOutB Tryz.prog=true:=by kernel_rfl
theorem walk {cs0:List Value} (w:World) (hsh:w.ShapedOpen Tryz.prog) (hL:laidMetH Tryz.prog Rows.imageBuildsRow.laid w) (w0:Wf (whole w) .str cs0) (l0:cs0.length=Sh.n .str) :
  Calls Tryz.prog 3 #[Sh.v .str cs0] w fun e w'=>e=.returned (.bool true)∧Below w.heap.size w w' :=
 X.law (imageBuilds_w w hsh hL w0 l0)
abbrev met (w:World):Prop:=laidMetH Tryz.prog Rows.imageBuildsRow.laid w
set_option maxRecDepth 100000 in
theorem lifted (os:Os) (started:os.Started) (H:Type) (enc:TypeId×Value→H) (F:Stop.Interp) :
  ReturnsInHanded {} Tryz.checked os 3 .any ((OpenSpec.ofChange Rows.imageBuildsSpec).preRow enc Tryz.prog Tryz.f3 Rows.imageBuildsRow.domain false Rows.imageBuildsRow.laid) (((OpenSpec.ofChange Rows.imageBuildsSpec).at F).post enc Tryz.prog Tryz.f3 false true false false):=by
 refine returnsInHanded_of_row (C:=Tryz.checked) (s:=OpenSpec.ofChange Rows.imageBuildsSpec) own started (by kernel_rfl) Tryz.func3
  (ChangeSpec.witness_shaped (enc:=enc) (C:=Tryz.checked) (os:=os) (X:=fun w _=>laidMetH Tryz.prog Rows.imageBuildsRow.laid w) false (World.laidAll Tryz.prog os Rows.imageBuildsRow.laid) #[.string ⟨#[]⟩] 8 (World.laidAll_os _ _ _)
   (World.shaped_of_ZipB (by kernel_rfl) (by kernel_rfl)) (by kernel_rfl) (by kernel_rfl) (by kernel_rfl)
   (by rw [MakeChecks.laidMetH_plain _ _ _ (by kernel_rfl)];exact laidMet_laidAll _ (by kernel_rfl) (by kernel_rfl))) ?_
 intro W base args ds gs before hval0 hW _ _ hz0 hL hsh _
 suffices hh:Calls Tryz.prog 3 args W fun e W'=>∃ v,e=.returned v∧Rows.imageBuildsSpec.post enc Tryz.prog Tryz.f3 false true false false W args v W' from hh
 have hval:∀ (j:Nat) t v,Tryz.f3.params[j]? = some t→args[j]? = some v→Value.okWide Tryz.prog W .any base t v:=hval0
 have hW':=hW
 obtain ⟨p,q,hA0,hV,rfl,hfz,hnd⟩:=hW
 have hA:DataW.TrodAll enc Tryz.prog W 0 (fun _=>true) true Tryz.f3.params.toList args.toList ds p:=hA0
 rw [Tryz.params3] at hA hval
 obtain ⟨v0,vs0,d0,ds0,p0,q0,hargs,rfl,rfl,h0,r0⟩:=trodAll_cons hA
 obtain ⟨rfl,rfl,rfl⟩:=trodAll_nil r0
 obtain rfl:args=#[v0]:=by cases args;simp_all
 obtain ⟨rfl,rfl⟩:=trodVars_none hV
 rw [Tryz.params3] at hz0
 have hz0:=hz0
 obtain ⟨z0,hz1⟩:=weights_cons hz0
 have k0:=h0
 have lt0:∀ x ∈ p0,x.block<W.heap.size:=by obtain ⟨m,hm⟩:=k0;exact DataW.trod_lt m _ _ _ hm
 obtain ⟨cs0,rfl,w0,l0⟩:=arg_of .str (by kernel_rfl) (hval 0 9 v0 rfl rfl) h0 z0
 clear hA0 hval0
 refine (walk W hsh hL w0 l0).mono fun e W' ⟨he,bel⟩=>?_
 subst he
 exact ⟨_,rfl,_,_,_,[],_,[],hW',trodAll_mk1 (shut_bool Tryz.underlying4 _),(trodAll_cons_mk (Below.trod laidOut (by kernel_rfl) (of_decide_eq_true (by kernel_rfl)) k0 bel lt0) trodAll_mk0),rfl,bel.frame _,fun h=>by cases h⟩
theorem over:Rows.imageBuildsRow.holds Tryz.pinned (OpenSpec.ofChange Rows.imageBuildsSpec) :=
 OpenClaim.holds_of_cond 3 Tryz.f3 rfl rfl rfl rfl rfl rfl rfl ⟨rfl,rfl,rfl,rfl,rfl⟩ rfl rfl rfl rfl rfl (by kernel_rfl) Tryz.func3 (by kernel_rfl)
  (of_decide_eq_true (by kernel_rfl)) (by unfold Func.isWrapper;first | (rw [if_pos (by decide +kernel)];kernel_rfl) | (rw [if_neg (by decide +kernel)];exact ⟨rfl,rfl⟩))
  (fun os started H enc _ F=>by rw [OpenClaim.pre_eq_preRow];exact lifted os started H enc F)
theorem proved:Rows.ImageBuildsCardSaid :=
 Claim7.holds_tied_plain_at .later [] [.data, .data, .data, .data, .sentinel, .sentinel, .pinned] true (true, "8e231140c02433453f5cd9fd0429359a2cd99540e7a24d429a4f3656d1b3571b") true
  over (fun _ h=>by cases h) (by kernel_rfl) (fun _ h=>by cases h) imageBuilds_row_tie rfl ⟨rfl,rfl⟩ (by kernel_rfl) rfl
  (fun f fn hf hfn=>by
   obtain rfl : f = 3 := Option.some.inj ((show Tryz.prog.funcNamed "roebuck/roebucklaw38.ImageBuilds" = some 3 by kernel_rfl).symm.trans hf) |>.symm
   obtain rfl:fn=Tryz.f3:=(Option.some.inj (Tryz.func3.symm.trans hfn)).symm
   exact ⟨by kernel_rfl,fun j t ht=>by
    rw [Tryz.params3] at ht
    have hm:t ∈ [9]:=by simpa using Array.mem_of_getElem? ht
    have hall:([9].all fun u=>!Tryz.prog.wantsStandIn u)=true:=by kernel_rfl
    exact (show Tryz.prog.wantsStandIn t=false by simpa using List.all_eq_true.1 hall t hm)⟩)
  (by kernel_rfl)
#print axioms proved
end Go.Proofs.YtdhkjcdneidgaaaGreatDoor.imageBuilds
