/-
  Orders: the witness.
-/
import Derived.Test.YtnjlneefddlaoaaGreatOrG
import Derived.Test.YtnjlneefddlaoaaGreatWoB
set_option linter.unusedSimpArgs false
set_option linter.unusedVariables false
set_option maxHeartbeats 8000000
set_option maxRecDepth 10000
set_option linter.unusedSimpArgs false
set_option linter.unusedVariables false
namespace Go.Proofs.YtnjlneefddlaoaaGreat
open Go Go.Mid Go.RowKit
attribute [local irreducible] mid
section
variable {h:Hp} {K:Value→Hp→Prop}
def witL (doP:Wd→Int→Ak→Wd×An×Bool) (L:List Ev) (W:Wd):List (List Nat):=dfs (fun i k=>mustB L i k) L.length (enterW doP L) L.length W []
theorem witness_x {doP:Wd→Int→Ak→Wd×An×Bool} {L:List Ev} (hD:DoH doP L) {k:Hp} {w:Nat} {W:Wd} (o:WoN k h w W) (ls:Value) (hL:RdE h ls L) (hl:L.length≤9)
  (hk0:witL doP L W=[]→∀ h',h.le h'→K (.tuple #[.slice none 0 0,.int .i64 6]) h') (hk1:∀ q R sl h',witL doP L W=q :: R→h.le h'→Rd Tryz.prog 3 1 h' sl (q.map ni)→K (.tuple #[sl,.int .i64 0]) h'):X Tryz.prog 22 #[wpt w,ls] h K:=by
 obtain ⟨base,cap,rfl,fL⟩:=rdE hL
 refine fnv (args:=_) mixed [] [] [] Tryz.func22 rfl (by kernel_rfl) (cw_ ?_)
 refine new_intro (o:=rowO 22 [.slice base L.length cap]) (fun lb h1 n_lb le_lb at_lb ot_lb=>cw_ ?_)
 refine ⟨_,loadC0 aggEs at_lb rfl,cw_ ?_⟩
 refine bf_ ?_
 refine flatClone_x (o.up le_lb) (wok_len o.ok) fun w' h2 o2=>(cw_ ?_)
 refine new_intro (o:=_) (fun nb h3 n_nb le_nb at_nb ot_nb=>cw_ ?_)
 refine wr_intro (by exact storeC0 sizWp at_nb (Nat.zero_lt_succ 0) rfl rfl) (fun h4 at_h4 ot_h4=>cw_ ?_)
 refine new_intro (o:=_) (fun z0 h5 n_z0 le_z0 at_z0 ot_z0=>cw_ ?_)
 refine new_intro (o:=_) (fun tb h6 n_tb le_tb at_tb ot_tb=>cw_ ?_)
 refine wr_intro (by exact storeC0 sizIs at_tb (Nat.zero_lt_succ 0) rfl rfl) (fun h7 at_h7 ot_h7=>cw_ ?_)
 refine new_intro (o:=_) (fun kb h8 n_kb le_kb at_kb ot_kb=>cw_ ?_)
 refine wr_intro (by exact storeC0 sizBo at_kb (Nat.zero_lt_succ 0) rfl rfl) (fun h9 at_h9 ot_h9=>cw_ ?_)
 have l29:h2.le h9:=fun x q e=>by
  have e3:=le_nb _ _ e
  have n1:=Hp.ne n_nb e
  have e4:=(ot_h4 x n1).trans e3
  have e5:=le_z0 _ _ e4
  have e6:=le_tb _ _ e5
  have e7:=(ot_h7 x (Hp.ne n_tb e5)).trans e6
  rw [ot_h9 x (Hp.ne n_kb e7)]
  exact le_kb _ _ e7
 have k1:=o2.le
 have nb5:=le_z0 _ _ at_h4
 have nb7:=(ot_h7 nb (Hp.ne n_tb nb5)).trans (le_tb _ _ nb5)
 have nb9:h9 nb=some (rowO wpT [wpt w']):=(ot_h9 nb (Hp.ne n_kb nb7)).trans (le_kb _ _ nb7)
 have tb9:h9 tb=some (rowO 29 [.slice (some ⟨z0,0,none⟩) 0 0]):=(ot_h9 tb (Hp.ne n_kb at_h7)).trans (le_kb _ _ at_h7)
 have gnb:h2 nb=none:=n_nb
 have gtb:h2 tb=none:=by
  cases hq:h2 tb with
  | none=>rfl
  | some q =>
   have:=Hp.ne n_tb (le_z0 _ _ ((ot_h4 tb (Hp.ne n_nb hq)).trans (le_nb _ _ hq)))
   exact absurd rfl this
 have gkb:h2 kb=none:=by
  cases hq:h2 kb with
  | none=>rfl
  | some q =>
   have e5:=le_z0 _ _ ((ot_h4 kb (Hp.ne n_nb hq)).trans (le_nb _ _ hq))
   exact absurd rfl (Hp.ne n_kb ((ot_h7 kb (Hp.ne n_tb e5)).trans (le_tb _ _ e5)))
 have hJ:WitJ h1 nb tb kb (witL doP L W) [(.nilFunc,W)] 0 true h9:=⟨⟨w',h2,nb9,o2,l29,gnb,gtb,gkb⟩,.inl ⟨rfl,rfl,⟨_,tb9⟩,at_h9⟩⟩
 have lb9:=l29 _ _ (k1 _ _ at_lb)
 clear at_h9 ot_h9 at_h7 ot_h7 at_h4 ot_h4 nb5 nb7 nb9 tb9 gnb gtb gkb at_kb at_tb at_nb ot_kb ot_tb ot_nb at_z0 ot_z0
 refine ⟨_,loadC0 aggEs lb9 rfl,cw_ ?_⟩
 refine ⟨_,loadC0 aggEs lb9 rfl,cw_ ?_⟩
 generalize hA:actOf Tryz.prog _ _=A
 have hB:=act_if hA rfl ⟨by omega,by omega,by omega,by show (8:Int)*_≤_;omega,by decide⟩
 subst hB
 clear hA
 conv=>whnf
 refine new_intro (o:=_) (fun ub h10 n_ub le_ub at_ub ot_ub=>?_)
 have at_ub:h10 ub=some (rowO 3 (usedC L.length [])):=by
  refine at_ub.trans ?_
  show some (Obj.cells (zeroRow #[.int .i64 0] (((L.length:Int)).toNat*1)) _ _)=_
  rw [zeroRow_one,Int.toNat_natCast,Nat.mul_one]
  have:usedC L.length []=List.replicate L.length (.int .i64 0):=by
   unfold usedC
   rw [show (fun i=>Value.int .i64 ((if i ∈ ([]:List Nat) then 1 else 0:Nat):Int))=fun _=>.int .i64 0 from funext fun i=>by simp,List.map_const',List.length_range]
  rw [this]
 conv=>whnf
 refine new_intro (o:=_) (fun s h11 n_s le_s at_s ot_s=>cw_ ?_)
 refine wr_intro (by exact storeC (i:=3) (show sizeT Tryz.prog 38 = some 1 by kernel_rfl) at_s (show 3<5 by decide) rfl rfl) (fun h12 at_h12 ot_h12=>cw_ ?_)
 refine wr_intro (by exact storeC (i:=4) (show sizeT Tryz.prog 31 = some 1 by kernel_rfl) at_h12 (show 4<5 by decide) rfl rfl) (fun h13 at_h13 ot_h13=>cw_ ?_)
 have at_h13:h13 s=some (rowO seaT [.slice base L.length cap,.slice (some ⟨ub,0,none⟩) L.length L.length,.slice none 0 0,.func (.func 29) #[] #[wpt nb,wpt lb],.func (.func 32) #[] #[wpt tb,wpt kb]]):=at_h13
 have ot13:∀ x,x≠s→h13 x=h11 x:=fun x hx=>(ot_h13 x hx).trans (ot_h12 x hx)
 have le13:h10.le h13:=Hp.le_st n_s le_s ot13
 have r13:SrN h9 h13 s (.slice base L.length cap) L.length [] (.func (.func 29) #[] #[wpt nb,wpt lb]) (.func (.func 32) #[] #[wpt tb,wpt kb]):=⟨Hp.le_trans le_ub le13,ub,_,none,at_h13,le13 _ _ at_ub,Gr.nil,Hp.none_le le_ub n_s,n_ub,fun x e=>by cases e⟩
 have hL1:=hL.le le_lb
 have H:SeaH (WitJ h1 nb tb kb (witL doP L W)) (enterW doP L) (fun _=>false) (.func (.func 29) #[] #[wpt nb,wpt lb]) (.func (.func 32) #[] #[wpt tb,wpt kb]) (.slice base L.length cap) L (witL doP L W) :=
  ⟨fun st m b g j=>hL1.le j.le,fun c w st m p g hp j=>(enter_x hD at_lb hL1 hp hl j).mono fun v g' hv=>by revert hv;cases enterW doP L w p <;> exact id,fun c w x st m b g j=>leave_x j,fun c w st m o g gp sl hm j hO=>⟨_,_,_,rfl,by kernel_rfl,found_x hm j hO⟩⟩
 clear at_h13 ot13 at_h12 ot_h12 ot_h13 at_s ot_s at_ub ot_ub
 refine goOn_x H hl s L.length [] 0 W .nilFunc [] h9 h13 _ (by simp) r13 hJ (fun i x hx=>by rw [Nat.zero_add];exact hx) fun b m' g' h' hrun r' hJ'=>?_
 have hle:h.le h':=Hp.le_trans le_lb (Hp.le_trans hJ'.le r'.le)
 have hrun:runP (fun _=>false) 0 (witL doP L W).length=(m',b):=hrun
 rcases hJ'.out with ⟨rfl,rfl,⟨s0,e3⟩,e4⟩ | ⟨rfl,rfl,sl,q,obq,e3,e4,e5,e6⟩
 ·have hnil:witL doP L W=[]:=by
   cases hq:witL doP L W with
   | nil=>rfl
   | cons a r=>rw [hq] at hrun;cases hrun
  have hk:=hk0 hnil h' hle
  conv=>whnf
  refine ⟨_,loadC0 aggBo (r'.le _ _ e4) rfl,cw_ ?_⟩
  exact hk
 ·obtain ⟨R,hR⟩:∃ R,witL doP L W=q :: R:=by
   cases hq:witL doP L W with
   | nil=>rw [hq] at e3;cases e3
   | cons a r=>rw [hq] at e3;cases e3;exact ⟨r,rfl⟩
  have hk:=hk1 q R sl h' hR hle ((e6.le r'.le).rd aggIn)
  conv=>whnf
  refine ⟨_,loadC0 aggBo (r'.le _ _ e5) rfl,cw_ ?_⟩
  refine ⟨_,loadC0 aggIs (r'.le _ _ e4) rfl,cw_ ?_⟩
  exact hk
end
end Go.Proofs.YtnjlneefddlaoaaGreat
