/-
  Orders: the search goes on.
-/
import Derived.Test.YtnjlneefddlaoaaGreatOrD
set_option linter.unusedSimpArgs false
set_option linter.unusedVariables false
set_option maxHeartbeats 8000000
set_option maxRecDepth 10000
set_option linter.unusedSimpArgs false
set_option linter.unusedVariables false
namespace Go.Proofs.YtnjlneefddlaoaaGreat
open Go Go.Mid Go.RowKit
attribute [local irreducible] mid
section
theorem aggFo:isAggT Tryz.prog 31 = some false:=by kernel_rfl
theorem aggEf:isAggT Tryz.prog 38 = some false:=by kernel_rfl
theorem goOn_x {W:Type} {J:List (Value×W)→Nat→Bool→Hp→Prop} {enter:W→Nat→Option W} {more:Nat→Bool} {ef ff ls:Value} {L:List Ev} {all:List (List Nat)} (H:SeaH J enter more ef ff ls L all) (hl:L.length≤9) (s:Nat) :
  ∀ (f:Nat) (o:List Nat) (m:Nat) (w:W) (c:Value) (st:List (Value×W)) (g h:Hp) (K:Value→Hp→Prop),o.length+f=L.length→SrN g h s ls L.length o ef ff→J ((c,w) :: st) m true g→(∀ i x,(dfs (fun i k=>mustB L i k) L.length enter f w o)[i]? = some x→all[m+i]? = some x) →
  (∀ b m' g' h',runP more m (dfs (fun i k=>mustB L i k) L.length enter f w o).length=(m',b)→SrN g' h' s ls L.length o ef ff→J ((c,w) :: st) m' b g'→K (.bool b) h')→X Tryz.prog 17 #[.pointer (some ⟨s,0,none⟩)] h K
 | 0,o,m,w,c,st,g,h,K,hf,r,hJ,hall,hk=>by
  have r0:=r
  obtain ⟨le,ub,os,ob,h1,h2,h3,h4,h5,h6⟩:=r0
  obtain ⟨base,cap,rfl,fL⟩:=rdE (H.rd _ _ _ _ hJ)
  obtain ⟨a3,c3,rfl⟩:=h3.shape
  refine fnv (args:=_) mixed [] [] [21] Tryz.func17 rfl (by kernel_rfl) (cw_ ?_)
  refine ⟨_,loadC (i:=2) aggIs h1 rfl,cw_ ?_⟩
  refine ⟨_,loadC0 aggEs h1 rfl,cw_ ?_⟩
  refine bt_ ?_
  have hs:∀ {z:Hp},h.le z→z s=some (rowO seaT [.slice base L.length cap,.slice (some ⟨ub,0,none⟩) L.length L.length,.slice a3 o.length c3,ef,ff]):=fun e=>e _ _ h1
  refine ⟨fun z=>z s=some (rowO seaT [.slice base L.length cap,.slice (some ⟨ub,0,none⟩) L.length L.length,.slice a3 o.length c3,ef,ff]),h1,cw_ ?_⟩
  refine ⟨_,fun _ e=>loadC (i:=4) aggFo e rfl,cw_ ?_⟩
  refine ⟨_,loadC (i:=2) aggIs h1 rfl,cw_ ?_⟩
  refine cloneI_x h3 (by omega) fun sl h2' hO=>?_
  refine ⟨hs hO.le,cw_ ?_⟩
  have hm:all[m]? = some o:=by have:=hall 0 o rfl;rwa [Nat.add_zero] at this
  obtain ⟨gp,hOg,hrp⟩:=r.piece hO
  refine aRunK_yv rfl rfl rfl ((H.fnd c w st m o g gp sl hm hJ hOg).yv hrp.le fun v g' h' hv u=>?_)
  obtain ⟨rfl,hJ'⟩:=hv
  obtain ⟨lp,hsp,hn⟩:=hrp.own
  refine ⟨u.kept _ _ (hs hO.le) hn,cw_ ?_⟩
  exact hk (more m) (m+1) g' h' (by
   show (if more m=true then runP more (m+1) 0 else (m+1,false))=_
   cases more m <;> rfl) (hrp.turned u) hJ'
 | f+1,o,m,w,c,st,g,h,K,hf,r,hJ,hall,hk=>by
  have ih:=goOn_x H hl s f
  have r0:=r
  obtain ⟨le,ub,os,ob,h1,h2,h3,h4,h5,h6⟩:=r0
  obtain ⟨base,cap,els,fL⟩:=rdE (H.rd _ _ _ _ hJ)
  subst els
  obtain ⟨a3,c3,rfl⟩:=h3.shape
  obtain ⟨sub,hsub⟩:∃ sub:Nat→List (List Nat),∀ p,sub p=if readyB (fun i k=>mustB L i k) L.length o p=true then match enter w p with
   | none=>[]
   | some w'=>dfs (fun i k=>mustB L i k) L.length enter f w' (o++[p]) else []:=⟨_,fun _=>rfl⟩
  have hdfs:dfs (fun i k=>mustB L i k) L.length enter (f+1) w o=(List.range L.length).flatMap sub:=by
   rw [show sub=_ from funext hsub];rfl
  rw [hdfs] at hall hk
  clear hdfs
  obtain ⟨cnt,hc⟩:∃ cnt:Nat→Nat,∀ j,cnt j=((List.range j).flatMap sub).length:=⟨_,fun _=>rfl⟩
  have hc0:cnt 0=0:=by rw [hc];rfl
  have hcs:∀ j,cnt (j+1)=cnt j+(sub j).length:=fun j=>by rw [hc,hc,List.range_succ,List.flatMap_append,List.length_append];simp
  have hsp:∀ j,j<L.length→∃ R,(List.range L.length).flatMap sub=(List.range j).flatMap sub++(sub j++R):=fun j hj=>by
   obtain ⟨d,hd⟩:∃ d,L.length=j+1+d:=⟨L.length - (j+1),by omega⟩
   refine ⟨((List.range d).map (fun x=>j+1+x)).flatMap sub,?_⟩
   rw [hd,List.range_add,List.flatMap_append,List.range_succ,List.flatMap_append,List.append_assoc]
   simp
  have hallj:∀ j,j<L.length→∀ i x,(sub j)[i]? = some x→all[m+cnt j+i]? = some x:=fun j hj i x hx=>by
   obtain ⟨R,hR⟩:=hsp j hj
   have:=hall (cnt j+i) x (by
    rw [hR,hc,List.getElem?_append_right (by omega),Nat.add_sub_cancel_left,List.getElem?_append_left (List.getElem?_eq_some_iff.1 hx).1,hx])
   rwa [← Nat.add_assoc] at this
  have hstop:∀ j m'',j<L.length→runP more m (cnt (j+1))=(m'',false)→runP more m ((List.range L.length).flatMap sub).length=(m'',false):=fun j m'' hj e=>by
   obtain ⟨R,hR⟩:=hsp j hj
   rw [hR,← List.append_assoc,List.length_append,List.length_append,← hc,← hcs,runP_add,e]
   rfl
  have hstep:∀ j m',runP more m (cnt j)=(m',true)→runP more m (cnt (j+1))=runP more m' (sub j).length∧m'=m+cnt j:=fun j m' e=>by
   refine ⟨by rw [hcs,runP_add,e];rfl,?_⟩
   have:=runP_true (more:=more) (a:=cnt j) (m:=m) (by rw [e])
   rw [e] at this;exact this
  have hend:∀ m',runP more m (cnt L.length)=(m',true)→runP more m ((List.range L.length).flatMap sub).length=(m',true):=fun m' e=>by rw [← hc];exact e
  refine fnv (args:=_) mixed [] [] [21] Tryz.func17 rfl (by kernel_rfl) (cw_ ?_)
  refine ⟨_,loadC (i:=2) aggIs h1 rfl,cw_ ?_⟩
  refine ⟨_,loadC0 aggEs h1 rfl,cw_ ?_⟩
  refine bf_ ?_
  refine ⟨_,loadC0 aggEs h1 rfl,cw_ ?_⟩
  refine loop_at [33] [] (fun r vs _ h'=>∃ j:Nat,j≤L.length∧r=L.length - j∧vs=[.v (.int .i64 j)]∧∃ g' m',SrN g' h' s (.slice base L.length cap) L.length o ef ff∧J ((c,w) :: st) m' true g'∧runP more m (cnt j)=(m',true)) L.length ⟨0,by omega,by omega,rfl,g,m,r,hJ,by rw [hc0];rfl⟩ ?_
  clear hJ h6 h5 h4 h3 h2 h1 r le fL
  rintro r vs cs mm bx h1 ⟨j,hj,rfl,rfl,g1,m1,r1,hJ1,hrun⟩
  conv=>whnf
  refine br_ (fun q1=>?_) fun q1=>?_
  ·have hjL:j<L.length:=by omega
   obtain ⟨hstep1,hm1⟩:=hstep j m1 hrun
   have hrd:=(H.rd _ _ _ _ hJ1)
   conv=>whnf
   refine ready_x r1 (hrd.le r1.le) j hjL (by omega) ?_
   cases hre:readyB (fun i k=>mustB L i k) L.length o j with
   | false =>
    have hs0:sub j=[]:=by rw [hsub,if_neg (by rw [hre];decide)]
    conv=>whnf
    refine n_ ?_
    exact ⟨L.length - (j+1),by omega,j+1,by omega,rfl,rfl,g1,m1,r1,hJ1,by rw [hstep1,hs0];rfl⟩
   | true =>
    have hs1:=hsub j
    rw [if_pos hre] at hs1
    obtain ⟨le1,ub1,os1,ob1,e1,e2,e3,e4,e5,e6⟩:=id r1
    conv=>whnf
    refine ⟨_,loadC (i:=3) aggEf e1 rfl,cw_ ?_⟩
    refine aRunK_yv rfl rfl rfl ((H.ent c w st m1 j g1 hjL hJ1).yv r1.le fun v g2 h2 hv u=>?_)
    have r2:=r1.turned u
    clear e1 e2 e3 e4 e5 e6
    cases he:enter w j with
    | none =>
     rw [he] at hv hs1
     obtain ⟨⟨lv,rfl⟩,hJ2⟩:=hv
     conv=>whnf
     refine n_ ?_
     exact ⟨L.length - (j+1),by omega,j+1,by omega,rfl,rfl,g2,m1,r2,hJ2,by rw [hstep1,hs1];rfl⟩
    | some w' =>
     rw [he] at hv hs1
     obtain ⟨lv,rfl,hJ2⟩:=hv
     have hs1:sub j=dfs (fun i k=>mustB L i k) L.length enter f w' (o++[j]):=hs1
     obtain ⟨le2,ub,os,ob,e1,e2,e3,e4,e5,e6⟩:=id r2
     obtain ⟨a3,c3,rfl⟩:=e3.shape
     have hno:j ∉ o:=by
      unfold readyB at hre
      rw [Bool.and_eq_true] at hre
      exact of_decide_eq_true hre.2
     have usb:ub≠s:=fun e=>by subst e;rw [e1] at e2;exact absurd (rowO_el (Option.some.inj e2)) (by decide)
     conv=>whnf
     refine ⟨_,loadC (i:=1) aggIs e1 rfl,cw_ ?_⟩
     refine n_ ?_
     refine wr_intro (by exact storeI sizI6 e2 rfl (by rw [usedC_len];exact hjL) rfl rfl) (fun h3 at_h3 ot_h3=>cw_ ?_)
     have at_h3:h3 ub=some (rowO 3 (usedC L.length (o++[j]))):=at_h3.trans (by rw [← used_in];rfl)
     have s3:=(ot_h3 s (Ne.symm usb)).trans e1
     refine ⟨_,loadC (i:=2) aggIs s3 rfl,cw_ ?_⟩
     have g3:Gr h3 3 1 (.slice a3 o.length c3) o.length (o.map ni) ob:=e3.agree fun x e=>ot_h3 x (e6 x e).2
     have le3:g2.le h3:=fun d q e=>by rw [ot_h3 d (fun e2=>by subst e2;rw [e5] at e;cases e)];exact le2 _ _ e
     refine new_intro (o:=rowO 3 [ni j]) (fun y h4 n_y le_y at_y ot_y=>cw_ ?_)
     refine appOne (z:=.int .i64 0) (bytes:=8) (by kernel_rfl) (show Tryz.prog.info? 3 = some Tryz.prog.types[3] by kernel_rfl) (by kernel_rfl) (by kernel_rfl) (by kernel_rfl) rfl (by decide) rfl rfl rfl (g3.le le_y) at_y rfl rfl (by omega) fun s5 h5 ob5 g5 t5=>?_
     have sb:∀ x,ob=some x→x≠s:=e3.offR e1 (by decide)
     obtain ⟨le5,no5⟩:=t5.le (Hp.le_trans le3 le_y) (fun x e=>(e6 x e).1)
     obtain ⟨s5',sb5⟩:=t5.keep (le_y _ _ s3) sb
     obtain ⟨u5,ub5⟩:=t5.keep (le_y _ _ at_h3) (fun x e=>(e6 x e).2)
     obtain ⟨a5,c5,rfl⟩:=g5.shape
     conv=>whnf
     refine wr_intro (by exact storeC (i:=2) sizIs s5' (show 2<5 by decide) rfl rfl) (fun h6 at_h6 ot_h6=>cw_ ?_)
     have le6:g2.le h6:=fun d q e=>by rw [ot_h6 d (fun e2=>by subst e2;rw [e4] at e;cases e)];exact le5 _ _ e
     have r6:SrN g2 h6 s (.slice base L.length cap) L.length (o++[j]) ef ff:=⟨le6,ub,.slice a5 (o.length+1) c5,ob5,at_h6,(ot_h6 ub usb).trans u5,by
      have:=g5.agree (h':=h6) fun x e=>ot_h6 x (sb5 x e)
      rw [List.length_append,List.map_append];exact this,e4,e5,fun x e=>⟨no5 x e,ub5 x e⟩⟩
     clear at_h6 ot_h6 u5 s5' g5 t5 e1 e2 e3 e6 at_h3 ot_h3 s3 g3
     refine ih (o++[j]) m1 w' lv ((c,w) :: st) g2 h6 _ (by rw [List.length_append,List.length_singleton];omega) r6 hJ2 (fun i x hx=>?_) fun b m7 g7 h7 hrun7 r7 hJ7=>?_
     ·rw [hm1]
      exact hallj j hjL i x (by rw [hs1];exact hx)
     rw [← hs1,← hstep1] at hrun7
     obtain ⟨le7,ub7,os7,ob7,e1,e2,e3,e4,e5,e6⟩:=id r7
     have e3:Gr h7 3 1 os7 (o.length+1) (o.map ni++[ni j]) ob7:=by
      have:=e3
      rw [List.length_append,List.map_append] at this;exact this
     obtain ⟨a7,c7,rfl⟩:=e3.shape
     have usb:ub7≠s:=fun e=>by subst e;rw [e1] at e2;exact absurd (rowO_el (Option.some.inj e2)) (by decide)
     obtain ⟨bb7,rfl⟩:∃ b,a7=some ⟨b,0,none⟩:=by
      obtain ⟨_,⟨_,q,_⟩ | ⟨bb,_,_,_,q,_,_,_⟩⟩:=e3
      ·cases q
      ·cases q;exact ⟨_,rfl⟩
     have hc7:o.length+1≤c7:=by
      obtain ⟨_,⟨_,q,_⟩ | ⟨bb,_,_,_,q,q2,_,_⟩⟩:=e3
      ·cases q
      ·cases q;exact q2
     conv=>whnf
     refine ⟨_,loadC (i:=2) aggIs e1 rfl,cw_ ?_⟩
     refine ⟨_,loadC (i:=2) aggIs e1 rfl,cw_ ?_⟩
     refine ov_eq (show ((o.length+1:Nat):Int) - 1=(o.length:Int) by omega) (by omega) (cw_ ?_)
     refine n_ ?_
     refine bf_ ?_
     refine wr_intro (by exact storeC (i:=2) sizIs e1 (show 2<5 by decide) rfl rfl) (fun h8 at_h8 ot_h8=>cw_ ?_)
     have at_h8:h8 s=some (rowO seaT [.slice base L.length cap,.slice (some ⟨ub7,0,none⟩) L.length L.length,.slice (some ⟨bb7,0,none⟩) o.length c7,ef,ff]):=at_h8
     have u8:=(ot_h8 ub7 usb).trans e2
     refine ⟨trivial,cw_ ?_⟩
     refine ⟨_,loadC (i:=1) aggIs at_h8 rfl,cw_ ?_⟩
     refine n_ ?_
     refine wr_intro (by exact storeI sizI6 u8 rfl (by rw [usedC_len];exact hjL) rfl rfl) (fun h9 at_h9 ot_h9=>cw_ ?_)
     have at_h9:h9 ub7=some (rowO 3 (usedC L.length o)):=at_h9.trans (by rw [← used_out hno];rfl)
     have sb:∀ x,ob7=some x→x≠s:=e3.offR e1 (by decide)
     have r9:SrN g7 h9 s (.slice base L.length cap) L.length o ef ff:=⟨fun d q e=>by
      rw [ot_h9 d (fun e2=>by subst e2;rw [e5] at e;cases e),ot_h8 d (fun e2=>by subst e2;rw [e4] at e;cases e)]
      exact le7 _ _ e,ub7,.slice (some ⟨bb7,0,none⟩) o.length c7,ob7,(ot_h9 s (Ne.symm usb)).trans at_h8,at_h9,(Gr.agree (Gr_back e3)) fun x e=>by rw [ot_h9 x (e6 x e).2,ot_h8 x (sb x e)],e4,e5,e6⟩
     clear at_h9 at_h8 ot_h9 ot_h8 u8 e1 e2 e3 e4 e5 e6
     conv=>whnf
     refine aRunK_yv rfl rfl rfl ((H.lv lv w' (c,w) st m7 b g7 hJ7).yv r9.le fun v g10 h10 hJ10 u10=>?_)
     have r10:=r9.turned u10
     conv=>whnf
     cases b with
     | false =>
      conv=>whnf
      exact hk false m7 g10 h10 (hstop j m7 hjL hrun7) r10 hJ10
     | true =>
      conv=>whnf
      refine n_ ?_
      exact ⟨L.length - (j+1),by omega,j+1,by omega,rfl,rfl,g10,m7,r10,hJ10,hrun7⟩
  ·obtain rfl:j=L.length:=by omega
   conv=>whnf
   exact hk true m1 g1 h1 (hend _ hrun) r1 hJ1
end
end Go.Proofs.YtnjlneefddlaoaaGreat
