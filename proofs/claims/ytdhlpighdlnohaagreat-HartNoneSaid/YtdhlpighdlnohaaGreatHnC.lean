/-
  The laws on harts: none, copies, and what is drained.
-/
import Derived.Test.YtdhlpighdlnohaaGreatHlC
import Derived.Test.YtdhlpighdlnohaaGreatHtB
set_option linter.unusedSimpArgs false
set_option linter.unusedVariables false
set_option maxHeartbeats 8000000
set_option maxRecDepth 10000
set_option linter.unusedSimpArgs false
set_option linter.unusedVariables false
namespace Go.Proofs.YtdhlpighdlnohaaGreat
open Go Go.Mid Go.RowKit Go.Bits
attribute [local irreducible] mid
theorem Apart.symm {k g:Hp} (a:Apart k g):Apart g k:=fun c y e=>by
 cases q:k c with
 | none=>rfl
 | some x=>rw [a c x q] at e;cases e
theorem Apart.sub {k g g':Hp} (a:Apart k g) (hl:g'.le g):Apart k g':=fun c y e=>Hp.none_le hl (a c y e)
section
set_option maxHeartbeats 32000000
variable {k h:Hp} {K:Value→Hp→Prop} {b:Nat} {H:Hd}
theorem HaN.invL {k h:Hp} {b:Nat} {H:Hd} (n:HaN k h b H):∀ e ∈ H.L,e.page<2 ^ 64∧e.pte<2 ^ 64:=fun e he=>by
 have:=n.inv.T.ok (toE e) (List.mem_map.2 ⟨e,he,rfl⟩)
 obtain ⟨⟨_,a⟩,_,c⟩:=this
 exact ⟨by have a:((e.page:Nat):Int)<2 ^ 64:=a;omega,by have c:((e.pte:Nat):Int)<2 ^ 64:=c;omega⟩
theorem HaN.invN {k h:Hp} {b:Nat} {H:Hd} (n:HaN k h b H):H.L.length≤2 ^ 20:=by
 have h1:=n.inv.T.len
 have h2:=n.inv.T.sz
 rw [List.length_map] at h1
 omega
theorem sta_f6 {x:Sta} (o:x.ok) (s:Value):calcV Tryz.prog (rho [(155,.agg (x.cs s).toArray)]) (Op.field staT (.tmp 155) 6)=some s:=by
 rw [show calcV Tryz.prog (rho [(155,.agg (x.cs s).toArray)]) (Op.field staT (.tmp 155) 6)=partV Tryz.prog 27 (x.cs s).toArray 61 by kernel_rfl]
 unfold partV
 rw [aggEs]
 show (x.cs s).toArray[61]? = some s
 rw [List.getElem?_toArray]
 exact sta_ent o
theorem sta_f6b {x:Sta} (o:x.ok) (s:Value):calcV Tryz.prog (rho [(232,.agg (x.cs s).toArray)]) (Op.field staT (.tmp 232) 6)=some s:=by
 rw [show calcV Tryz.prog (rho [(232,.agg (x.cs s).toArray)]) (Op.field staT (.tmp 232) 6)=partV Tryz.prog 27 (x.cs s).toArray 61 by kernel_rfl]
 unfold partV
 rw [aggEs]
 show (x.cs s).toArray[61]? = some s
 rw [List.getElem?_toArray]
 exact sta_ent o
theorem own_rdE {k h:Hp} {s:Value} {L:List En} (o:Owns k h eeT 4 s L.length (L.flatMap En.cs)):Tb.RdE h s (L.map toE):=by
 obtain ⟨ob,g,_,_⟩:=o
 have r:=g.rdN aggEn sizEn (fun e=>rfl)
 have e:(L.map toE).map Tb.En.v=L.map fun e=>.agg e.cs.toArray:=by rw [List.map_map];rfl
 show Rd Tryz.prog eeT 4 h s ((L.map toE).map Tb.En.v)
 rw [e]
 exact r
theorem infEe:Tryz.prog.info? eeT=some Tryz.prog.types[eeT]:=by kernel_rfl
theorem hartnone_x (c:Cn) (x:Fr) (o:x.ok) (d e s:Value) (L:List An) (m0 m1 m2 m3 m4 m5 m6 m7:Rq) (rd:Rd Tryz.prog deT 12 h d (x.deeds.map fun d=>.agg d.cs.toArray)) (re:Rd Tryz.prog 78 4 h e (x.L.map fun e=>.agg e.cs.toArray)) (rs:Rd Tryz.prog anT 42 h s (L.map fun a=>.agg a.cs.toArray)) (okL:∀ a ∈ L,a.ok) (okm:∀ q ∈ [m0,m1,m2,m3,m4,m5,m6,m7],q.ok) (hk:∀ h',h.le h'→K (.bool true) h'):X Tryz.prog 6 #[.agg c.cs.toArray,.agg (x.cs d e).toArray,s,.agg (([m0,m1,m2,m3,m4,m5,m6,m7]:List Rq).flatMap Rq.cs).toArray] h K:=by
 obtain ⟨ea,ec,rfl⟩:∃ a c,e=.slice a x.L.length c:=by
  obtain ⟨a,c,e1,_⟩:=re
  exact ⟨a,c,by rw [e1,List.length_map]⟩
 obtain ⟨da,dc,rfl⟩:∃ a c,d=.slice a x.deeds.length c:=by
  obtain ⟨a,c,e1,_⟩:=rd
  exact ⟨a,c,by rw [e1,List.length_map]⟩
 obtain ⟨sa,sc,rfl⟩:∃ a c,s=.slice a L.length c:=by
  obtain ⟨a,c,e1,_⟩:=rs
  exact ⟨a,c,by rw [e1,List.length_map]⟩
 have cl:=o.clen (.slice da x.deeds.length dc) (.slice ea x.L.length ec)
 refine fnv (args:=_) mixed [(4,4)] [] [] Tryz.func6 rfl (by kernel_rfl) (cw_ ?_)
 refine new_intro (o:=rowO frT (x.cs (.slice da x.deeds.length dc) (.slice ea x.L.length ec))) (fun z h1 n_z le_z at_z ot_z=>cw_ ?_)
 refine new_intro (o:=rowO 61 (([m0,m1,m2,m3,m4,m5,m6,m7]:List Rq).flatMap Rq.cs)) (fun mz h2 n_mz le_mz at_mz ot_mz=>cw_ ?_)
 refine ask0_x (cw_ ?_)
 refine big_by (v:=.agg (Ak.cs .zero).toArray) (by kernel_rfl) (cw_ ?_)
 refine must_via (by kernel_rfl) (eqAk _ _) ?_
 rw [decide_eq_true rfl]
 conv=>whnf
 refine big_by (v:=.agg (An.cs .zero).toArray) (by kernel_rfl) (cw_ ?_)
 refine tell0_x .zero (cw_ ?_)
 refine rests0_x (cw_ ?_)
 refine parked0_x (cw_ ?_)
 refine wakes0_x 8 (cw_ ?_)
 refine turns0_x (cw_ ?_)
 refine retired0_x (cw_ ?_)
 refine big_by (v:=.agg (sta0.cs (.slice none 0 0)).toArray) (by kernel_rfl) (cw_ ?_)
 refine put0_x (cw_ ?_)
 refine ⟨_,loadA0 aggRq8 sizRq8 at_mz rfl,cw_ ?_⟩
 refine drained0_x [m0,m1,m2,m3,m4,m5,m6,m7] (cw_ ?_)
 refine clone0_x (cw_ ?_)
 refine state0_x (cw_ ?_)
 have le12:h.le h2:=Hp.le_trans le_z le_mz
 refine hnew_x 0 c (fun hbad=>?_) fun hw _ b h3 le3 n3=>?_
 ·have hwf:wrightB c=false:=by
   cases hq:wrightB c with
   | false=>rfl
   | true =>
    refine absurd ⟨hq,by decide,?_⟩ hbad
    have:=(wr_harts hq).1
    omega
  conv=>whnf
  refine rright_x c ?_
  rw [hwf]
  conv=>whnf
  refine live33_x ?_
  exact hk _ le12
 have z3:=le3 _ _ (le_mz _ _ at_z)
 have mz3:=le3 _ _ at_mz
 have le03:h.le h3:=Hp.le_trans le12 le3
 conv=>whnf
 refine br_ (fun q1=>?_) fun q1=>?_
 ·conv=>whnf
  refine rright_x c ?_
  rw [hw]
  conv=>whnf
  refine bt_ ?_
  refine live33_x ?_
  exact hk _ le03
 conv=>whnf
 refine ⟨_,loadA0 aggFr sizFr z3 cl,cw_ ?_⟩
 refine lfew_x _ o ?_
 obtain ⟨fw,hf⟩:∃ fw,x.few=fw:=⟨_,rfl⟩
 rw [hf]
 cases fw with
 | false =>
  conv=>whnf
  refine rright_x c ?_
  rw [hw]
  conv=>whnf
  refine bf_ ?_
  refine ⟨_,loadA0 aggFr sizFr z3 cl,cw_ ?_⟩
  refine lfew_x _ o ?_
  rw [hf]
  conv=>whnf
  refine live33_x ?_
  exact hk _ le03
 | true =>
  conv=>whnf
  refine ⟨_,loadA0 aggFr sizFr z3 cl,cw_ ?_⟩
  have hz:(Hd.new 0 c).t=.zero∧(Hd.new 0 c).told=[]:=⟨rfl,rfl⟩
  refine lput_x n3 (by rw [hz.1];rfl) _ o hf _ _ (rd.le le03) (re.le le12) (fun _ h4 n4=>?_) fun _ h4 n4=>?_
  ·generalize Hd.new 0 c=H at n4 hz
   conv=>whnf
   obtain ⟨zt,zo⟩:=hz
   have j0:H.J:=j_zero zt zo
   have e5:({ H with told:=[] }:Hd)=H:=by cases H;simp only at zo;subst zo;rfl
   obtain ⟨g1,lg1,ng1,ap1⟩:=n4.cut
   refine hclone_x n4 fun b2 h5 le5 n5=>?_
   rw [e5] at n5
   obtain ⟨g2,lg2,ng2,ap2⟩:=n5.cut
   have b5:h2.le h5:=Hp.le_trans n4.le le5
   have aq2:Apart h2 g2:=fun c y e=>ap2 c y (n4.le c y e)
   have a21:Apart g2 g1:=Apart.symm fun c y e=>ap2 c y (lg1 c y e)
   have lg15:=Hp.le_trans lg1 le5
   clear ap2 e5 zt lg1
   conv=>whnf
   refine loop_at [13] [] (fun q vs _ h'=>∃ (j:Nat) (g1:Hp),j≤L.length∧q=L.length - j∧vs=[.v (.int .i64 j)]∧g1.le h'∧g2.le h'∧h2.le h'∧Apart h2 g1∧Apart g2 g1∧HaG g1 b (runT H (L.take j))) L.length ⟨0,g1,Nat.zero_le _,rfl,rfl,lg15,lg2,b5,ap1,a21,ng1⟩ ?_
   clear lg15 lg2 b5 ap1 a21 ng1
   rintro q vs cs mm bx h6 ⟨j,g1,hj,rfl,rfl,lg1,lg2,b6,ap1,a21,ng1⟩
   conv=>whnf
   refine br_ (fun qj=>?_) fun qj=>?_
   ·have hjl:j<L.length:=by omega
    have hl60:L.length≤30:=by omega
    obtain ⟨ad,had,hla⟩:=(rs.get).2 j (.agg (L[j]).cs.toArray) (by rw [List.getElem?_map,List.getElem?_eq_getElem hjl];rfl)
    have okj:=okL _ (List.getElem_mem hjl)
    have jj:=runT_J j0 (L.take j)
    have rt:=runT_take (H:=H) hjl
    have hla2:=loadH_le (Hp.le_trans le12 b6) hla
    generalize L[j]=a at hla okj rt hla2
    rw [had]
    conv=>whnf
    refine n_ ?_
    refine ⟨_,hla2,cw_ ?_⟩
    refine gtell_x lg1 ng1 jj a okj fun h7 s7 g' k' gg ob u kl gl akg gr ng'=>?_
    rw [← rt] at ng'
    have u2:=u.other lg2 a21
    have uB:=u.other b6 ap1
    conv=>whnf
    refine n_ ?_
    exact ⟨L.length - (j+1),by omega,j+1,gg,by omega,rfl,rfl,Hp.le_trans gl u.le,u2.1,uB.1,(Apart.sub uB.2 gl),(Apart.sub u2.2 gl),ng'⟩
   obtain rfl:j=L.length:=by omega
   rw [List.take_length] at ng1
   conv=>whnf
   refine loop_at [14] [] (fun q vs _ h'=>∃ (j:Nat) (g2:Hp),j≤L.length∧q=L.length - j∧vs=[.v (.int .i64 j)]∧g1.le h'∧g2.le h'∧h2.le h'∧Apart h2 g2∧Apart g1 g2∧HaG g2 b2 (runT H (L.take j))) L.length ⟨0,g2,Nat.zero_le _,rfl,rfl,lg1,lg2,b6,aq2,Apart.symm a21,ng2⟩ ?_
   clear lg1 lg2 b6 aq2 a21 ng2
   rintro q vs cs mm bx h7 ⟨j,g2,hj,rfl,rfl,lg1,lg2,b7,aq2,a12,ng2⟩
   conv=>whnf
   refine br_ (fun qj=>?_) fun qj=>?_
   ·have hjl:j<L.length:=by omega
    have hl60:L.length≤30:=by omega
    obtain ⟨ad,had,hla⟩:=(rs.get).2 j (.agg (L[j]).cs.toArray) (by rw [List.getElem?_map,List.getElem?_eq_getElem hjl];rfl)
    have okj:=okL _ (List.getElem_mem hjl)
    have jj:=runT_J j0 (L.take j)
    have rt:=runT_take (H:=H) hjl
    have hla2:=loadH_le (Hp.le_trans le12 b7) hla
    generalize L[j]=a at hla okj rt hla2
    rw [had]
    conv=>whnf
    refine n_ ?_
    refine ⟨_,hla2,cw_ ?_⟩
    refine gtell_x lg2 ng2 jj a okj fun h8 s8 g' k' gg ob u kl gl akg gr ng'=>?_
    rw [← rt] at ng'
    have u1:=u.other lg1 a12
    have uB:=u.other b7 aq2
    conv=>whnf
    refine n_ ?_
    exact ⟨L.length - (j+1),by omega,j+1,gg,by omega,rfl,rfl,u1.1,Hp.le_trans gl u.le,uB.1,(Apart.sub uB.2 gl),(Apart.sub u1.2 gl),ng'⟩
   obtain rfl:j=L.length:=by omega
   rw [List.take_length] at ng2
   have jX:=runT_J j0 L
   have hXt:=runT_told zo L
   clear rs okL j0
   generalize runT H L=X at ng1 ng2 jX hXt
   conv=>whnf
   refine hask_x (ng1.on lg1) jX (cw_ ?_)
   refine hask_x (ng2.on lg2) jX (cw_ ?_)
   refine must_via (by kernel_rfl) (eqAk _ _) ?_
   rw [decide_eq_true rfl]
   conv=>whnf
   refine hturns_x (ng1.on lg1) (cw_ ?_)
   refine hturns_x (ng2.on lg2) (cw_ ?_)
   refine bf_ ?_
   refine hstate2_x (ng1.on lg1) fun s8 h8 _ le8 o8=>?_
   have gT:=ng1.inv.T
   have lg18:=Hp.le_trans lg1 le8
   obtain ⟨ob8,gr8,_,nob8⟩:=o8
   obtain ⟨p8,lp8,gp8,bp8⟩:=gr8.piece
   have ap8:Apart p8 g1:=fun c y e=>Hp.none_le lg1 (nob8 c (bp8 c y e))
   have a21:=Apart.symm a12
   have hc:=sta_f6 (x:=X.sta) ⟨ng1.inv.ok.pc,ng1.inv.ok.r,ng1.inv.ok.rw,ng1.inv.ok.f,ng1.invL,ng1.invN⟩ s8
   conv=>whnf
   rw [hc]
   conv=>whnf
   refine ⟨_,loadA0 aggRq8 sizRq8 (le8 _ _ (b7 _ _ at_mz)) rfl,cw_ ?_⟩
   refine gdrained_x lg18 ng1 m0 m1 m2 m3 m4 m5 m6 m7 okm jX.told fun h9 s9 g' k' gg ob u kl gl akg gr9 ng9=>?_
   have ap1b:Apart h2 g1:=ap1
   have u2:=u.other (Hp.le_trans lg2 le8) a21
   have uB:=u.other (Hp.le_trans b7 le8) ap1b
   have uP:=u.other lp8 ap8
   have lgg:=Hp.le_trans gl u.le
   have rT0:=(gr9.rdN aggAk sizAk ak_len).le (Hp.le_trans kl u.le)
   have rE0:=(gp8.rdN aggEn sizEn (fun e=>rfl)).le uP.1
   have mz9:=uB.1 _ _ at_mz
   have e9:=drain_eq [m0,m1,m2,m3,m4,m5,m6,m7] X
   rw [e9] at rT0 ng9
   simp only [hXt,List.nil_append] at rT0 ng9
   obtain ⟨ms,hms⟩:∃ ms,([m0,m1,m2,m3,m4,m5,m6,m7]:List Rq)=ms:=⟨_,rfl⟩
   have hm8:ms.length=8:=by rw [← hms];rfl
   rw [hms] at rT0 ng9 mz9
   rw [hms] at okm
   have mrow:∀ (i:Nat) (q:Rq),ms[i]? = some q→loadH Tryz.prog 60 h9 ((⟨mz,0,none⟩:Addr).add (i*5))=some (.agg q.cs.toArray):=fun i q hq=>loadH_agg (f:=Rq.cs) (rest:=[]) aggRq sizRq (fun _=>rfl) (by rw [List.append_nil];exact mz9) hq
   obtain ⟨ta,tc,rfl,fT⟩:=rT0
   rw [List.length_map,List.length_map] at *
   have fT2:∀ (i:Nat) (q:Rq),ms[i]? = some q→q.s=true→∃ ad,ta=some ad∧loadH Tryz.prog akT h9 (ad.add (((ms.take i).filter fun q=>q.s).length*19))=some (.agg (flAk q).cs.toArray):=fun i q hq hs=>by
    have hn:=filter_nth (fun q:Rq=>q.s) ms i q hq hs
    exact fT _ _ (by rw [List.getElem?_map,List.getElem?_map,hn];rfl)
   have fle:∀ i,((ms.take i).filter fun q=>q.s).length≤(ms.filter fun q=>q.s).length:=fun i=>(List.Sublist.filter _ (List.take_sublist i ms)).length_le
   have flt:∀ (i:Nat) (q:Rq),ms[i]? = some q→q.s=true→((ms.take i).filter fun q=>q.s).length<(ms.filter fun q=>q.s).length:=fun i q hq hs=>(List.getElem?_eq_some_iff.1 (filter_nth (fun q:Rq=>q.s) ms i q hq hs)).1
   have hf8:(ms.filter fun q=>q.s).length≤8:=by rw [← hm8];exact List.length_filter_le ..
   conv=>whnf
   refine loop_at [18,17] [] (fun q vs _ h'=>h9=h'∧∃ i:Nat,i≤8∧q=8 - i∧vs=[.v (.int .i64 i),.v (.int .i64 (((ms.take i).filter fun q=>q.s).length:Nat))]) 8 ⟨rfl,0,by omega,rfl,rfl⟩ ?_
   rintro q vs cs mm bx _ ⟨rfl,i,hi,rfl,rfl⟩
   conv=>whnf
   refine br_ (fun qi=>?_) fun qi=>?_
   ·have hil:i<ms.length:=by omega
    obtain ⟨⟨s1,s2,s3,s4,s5⟩,hq⟩:∃ q:Rq,ms[i]? = some q:=⟨_,List.getElem?_eq_getElem hil⟩
    have hlq:=mrow i _ hq
    have tk:(ms.take (i+1)).filter (fun q=>q.s)=(ms.take i).filter (fun q=>q.s)++(if s1=true then [⟨s1,s2,s3,s4,s5⟩] else []):=by
     rw [List.take_add_one,List.filter_append,hq]
     cases s1 <;> simp
    have hf2:=fT2 i _ hq
    have hflt:=flt i _ hq
    have hfi:=fle i
    generalize ((ms.take i).filter fun q=>q.s)=F at tk hf2 hflt hfi ⊢
    have hl0:loadH Tryz.prog 4 h9 (((⟨mz,0,none⟩:Addr).add (i*5)).add 0)=some (.bool s1):=by
     rw [loadH_cell aggB6];exact loadH_cellOf aggRq sizRq hlq rfl
    conv=>whnf
    refine n_ ?_
    refine ⟨.bool s1,(by exact hl0),cw_ ?_⟩
    cases s1 with
    | false =>
     rw [if_neg (by decide),List.append_nil] at tk
     conv=>whnf
     refine n_ ?_
     exact ⟨8 - (i+1),by omega,rfl,i+1,by omega,rfl,by rw [tk];rfl⟩
    | true =>
     rw [if_pos rfl] at tk
     have hflt:=hflt rfl
     obtain ⟨ad,had,hla⟩:=hf2 rfl
     rw [had]
     conv=>whnf
     refine bf_ ?_
     refine n_ ?_
     refine ⟨_,hla,cw_ ?_⟩
     refine n_ ?_
     refine ⟨_,(by exact hlq),cw_ ?_⟩
     refine big_by (v:=.agg (Ak.cs (flAk ⟨true,s2,s3,s4,s5⟩)).toArray) (by kernel_rfl) (cw_ ?_)
     refine must_via (by kernel_rfl) (eqAk _ _) ?_
     rw [decide_eq_true rfl]
     conv=>whnf
     refine n_ ?_
     refine n_ ?_
     exact ⟨8 - (i+1),by omega,rfl,i+1,by omega,rfl,by rw [tk,List.length_append];rfl⟩
   obtain rfl:i=8:=by omega
   rw [show ms.take 8=ms by rw [← hm8,List.take_length]]
   conv=>whnf
   have lenM:(ms.filter fun q=>q.s).length≤8:=hf8
   clear fT2 fle flt fT
   obtain ⟨ea8,ec8,rfl,fE⟩:=rE0
   rw [List.length_map] at *
   have hX32:X.L.length≤32:=by
    have h1:=gT.len
    have h2:=gT.sz
    rw [List.length_map] at h1
    omega
   conv=>whnf
   refine loop_at [20,19] [] (fun q vs _ h'=>∃ (j:Nat) (sl:Value),j≤X.L.length∧q=X.L.length - j∧vs=[.v (.int .i64 j),.v sl]∧Owns h9 h' eeT 4 sl (stayL ms (X.L.take j)).length ((stayL ms (X.L.take j)).flatMap En.cs)) X.L.length ⟨0,.slice none 0 0,Nat.zero_le _,rfl,rfl,by rw [List.take_zero];exact Owns.nil (Hp.le_refl _)⟩ ?_
   rintro q vs cs mm bx h10 ⟨j,sl,hj,rfl,rfl,hO⟩
   obtain ⟨ssa,ssc,rfl⟩:=hO.shape
   conv=>whnf
   refine br_ (fun qj=>?_) fun qj=>?_
   ·have hjl:j<X.L.length:=by omega
    obtain ⟨ad,had,hla⟩:=fE j (.agg (X.L[j]).cs.toArray) (by rw [List.getElem?_map,List.getElem?_eq_getElem hjl];rfl)
    have hin:=List.getElem_mem hjl
    have eok:=gT.ok (toE X.L[j]) (List.mem_map.2 ⟨_,hin,rfl⟩)
    have sn:=stay_snoc ms hjl
    have hla2:=loadH_le hO.le hla
    have hlen:(stayL ms (X.L.take j)).length≤32:=Nat.le_trans (List.length_filter_le ..) (Nat.le_trans (List.length_take_le ..) (by omega))
    generalize X.L[j]=e at hla hla2 eok sn
    generalize stayL ms (X.L.take j)=S at hO sn hlen
    have mrow2:∀ (i:Nat) (q:Rq),ms[i]? = some q→loadH Tryz.prog 60 h10 ((⟨mz,0,none⟩:Addr).add (i*5))=some (.agg q.cs.toArray):=fun i q hq=>loadH_le hO.le (mrow i q hq)
    rw [had]
    conv=>whnf
    refine loop_at [22,21] [] (fun q vs _ h'=>h10=h'∧∃ i:Nat,i≤8∧q=8 - i∧vs=[.v (.int .i64 i),.v (.bool ((ms.take i).any fun q=>tbT.forgets q e))]) 8 ⟨rfl,0,by omega,rfl,rfl⟩ ?_
    rintro q vs cs mm bx _ ⟨rfl,i,hi,rfl,rfl⟩
    conv=>whnf
    refine br_ (fun qi=>?_) fun qi=>?_
    ·have hil:i<ms.length:=by omega
     obtain ⟨q,hq⟩:∃ q:Rq,ms[i]? = some q:=⟨_,List.getElem?_eq_getElem hil⟩
     have hlq:=mrow2 i q hq
     have okq:=okm q (List.mem_of_getElem? hq)
     have ta:((ms.take (i+1)).any fun q=>tbT.forgets q e)=(((ms.take i).any fun q=>tbT.forgets q e) || tbT.forgets q e):=by
      rw [List.take_add_one,List.any_append,hq]
      simp
     generalize ((ms.take i).any fun q=>tbT.forgets q e)=g0 at ta ⊢
     cases g0 with
     | true =>
      conv=>whnf
      refine n_ ?_
      exact ⟨8 - (i+1),by omega,rfl,i+1,by omega,rfl,by rw [ta];rfl⟩
     | false =>
      conv=>whnf
      refine n_ ?_
      refine ⟨_,(by exact hlq),cw_ ?_⟩
      refine n_ ?_
      refine ⟨_,hla2,cw_ ?_⟩
      refine Tb.forgets_x (toQ q) (toE e) ⟨by show (0:Int)≤((q.va:Nat):Int);omega,by have:=okq.va;show ((q.va:Nat):Int)<2 ^ 64;omega⟩ eok ?_
      refine ⟨trivial,cw_ ?_⟩
      refine n_ ?_
      exact ⟨8 - (i+1),by omega,rfl,i+1,by omega,rfl,by rw [ta];rfl⟩
    obtain rfl:i=8:=by omega
    rw [show ms.take 8=ms by rw [← hm8,List.take_length]]
    generalize (ms.any fun q=>tbT.forgets q e)=g0 at sn ⊢
    cases g0 with
    | true =>
     rw [if_pos rfl] at sn
     conv=>whnf
     refine n_ ?_
     exact ⟨X.L.length - (j+1),by omega,j+1,_,by omega,rfl,rfl,by rw [sn];exact hO⟩
    | false =>
     rw [if_neg (by decide)] at sn
     conv=>whnf
     refine n_ ?_
     refine ⟨_,hla2,cw_ ?_⟩
     refine new_intro (o:=rowO eeT e.cs) (fun y h11 n_y le_y at_y ot_y=>cw_ ?_)
     refine Owns.app1 (z:=.agg (En.cs .zero).toArray) (by kernel_rfl) infEe (by kernel_rfl) (by kernel_rfl) (by kernel_rfl) rfl (bytes:=32) (by decide) rfl rfl rfl (hO.up le_y) at_y rfl rfl (by omega) fun s3 h12 hO3=>(cw_ ?_)
     refine n_ ?_
     refine ⟨X.L.length - (j+1),by omega,j+1,s3,by omega,rfl,rfl,?_⟩
     rw [sn,List.length_append,List.flatMap_append,List.flatMap_cons,List.flatMap_nil,List.append_nil]
     exact hO3
   obtain rfl:j=X.L.length:=by omega
   rw [List.take_length] at hO ⊢
   have j9:({ X with L:=X.L.filter fun e=>!ms.any fun q=>tbT.forgets q e,told:=[] }:Hd).J:=⟨jX.lo,jX.sz,Nat.zero_le _⟩
   have n9:=ng9.on (Hp.le_trans lgg hO.le)
   have n2:=ng2.on (Hp.le_trans u2.1 hO.le)
   have hle10:h.le h10:=Hp.le_trans le12 (Hp.le_trans uB.1 hO.le)
   conv=>whnf
   refine bt_ ?_
   refine hask_x n9 j9 (cw_ ?_)
   refine hask_x n2 jX (cw_ ?_)
   refine must_via (by kernel_rfl) (eqAk _ _) ?_
   rw [decide_eq_true (show ({ X with L:=X.L.filter fun e=>!ms.any fun q=>tbT.forgets q e,told:=[] }:Hd).ask=X.ask from rfl)]
   conv=>whnf
   refine hrests_x n9 ?_
   by_cases r0:X.t.at_=0
   rotate_left
   ·rw [decide_eq_false (show ¬ ({ X with L:=X.L.filter fun e=>!ms.any fun q=>tbT.forgets q e,told:=[] }:Hd).t.at_=0 from r0)]
    conv=>whnf
    refine live33_x ?_
    exact hk _ hle10
   rw [decide_eq_true (show ({ X with L:=X.L.filter fun e=>!ms.any fun q=>tbT.forgets q e,told:=[] }:Hd).t.at_=0 from r0)]
   conv=>whnf
   refine hstate2_x n9 fun s11 h11 n11 le11 o11=>(cw_ ?_)
   rw [sta_f6b (x:=({ X with L:=X.L.filter fun e=>!ms.any fun q=>tbT.forgets q e,told:=[] }:Hd).sta) ⟨n9.inv.ok.pc,n9.inv.ok.r,n9.inv.ok.rw,n9.inv.ok.f,n9.invL,n9.invN⟩ s11]
   conv=>whnf
   have rA:=own_rdE o11
   have rB:=own_rdE (hO.up le11)
   refine Tb.rsameL_x (L1:=(X.L.filter fun e=>!ms.any fun q=>tbT.forgets q e).map toE) (L2:=(stayL ms X.L).map toE) h11 _ rA rB (by rw [List.length_map];exact Nat.le_trans (List.length_filter_le ..) (by omega)) ?_
   rw [decide_eq_true (show (X.L.filter fun e=>!ms.any fun q=>tbT.forgets q e).map toE=(stayL ms X.L).map toE from rfl)]
   conv=>whnf
   refine live33_x ?_
   exact hk _ (Hp.le_trans hle10 le11)
  ·have hz:((Hd.new 0 c).put x.sta).t=.zero∧((Hd.new 0 c).put x.sta).told=[]:=hz
   generalize (Hd.new 0 c).put x.sta=H at n4 hz
   conv=>whnf
   obtain ⟨zt,zo⟩:=hz
   have j0:H.J:=j_zero zt zo
   have e5:({ H with told:=[] }:Hd)=H:=by cases H;simp only at zo;subst zo;rfl
   obtain ⟨g1,lg1,ng1,ap1⟩:=n4.cut
   refine hclone_x n4 fun b2 h5 le5 n5=>?_
   rw [e5] at n5
   obtain ⟨g2,lg2,ng2,ap2⟩:=n5.cut
   have b5:h2.le h5:=Hp.le_trans n4.le le5
   have aq2:Apart h2 g2:=fun c y e=>ap2 c y (n4.le c y e)
   have a21:Apart g2 g1:=Apart.symm fun c y e=>ap2 c y (lg1 c y e)
   have lg15:=Hp.le_trans lg1 le5
   clear ap2 e5 zt lg1
   conv=>whnf
   refine loop_at [13] [] (fun q vs _ h'=>∃ (j:Nat) (g1:Hp),j≤L.length∧q=L.length - j∧vs=[.v (.int .i64 j)]∧g1.le h'∧g2.le h'∧h2.le h'∧Apart h2 g1∧Apart g2 g1∧HaG g1 b (runT H (L.take j))) L.length ⟨0,g1,Nat.zero_le _,rfl,rfl,lg15,lg2,b5,ap1,a21,ng1⟩ ?_
   clear lg15 lg2 b5 ap1 a21 ng1
   rintro q vs cs mm bx h6 ⟨j,g1,hj,rfl,rfl,lg1,lg2,b6,ap1,a21,ng1⟩
   conv=>whnf
   refine br_ (fun qj=>?_) fun qj=>?_
   ·have hjl:j<L.length:=by omega
    have hl60:L.length≤30:=by omega
    obtain ⟨ad,had,hla⟩:=(rs.get).2 j (.agg (L[j]).cs.toArray) (by rw [List.getElem?_map,List.getElem?_eq_getElem hjl];rfl)
    have okj:=okL _ (List.getElem_mem hjl)
    have jj:=runT_J j0 (L.take j)
    have rt:=runT_take (H:=H) hjl
    have hla2:=loadH_le (Hp.le_trans le12 b6) hla
    generalize L[j]=a at hla okj rt hla2
    rw [had]
    conv=>whnf
    refine n_ ?_
    refine ⟨_,hla2,cw_ ?_⟩
    refine gtell_x lg1 ng1 jj a okj fun h7 s7 g' k' gg ob u kl gl akg gr ng'=>?_
    rw [← rt] at ng'
    have u2:=u.other lg2 a21
    have uB:=u.other b6 ap1
    conv=>whnf
    refine n_ ?_
    exact ⟨L.length - (j+1),by omega,j+1,gg,by omega,rfl,rfl,Hp.le_trans gl u.le,u2.1,uB.1,(Apart.sub uB.2 gl),(Apart.sub u2.2 gl),ng'⟩
   obtain rfl:j=L.length:=by omega
   rw [List.take_length] at ng1
   conv=>whnf
   refine loop_at [14] [] (fun q vs _ h'=>∃ (j:Nat) (g2:Hp),j≤L.length∧q=L.length - j∧vs=[.v (.int .i64 j)]∧g1.le h'∧g2.le h'∧h2.le h'∧Apart h2 g2∧Apart g1 g2∧HaG g2 b2 (runT H (L.take j))) L.length ⟨0,g2,Nat.zero_le _,rfl,rfl,lg1,lg2,b6,aq2,Apart.symm a21,ng2⟩ ?_
   clear lg1 lg2 b6 aq2 a21 ng2
   rintro q vs cs mm bx h7 ⟨j,g2,hj,rfl,rfl,lg1,lg2,b7,aq2,a12,ng2⟩
   conv=>whnf
   refine br_ (fun qj=>?_) fun qj=>?_
   ·have hjl:j<L.length:=by omega
    have hl60:L.length≤30:=by omega
    obtain ⟨ad,had,hla⟩:=(rs.get).2 j (.agg (L[j]).cs.toArray) (by rw [List.getElem?_map,List.getElem?_eq_getElem hjl];rfl)
    have okj:=okL _ (List.getElem_mem hjl)
    have jj:=runT_J j0 (L.take j)
    have rt:=runT_take (H:=H) hjl
    have hla2:=loadH_le (Hp.le_trans le12 b7) hla
    generalize L[j]=a at hla okj rt hla2
    rw [had]
    conv=>whnf
    refine n_ ?_
    refine ⟨_,hla2,cw_ ?_⟩
    refine gtell_x lg2 ng2 jj a okj fun h8 s8 g' k' gg ob u kl gl akg gr ng'=>?_
    rw [← rt] at ng'
    have u1:=u.other lg1 a12
    have uB:=u.other b7 aq2
    conv=>whnf
    refine n_ ?_
    exact ⟨L.length - (j+1),by omega,j+1,gg,by omega,rfl,rfl,u1.1,Hp.le_trans gl u.le,uB.1,(Apart.sub uB.2 gl),(Apart.sub u1.2 gl),ng'⟩
   obtain rfl:j=L.length:=by omega
   rw [List.take_length] at ng2
   have jX:=runT_J j0 L
   have hXt:=runT_told zo L
   clear rs okL j0
   generalize runT H L=X at ng1 ng2 jX hXt
   conv=>whnf
   refine hask_x (ng1.on lg1) jX (cw_ ?_)
   refine hask_x (ng2.on lg2) jX (cw_ ?_)
   refine must_via (by kernel_rfl) (eqAk _ _) ?_
   rw [decide_eq_true rfl]
   conv=>whnf
   refine hturns_x (ng1.on lg1) (cw_ ?_)
   refine hturns_x (ng2.on lg2) (cw_ ?_)
   refine bf_ ?_
   refine hstate2_x (ng1.on lg1) fun s8 h8 _ le8 o8=>?_
   have gT:=ng1.inv.T
   have lg18:=Hp.le_trans lg1 le8
   obtain ⟨ob8,gr8,_,nob8⟩:=o8
   obtain ⟨p8,lp8,gp8,bp8⟩:=gr8.piece
   have ap8:Apart p8 g1:=fun c y e=>Hp.none_le lg1 (nob8 c (bp8 c y e))
   have a21:=Apart.symm a12
   have hc:=sta_f6 (x:=X.sta) ⟨ng1.inv.ok.pc,ng1.inv.ok.r,ng1.inv.ok.rw,ng1.inv.ok.f,ng1.invL,ng1.invN⟩ s8
   conv=>whnf
   rw [hc]
   conv=>whnf
   refine ⟨_,loadA0 aggRq8 sizRq8 (le8 _ _ (b7 _ _ at_mz)) rfl,cw_ ?_⟩
   refine gdrained_x lg18 ng1 m0 m1 m2 m3 m4 m5 m6 m7 okm jX.told fun h9 s9 g' k' gg ob u kl gl akg gr9 ng9=>?_
   have ap1b:Apart h2 g1:=ap1
   have u2:=u.other (Hp.le_trans lg2 le8) a21
   have uB:=u.other (Hp.le_trans b7 le8) ap1b
   have uP:=u.other lp8 ap8
   have lgg:=Hp.le_trans gl u.le
   have rT0:=(gr9.rdN aggAk sizAk ak_len).le (Hp.le_trans kl u.le)
   have rE0:=(gp8.rdN aggEn sizEn (fun e=>rfl)).le uP.1
   have mz9:=uB.1 _ _ at_mz
   have e9:=drain_eq [m0,m1,m2,m3,m4,m5,m6,m7] X
   rw [e9] at rT0 ng9
   simp only [hXt,List.nil_append] at rT0 ng9
   obtain ⟨ms,hms⟩:∃ ms,([m0,m1,m2,m3,m4,m5,m6,m7]:List Rq)=ms:=⟨_,rfl⟩
   have hm8:ms.length=8:=by rw [← hms];rfl
   rw [hms] at rT0 ng9 mz9
   rw [hms] at okm
   have mrow:∀ (i:Nat) (q:Rq),ms[i]? = some q→loadH Tryz.prog 60 h9 ((⟨mz,0,none⟩:Addr).add (i*5))=some (.agg q.cs.toArray):=fun i q hq=>loadH_agg (f:=Rq.cs) (rest:=[]) aggRq sizRq (fun _=>rfl) (by rw [List.append_nil];exact mz9) hq
   obtain ⟨ta,tc,rfl,fT⟩:=rT0
   rw [List.length_map,List.length_map] at *
   have fT2:∀ (i:Nat) (q:Rq),ms[i]? = some q→q.s=true→∃ ad,ta=some ad∧loadH Tryz.prog akT h9 (ad.add (((ms.take i).filter fun q=>q.s).length*19))=some (.agg (flAk q).cs.toArray):=fun i q hq hs=>by
    have hn:=filter_nth (fun q:Rq=>q.s) ms i q hq hs
    exact fT _ _ (by rw [List.getElem?_map,List.getElem?_map,hn];rfl)
   have fle:∀ i,((ms.take i).filter fun q=>q.s).length≤(ms.filter fun q=>q.s).length:=fun i=>(List.Sublist.filter _ (List.take_sublist i ms)).length_le
   have flt:∀ (i:Nat) (q:Rq),ms[i]? = some q→q.s=true→((ms.take i).filter fun q=>q.s).length<(ms.filter fun q=>q.s).length:=fun i q hq hs=>(List.getElem?_eq_some_iff.1 (filter_nth (fun q:Rq=>q.s) ms i q hq hs)).1
   have hf8:(ms.filter fun q=>q.s).length≤8:=by rw [← hm8];exact List.length_filter_le ..
   conv=>whnf
   refine loop_at [18,17] [] (fun q vs _ h'=>h9=h'∧∃ i:Nat,i≤8∧q=8 - i∧vs=[.v (.int .i64 i),.v (.int .i64 (((ms.take i).filter fun q=>q.s).length:Nat))]) 8 ⟨rfl,0,by omega,rfl,rfl⟩ ?_
   rintro q vs cs mm bx _ ⟨rfl,i,hi,rfl,rfl⟩
   conv=>whnf
   refine br_ (fun qi=>?_) fun qi=>?_
   ·have hil:i<ms.length:=by omega
    obtain ⟨⟨s1,s2,s3,s4,s5⟩,hq⟩:∃ q:Rq,ms[i]? = some q:=⟨_,List.getElem?_eq_getElem hil⟩
    have hlq:=mrow i _ hq
    have tk:(ms.take (i+1)).filter (fun q=>q.s)=(ms.take i).filter (fun q=>q.s)++(if s1=true then [⟨s1,s2,s3,s4,s5⟩] else []):=by
     rw [List.take_add_one,List.filter_append,hq]
     cases s1 <;> simp
    have hf2:=fT2 i _ hq
    have hflt:=flt i _ hq
    have hfi:=fle i
    generalize ((ms.take i).filter fun q=>q.s)=F at tk hf2 hflt hfi ⊢
    have hl0:loadH Tryz.prog 4 h9 (((⟨mz,0,none⟩:Addr).add (i*5)).add 0)=some (.bool s1):=by
     rw [loadH_cell aggB6];exact loadH_cellOf aggRq sizRq hlq rfl
    conv=>whnf
    refine n_ ?_
    refine ⟨.bool s1,(by exact hl0),cw_ ?_⟩
    cases s1 with
    | false =>
     rw [if_neg (by decide),List.append_nil] at tk
     conv=>whnf
     refine n_ ?_
     exact ⟨8 - (i+1),by omega,rfl,i+1,by omega,rfl,by rw [tk];rfl⟩
    | true =>
     rw [if_pos rfl] at tk
     have hflt:=hflt rfl
     obtain ⟨ad,had,hla⟩:=hf2 rfl
     rw [had]
     conv=>whnf
     refine bf_ ?_
     refine n_ ?_
     refine ⟨_,hla,cw_ ?_⟩
     refine n_ ?_
     refine ⟨_,(by exact hlq),cw_ ?_⟩
     refine big_by (v:=.agg (Ak.cs (flAk ⟨true,s2,s3,s4,s5⟩)).toArray) (by kernel_rfl) (cw_ ?_)
     refine must_via (by kernel_rfl) (eqAk _ _) ?_
     rw [decide_eq_true rfl]
     conv=>whnf
     refine n_ ?_
     refine n_ ?_
     exact ⟨8 - (i+1),by omega,rfl,i+1,by omega,rfl,by rw [tk,List.length_append];rfl⟩
   obtain rfl:i=8:=by omega
   rw [show ms.take 8=ms by rw [← hm8,List.take_length]]
   conv=>whnf
   have lenM:(ms.filter fun q=>q.s).length≤8:=hf8
   clear fT2 fle flt fT
   obtain ⟨ea8,ec8,rfl,fE⟩:=rE0
   rw [List.length_map] at *
   have hX32:X.L.length≤32:=by
    have h1:=gT.len
    have h2:=gT.sz
    rw [List.length_map] at h1
    omega
   conv=>whnf
   refine loop_at [20,19] [] (fun q vs _ h'=>∃ (j:Nat) (sl:Value),j≤X.L.length∧q=X.L.length - j∧vs=[.v (.int .i64 j),.v sl]∧Owns h9 h' eeT 4 sl (stayL ms (X.L.take j)).length ((stayL ms (X.L.take j)).flatMap En.cs)) X.L.length ⟨0,.slice none 0 0,Nat.zero_le _,rfl,rfl,by rw [List.take_zero];exact Owns.nil (Hp.le_refl _)⟩ ?_
   rintro q vs cs mm bx h10 ⟨j,sl,hj,rfl,rfl,hO⟩
   obtain ⟨ssa,ssc,rfl⟩:=hO.shape
   conv=>whnf
   refine br_ (fun qj=>?_) fun qj=>?_
   ·have hjl:j<X.L.length:=by omega
    obtain ⟨ad,had,hla⟩:=fE j (.agg (X.L[j]).cs.toArray) (by rw [List.getElem?_map,List.getElem?_eq_getElem hjl];rfl)
    have hin:=List.getElem_mem hjl
    have eok:=gT.ok (toE X.L[j]) (List.mem_map.2 ⟨_,hin,rfl⟩)
    have sn:=stay_snoc ms hjl
    have hla2:=loadH_le hO.le hla
    have hlen:(stayL ms (X.L.take j)).length≤32:=Nat.le_trans (List.length_filter_le ..) (Nat.le_trans (List.length_take_le ..) (by omega))
    generalize X.L[j]=e at hla hla2 eok sn
    generalize stayL ms (X.L.take j)=S at hO sn hlen
    have mrow2:∀ (i:Nat) (q:Rq),ms[i]? = some q→loadH Tryz.prog 60 h10 ((⟨mz,0,none⟩:Addr).add (i*5))=some (.agg q.cs.toArray):=fun i q hq=>loadH_le hO.le (mrow i q hq)
    rw [had]
    conv=>whnf
    refine loop_at [22,21] [] (fun q vs _ h'=>h10=h'∧∃ i:Nat,i≤8∧q=8 - i∧vs=[.v (.int .i64 i),.v (.bool ((ms.take i).any fun q=>tbT.forgets q e))]) 8 ⟨rfl,0,by omega,rfl,rfl⟩ ?_
    rintro q vs cs mm bx _ ⟨rfl,i,hi,rfl,rfl⟩
    conv=>whnf
    refine br_ (fun qi=>?_) fun qi=>?_
    ·have hil:i<ms.length:=by omega
     obtain ⟨q,hq⟩:∃ q:Rq,ms[i]? = some q:=⟨_,List.getElem?_eq_getElem hil⟩
     have hlq:=mrow2 i q hq
     have okq:=okm q (List.mem_of_getElem? hq)
     have ta:((ms.take (i+1)).any fun q=>tbT.forgets q e)=(((ms.take i).any fun q=>tbT.forgets q e) || tbT.forgets q e):=by
      rw [List.take_add_one,List.any_append,hq]
      simp
     generalize ((ms.take i).any fun q=>tbT.forgets q e)=g0 at ta ⊢
     cases g0 with
     | true =>
      conv=>whnf
      refine n_ ?_
      exact ⟨8 - (i+1),by omega,rfl,i+1,by omega,rfl,by rw [ta];rfl⟩
     | false =>
      conv=>whnf
      refine n_ ?_
      refine ⟨_,(by exact hlq),cw_ ?_⟩
      refine n_ ?_
      refine ⟨_,hla2,cw_ ?_⟩
      refine Tb.forgets_x (toQ q) (toE e) ⟨by show (0:Int)≤((q.va:Nat):Int);omega,by have:=okq.va;show ((q.va:Nat):Int)<2 ^ 64;omega⟩ eok ?_
      refine ⟨trivial,cw_ ?_⟩
      refine n_ ?_
      exact ⟨8 - (i+1),by omega,rfl,i+1,by omega,rfl,by rw [ta];rfl⟩
    obtain rfl:i=8:=by omega
    rw [show ms.take 8=ms by rw [← hm8,List.take_length]]
    generalize (ms.any fun q=>tbT.forgets q e)=g0 at sn ⊢
    cases g0 with
    | true =>
     rw [if_pos rfl] at sn
     conv=>whnf
     refine n_ ?_
     exact ⟨X.L.length - (j+1),by omega,j+1,_,by omega,rfl,rfl,by rw [sn];exact hO⟩
    | false =>
     rw [if_neg (by decide)] at sn
     conv=>whnf
     refine n_ ?_
     refine ⟨_,hla2,cw_ ?_⟩
     refine new_intro (o:=rowO eeT e.cs) (fun y h11 n_y le_y at_y ot_y=>cw_ ?_)
     refine Owns.app1 (z:=.agg (En.cs .zero).toArray) (by kernel_rfl) infEe (by kernel_rfl) (by kernel_rfl) (by kernel_rfl) rfl (bytes:=32) (by decide) rfl rfl rfl (hO.up le_y) at_y rfl rfl (by omega) fun s3 h12 hO3=>(cw_ ?_)
     refine n_ ?_
     refine ⟨X.L.length - (j+1),by omega,j+1,s3,by omega,rfl,rfl,?_⟩
     rw [sn,List.length_append,List.flatMap_append,List.flatMap_cons,List.flatMap_nil,List.append_nil]
     exact hO3
   obtain rfl:j=X.L.length:=by omega
   rw [List.take_length] at hO ⊢
   have j9:({ X with L:=X.L.filter fun e=>!ms.any fun q=>tbT.forgets q e,told:=[] }:Hd).J:=⟨jX.lo,jX.sz,Nat.zero_le _⟩
   have n9:=ng9.on (Hp.le_trans lgg hO.le)
   have n2:=ng2.on (Hp.le_trans u2.1 hO.le)
   have hle10:h.le h10:=Hp.le_trans le12 (Hp.le_trans uB.1 hO.le)
   conv=>whnf
   refine bt_ ?_
   refine hask_x n9 j9 (cw_ ?_)
   refine hask_x n2 jX (cw_ ?_)
   refine must_via (by kernel_rfl) (eqAk _ _) ?_
   rw [decide_eq_true (show ({ X with L:=X.L.filter fun e=>!ms.any fun q=>tbT.forgets q e,told:=[] }:Hd).ask=X.ask from rfl)]
   conv=>whnf
   refine hrests_x n9 ?_
   by_cases r0:X.t.at_=0
   rotate_left
   ·rw [decide_eq_false (show ¬ ({ X with L:=X.L.filter fun e=>!ms.any fun q=>tbT.forgets q e,told:=[] }:Hd).t.at_=0 from r0)]
    conv=>whnf
    refine live33_x ?_
    exact hk _ hle10
   rw [decide_eq_true (show ({ X with L:=X.L.filter fun e=>!ms.any fun q=>tbT.forgets q e,told:=[] }:Hd).t.at_=0 from r0)]
   conv=>whnf
   refine hstate2_x n9 fun s11 h11 n11 le11 o11=>(cw_ ?_)
   rw [sta_f6b (x:=({ X with L:=X.L.filter fun e=>!ms.any fun q=>tbT.forgets q e,told:=[] }:Hd).sta) ⟨n9.inv.ok.pc,n9.inv.ok.r,n9.inv.ok.rw,n9.inv.ok.f,n9.invL,n9.invN⟩ s11]
   conv=>whnf
   have rA:=own_rdE o11
   have rB:=own_rdE (hO.up le11)
   refine Tb.rsameL_x (L1:=(X.L.filter fun e=>!ms.any fun q=>tbT.forgets q e).map toE) (L2:=(stayL ms X.L).map toE) h11 _ rA rB (by rw [List.length_map];exact Nat.le_trans (List.length_filter_le ..) (by omega)) ?_
   rw [decide_eq_true (show (X.L.filter fun e=>!ms.any fun q=>tbT.forgets q e).map toE=(stayL ms X.L).map toE from rfl)]
   conv=>whnf
   refine live33_x ?_
   exact hk _ (Hp.le_trans hle10 le11)
end
end Go.Proofs.YtdhlpighdlnohaaGreat
