/-
  The laws on harts: HartLinks' arguments.
-/
import Derived.Test.YtdhlpighdlnohaaGreatHlB
import Derived.Test.YtdhlpighdlnohaaGreatLib0
set_option linter.unusedSimpArgs false
set_option linter.unusedVariables false
set_option maxHeartbeats 8000000
set_option maxRecDepth 10000
set_option linter.unusedSimpArgs false
set_option linter.unusedVariables false
namespace Go.Proofs.YtdhlpighdlnohaaGreat
open Go Go.Mid Go.RowKit Go.Bits
attribute [local irreducible] mid
abbrev anT:TypeId := 86
theorem wrap_s {n:Int} (h0:0≤n) (h1:n≤1000):IntKind.i64.wrap (n+1)=n+1:=IntWalk.i64_in _ (by omega)
theorem j_zero {H:Hd} (e:H.t=.zero) (e2:H.told=[]):H.J:=⟨(by rw [e];exact ⟨by decide,by decide⟩),fun x=>(by rw [e] at x;cases x),(by rw [e2];exact Nat.zero_le _)⟩
section
set_option maxHeartbeats 32000000
variable {k h:Hp} {K:Value→Hp→Prop} {b:Nat} {H:Hd}
theorem hartlinks_x (c:Cn) (x:Fr) (o:x.ok) (d e s:Value) (L:List An) (rd:Rd Tryz.prog deT 12 h d (x.deeds.map fun d=>.agg d.cs.toArray)) (re:Rd Tryz.prog 78 4 h e (x.L.map fun e=>.agg e.cs.toArray)) (rs:Rd Tryz.prog anT 42 h s (L.map fun a=>.agg a.cs.toArray)) (okL:∀ a ∈ L,a.ok) (hk:∀ h',h.le h'→K (.bool true) h'):X Tryz.prog 4 #[.agg c.cs.toArray,.agg (x.cs d e).toArray,s] h K:=by
 obtain ⟨ea,ec,rfl⟩:∃ a c,e=.slice a x.L.length c:=by
  obtain ⟨a,c,e1,_⟩:=re
  exact ⟨a,c,by rw [e1,List.length_map]⟩
 obtain ⟨da,dc,rfl⟩:∃ a c,d=.slice a x.deeds.length c:=by
  obtain ⟨a,c,e1,_⟩:=rd
  exact ⟨a,c,by rw [e1,List.length_map]⟩
 obtain ⟨sa,sc,rfl⟩:∃ a c,s=.slice a L.length c:=by
  obtain ⟨a,c,e1,_⟩:=rs
  exact ⟨a,c,by rw [e1,List.length_map]⟩
 have o2:({ x with live:=false }:Fr).ok:=⟨o.deeds,o.pc,o.r,o.rw,o.L⟩
 have cl:=o.clen (.slice da x.deeds.length dc) (.slice ea x.L.length ec)
 have cl2:=o2.clen (.slice da x.deeds.length dc) (.slice ea x.L.length ec)
 refine fnv (args:=_) mixed [(3,3)] [] [] Tryz.func4 rfl (by kernel_rfl) (cw_ ?_)
 refine new_intro (o:=rowO frT (x.cs (.slice da x.deeds.length dc) (.slice ea x.L.length ec))) (fun z h1 n_z le_z at_z ot_z=>cw_ ?_)
 refine hnew_x 0 c (fun _=>?_) fun hw _ b h2 le2 n2=>?_
 ·conv=>whnf
  refine wr_intro (by exact storeCA (k:=35) (by simp [addr_add]) sizB6 at_z (by rw [cl];decide) (fr_live o false) rfl rfl) (fun h2 at_h2 ot_h2=>cw_ ?_)
  refine live33_x ?_
  exact hk _ (Hp.le_st n_z le_z ot_h2)
 conv=>whnf
 refine wr_intro (by exact storeCA (k:=35) (by simp [addr_add]) sizB6 (le2 _ _ at_z) (by rw [cl];decide) (fr_live o false) rfl rfl) (fun h3 at_h3 ot_h3=>cw_ ?_)
 have n3:=n2.wr at_z at_h3 ot_h3
 have le3:h.le h3:=Hp.le_st n_z (Hp.le_trans le_z le2) ot_h3
 have klt:h.le (h1.set z (rowO frT (({ x with live:=false }:Fr).cs (.slice da x.deeds.length dc) (.slice ea x.L.length ec)))):=fun c y e2=>by rw [Hp.set_other _ _ (fun e3=>by rw [e3,n_z] at e2;cases e2)];exact le_z c y e2
 refine br_ (fun q1=>?_) fun q1=>?_
 ·conv=>whnf
  refine live33_x ?_
  exact hk _ le3
 conv=>whnf
 refine ⟨_,loadA0 aggFr sizFr at_h3 cl2,cw_ ?_⟩
 refine lfew_x _ o2 ?_
 obtain ⟨fw,hf⟩:∃ fw,({ x with live:=false }:Fr).few=fw:=⟨_,rfl⟩
 rw [hf]
 cases fw with
 | false =>
  conv=>whnf
  refine live33_x ?_
  exact hk _ le3
 | true =>
  conv=>whnf
  refine ⟨_,loadA0 aggFr sizFr at_h3 cl2,cw_ ?_⟩
  have hz:(Hd.new 0 c).t=.zero∧(Hd.new 0 c).live=false∧(Hd.new 0 c).turns=0∧(Hd.new 0 c).retired=0∧(Hd.new 0 c).told=[]:=⟨rfl,rfl,rfl,rfl,rfl⟩
  refine lput_x n3 (by rw [hz.1];rfl) _ o2 hf _ _ (rd.le le3) (re.le klt) (fun _ h4 n4=>?_) fun _ h4 n4=>?_
  ·generalize Hd.new 0 c=H at n4 hz
   conv=>whnf
   generalize h1.set z (rowO frT (({ x with live:=false }:Fr).cs (.slice da x.deeds.length dc) (.slice ea x.L.length ec)))=k1 at klt n4
   obtain ⟨zt,zl,zn,zr,zo⟩:=hz
   refine loop_at [10,9] [] (fun q vs _ h'=>∃ (j:Nat) (H:Hd) (k':Hp),j≤L.length∧q=L.length - j∧vs=[.v (.int .i64 j),.v (.bool H.live)]∧h.le k'∧HaN k' h' b H∧H.J∧LI H∧(0≤H.turns∧H.turns≤j)∧(0≤H.retired∧H.retired≤j)) L.length ⟨0,H,k1,Nat.zero_le _,rfl,by rw [zl];rfl,klt,n4,j_zero zt zo,li_zero zt,by rw [zn];decide,by rw [zr];decide⟩ ?_
   rintro q vs cs mm bx g ⟨j,H,k',hj,rfl,rfl,kl,n,jj,li,ht,hr⟩
   conv=>whnf
   refine br_ (fun qj=>?_) fun qj=>?_
   ·have hjl:j<L.length:=by omega
    have hl60:L.length≤60:=by omega
    obtain ⟨ad,had,hla⟩:=(rs.get).2 j (.agg (L[j]).cs.toArray) (by rw [List.getElem?_map,List.getElem?_eq_getElem hjl];rfl)
    have okj:=okL _ (List.getElem_mem hjl)
    have ls:=ls_tell li jj decH (L[j])
    have jj2:=jj.tell decH (L[j])
    generalize L[j]=a at hla okj ls jj2
    rw [had] at *
    refine hask_x n jj (cw_ ?_)
    refine new_intro (o:=_) (fun y g1 n_y le_y at_y ot_y=>cw_ ?_)
    refine wr_intro (by exact storeA0 (z:=.agg H.ask.cs.toArray) sizAk at_y rfl (ak_len _) (ak_one _)) (fun g2 at_g2 ot_g2=>cw_ ?_)
    have m:=n.newSt n_y le_y at_g2 ot_g2
    have ky:=Hp.le_set' (o:=rowO akT (Value.agg H.ask.cs.toArray).cells.toList) (Hp.none_le n.le n_y)
    refine ⟨_,loadC0 aggKd at_g2 rfl,cw_ ?_⟩
    have hsc:=ls.sc
    have hout:=ls.out
    have li2:=ls.li
    obtain ⟨H2,hH2⟩:∃ H2,(H.tell tbT fitsN decH a).1=H2:=⟨_,rfl⟩
    rw [hH2] at hout li2 jj2
    have hla2:=loadH_le (Hp.le_trans kl (Hp.le_trans ky m.le)) hla
    have kl2:=Hp.le_trans kl ky
    have hle1:=wrap_s ht.1 (by omega)
    have hle2:=wrap_s hr.1 (by omega)
    by_cases k6:H.ask.kind=6
    ·refine bt_ ?_ (by rw [k6];rfl)
     refine ⟨_,loadC (i:=8) aggB6 at_g2 (show H.ask.cs[8]? = some (.bool H.live) by rw [← hsc k6];rfl),?_⟩;conv=>whnf
     rw [beq_self_eq_true]
     conv=>whnf
     refine hturns_x m (cw_ ?_)
     refine hretired_x m (cw_ ?_)
     refine n_ ?_
     refine ⟨_,hla2,cw_ ?_⟩
     refine htell_x decH_x m jj a okj fun g5 s5 k5 ob5 kk5 _ n5=>?_
     rw [hH2] at n5
     have y5:=n5.le _ _ (kk5 _ _ (Hp.set_same _ _ _))
     have kl5:=Hp.le_trans kl2 kk5
     conv=>whnf
     refine hturns_x n5 (cw_ ?_)
     obtain ⟨e1,e2,e3,e4,e5⟩ | ⟨e1,e2,e3,e4,e5,e6⟩ | ⟨e1,e2,e3,e4⟩:=hout
     ·rw [e1]
      refine bf_ ?_
      refine ⟨_,loadC0 aggKd y5 rfl,cw_ ?_⟩
      refine bf_ ?_ (by simpa using e3)
      refine ⟨_,loadC0 aggKd y5 rfl,cw_ ?_⟩
      refine bf_ ?_ (by simpa using e4)
      refine hturns_x n5 ?_
      rw [e1]
      conv=>whnf
      refine n_ ?_
      refine bf_ ?_
      refine hretired_x n5 ?_
      rw [e2]
      conv=>whnf
      refine n_ ?_
      refine bf_ ?_
      refine hturns_x n5 ?_
      rw [e1]
      conv=>whnf
      refine bf_ ?_
      refine n_ ?_
      refine ⟨L.length - (j+1),by omega,j+1,H2,k5,by omega,rfl,by rw [e5];rfl,kl5,n5,jj2,li2,by rw [e1];omega,by rw [e2];omega⟩
     ·rw [hle1] at e1
      rw [e1]
      refine bt_ ?_
      refine hretired_x n5 ?_
      rw [e2]
      conv=>whnf
      refine bt_ ?_
      refine ⟨_,loadC0 aggKd y5 rfl,cw_ ?_⟩
      refine bf_ ?_ (by simpa using e4)
      refine ⟨_,loadC0 aggKd y5 rfl,cw_ ?_⟩
      refine bf_ ?_ (by simpa using e5)
      refine hturns_x n5 ?_
      rw [e1]
      conv=>whnf
      refine n_ ?_
      refine bf_ ?_
      refine hretired_x n5 ?_
      rw [e2]
      conv=>whnf
      refine n_ ?_
      refine bf_ ?_
      refine hturns_x n5 ?_
      rw [e1]
      conv=>whnf
      refine bt_ ?_
      refine hrests_x n5 ?_
      rw [e3]
      conv=>whnf
      refine n_ ?_
      refine ⟨L.length - (j+1),by omega,j+1,H2,k5,by omega,rfl,by rw [e6];rfl,kl5,n5,jj2,li2,by rw [e1];omega,by rw [e2];omega⟩
     ·rw [hle1] at e1
      rw [hle2] at e2
      rw [e1]
      refine bt_ ?_
      refine hretired_x n5 ?_
      rw [e2]
      conv=>whnf
      refine bf_ ?_
      refine ⟨_,loadC0 aggKd y5 rfl,cw_ ?_⟩
      by_cases k5':H.ask.kind=5
      ·rw [if_pos k5'] at e4
       refine bt_ ?_ (by rw [k5'];rfl)
       refine ⟨_,loadC0 aggKd y5 rfl,cw_ ?_⟩
       refine bf_ ?_ (by rw [k5'];rfl)
       refine hturns_x n5 ?_
       rw [e1]
       conv=>whnf
       refine n_ ?_
       refine bf_ ?_
       refine hretired_x n5 ?_
       rw [e2]
       conv=>whnf
       refine n_ ?_
       refine bf_ ?_
       refine hturns_x n5 ?_
       rw [e1]
       conv=>whnf
       refine bt_ ?_
       refine hrests_x n5 ?_
       rw [e3]
       conv=>whnf
       refine n_ ?_
       refine ⟨L.length - (j+1),by omega,j+1,H2,k5,by omega,rfl,by rw [e4];rfl,kl5,n5,jj2,li2,by rw [e1];omega,by rw [e2];omega⟩
      ·rw [if_neg k5'] at e4
       refine bf_ ?_ (by simpa using k5')
       refine ⟨_,loadC0 aggKd y5 rfl,cw_ ?_⟩
       by_cases k6':H.ask.kind=6
       ·rw [if_pos k6'] at e4
        refine bt_ ?_ (by rw [k6'];rfl)
        refine hturns_x n5 ?_
        rw [e1]
        conv=>whnf
        refine n_ ?_
        refine bf_ ?_
        refine hretired_x n5 ?_
        rw [e2]
        conv=>whnf
        refine n_ ?_
        refine bf_ ?_
        refine hturns_x n5 ?_
        rw [e1]
        conv=>whnf
        refine bt_ ?_
        refine hrests_x n5 ?_
        rw [e3]
        conv=>whnf
        refine n_ ?_
        refine ⟨L.length - (j+1),by omega,j+1,H2,k5,by omega,rfl,by rw [e4];rfl,kl5,n5,jj2,li2,by rw [e1];omega,by rw [e2];omega⟩
       ·rw [if_neg k6'] at e4
        refine bf_ ?_ (by simpa using k6')
        refine hturns_x n5 ?_
        rw [e1]
        conv=>whnf
        refine n_ ?_
        refine bf_ ?_
        refine hretired_x n5 ?_
        rw [e2]
        conv=>whnf
        refine n_ ?_
        refine bf_ ?_
        refine hturns_x n5 ?_
        rw [e1]
        conv=>whnf
        refine bt_ ?_
        refine hrests_x n5 ?_
        rw [e3]
        conv=>whnf
        refine n_ ?_
        refine ⟨L.length - (j+1),by omega,j+1,H2,k5,by omega,rfl,by rw [e4];rfl,kl5,n5,jj2,li2,by rw [e1];omega,by rw [e2];omega⟩
    ·refine bf_ ?_ (by simpa using k6)
     refine hturns_x m (cw_ ?_)
     refine hretired_x m (cw_ ?_)
     refine n_ ?_
     refine ⟨_,hla2,cw_ ?_⟩
     refine htell_x decH_x m jj a okj fun g5 s5 k5 ob5 kk5 _ n5=>?_
     rw [hH2] at n5
     have y5:=n5.le _ _ (kk5 _ _ (Hp.set_same _ _ _))
     have kl5:=Hp.le_trans kl2 kk5
     conv=>whnf
     refine hturns_x n5 (cw_ ?_)
     obtain ⟨e1,e2,e3,e4,e5⟩ | ⟨e1,e2,e3,e4,e5,e6⟩ | ⟨e1,e2,e3,e4⟩:=hout
     ·rw [e1]
      refine bf_ ?_
      refine ⟨_,loadC0 aggKd y5 rfl,cw_ ?_⟩
      refine bf_ ?_ (by simpa using e3)
      refine ⟨_,loadC0 aggKd y5 rfl,cw_ ?_⟩
      refine bf_ ?_ (by simpa using e4)
      refine hturns_x n5 ?_
      rw [e1]
      conv=>whnf
      refine n_ ?_
      refine bf_ ?_
      refine hretired_x n5 ?_
      rw [e2]
      conv=>whnf
      refine n_ ?_
      refine bf_ ?_
      refine hturns_x n5 ?_
      rw [e1]
      conv=>whnf
      refine bf_ ?_
      refine n_ ?_
      refine ⟨L.length - (j+1),by omega,j+1,H2,k5,by omega,rfl,by rw [e5];rfl,kl5,n5,jj2,li2,by rw [e1];omega,by rw [e2];omega⟩
     ·rw [hle1] at e1
      rw [e1]
      refine bt_ ?_
      refine hretired_x n5 ?_
      rw [e2]
      conv=>whnf
      refine bt_ ?_
      refine ⟨_,loadC0 aggKd y5 rfl,cw_ ?_⟩
      refine bf_ ?_ (by simpa using e4)
      refine ⟨_,loadC0 aggKd y5 rfl,cw_ ?_⟩
      refine bf_ ?_ (by simpa using e5)
      refine hturns_x n5 ?_
      rw [e1]
      conv=>whnf
      refine n_ ?_
      refine bf_ ?_
      refine hretired_x n5 ?_
      rw [e2]
      conv=>whnf
      refine n_ ?_
      refine bf_ ?_
      refine hturns_x n5 ?_
      rw [e1]
      conv=>whnf
      refine bt_ ?_
      refine hrests_x n5 ?_
      rw [e3]
      conv=>whnf
      refine n_ ?_
      refine ⟨L.length - (j+1),by omega,j+1,H2,k5,by omega,rfl,by rw [e6];rfl,kl5,n5,jj2,li2,by rw [e1];omega,by rw [e2];omega⟩
     ·rw [hle1] at e1
      rw [hle2] at e2
      rw [e1]
      refine bt_ ?_
      refine hretired_x n5 ?_
      rw [e2]
      conv=>whnf
      refine bf_ ?_
      refine ⟨_,loadC0 aggKd y5 rfl,cw_ ?_⟩
      by_cases k5':H.ask.kind=5
      ·rw [if_pos k5'] at e4
       refine bt_ ?_ (by rw [k5'];rfl)
       refine ⟨_,loadC0 aggKd y5 rfl,cw_ ?_⟩
       refine bf_ ?_ (by rw [k5'];rfl)
       refine hturns_x n5 ?_
       rw [e1]
       conv=>whnf
       refine n_ ?_
       refine bf_ ?_
       refine hretired_x n5 ?_
       rw [e2]
       conv=>whnf
       refine n_ ?_
       refine bf_ ?_
       refine hturns_x n5 ?_
       rw [e1]
       conv=>whnf
       refine bt_ ?_
       refine hrests_x n5 ?_
       rw [e3]
       conv=>whnf
       refine n_ ?_
       refine ⟨L.length - (j+1),by omega,j+1,H2,k5,by omega,rfl,by rw [e4];rfl,kl5,n5,jj2,li2,by rw [e1];omega,by rw [e2];omega⟩
      ·rw [if_neg k5'] at e4
       refine bf_ ?_ (by simpa using k5')
       refine ⟨_,loadC0 aggKd y5 rfl,cw_ ?_⟩
       by_cases k6':H.ask.kind=6
       ·rw [if_pos k6'] at e4
        refine bt_ ?_ (by rw [k6'];rfl)
        refine hturns_x n5 ?_
        rw [e1]
        conv=>whnf
        refine n_ ?_
        refine bf_ ?_
        refine hretired_x n5 ?_
        rw [e2]
        conv=>whnf
        refine n_ ?_
        refine bf_ ?_
        refine hturns_x n5 ?_
        rw [e1]
        conv=>whnf
        refine bt_ ?_
        refine hrests_x n5 ?_
        rw [e3]
        conv=>whnf
        refine n_ ?_
        refine ⟨L.length - (j+1),by omega,j+1,H2,k5,by omega,rfl,by rw [e4];rfl,kl5,n5,jj2,li2,by rw [e1];omega,by rw [e2];omega⟩
       ·rw [if_neg k6'] at e4
        refine bf_ ?_ (by simpa using k6')
        refine hturns_x n5 ?_
        rw [e1]
        conv=>whnf
        refine n_ ?_
        refine bf_ ?_
        refine hretired_x n5 ?_
        rw [e2]
        conv=>whnf
        refine n_ ?_
        refine bf_ ?_
        refine hturns_x n5 ?_
        rw [e1]
        conv=>whnf
        refine bt_ ?_
        refine hrests_x n5 ?_
        rw [e3]
        conv=>whnf
        refine n_ ?_
        refine ⟨L.length - (j+1),by omega,j+1,H2,k5,by omega,rfl,by rw [e4];rfl,kl5,n5,jj2,li2,by rw [e1];omega,by rw [e2];omega⟩
   ·obtain rfl:j=L.length:=by omega
    conv=>whnf
    refine live33_x ?_
    exact hk _ (Hp.le_trans kl n.le)
  ·have hz:((Hd.new 0 c).put ({ x with live:=false }:Fr).sta).t=.zero∧((Hd.new 0 c).put ({ x with live:=false }:Fr).sta).live=false∧((Hd.new 0 c).put ({ x with live:=false }:Fr).sta).turns=0∧((Hd.new 0 c).put ({ x with live:=false }:Fr).sta).retired=0∧((Hd.new 0 c).put ({ x with live:=false }:Fr).sta).told=[]:=hz
   generalize (Hd.new 0 c).put ({ x with live:=false }:Fr).sta=H at n4 hz
   conv=>whnf
   generalize h1.set z (rowO frT (({ x with live:=false }:Fr).cs (.slice da x.deeds.length dc) (.slice ea x.L.length ec)))=k1 at klt n4
   obtain ⟨zt,zl,zn,zr,zo⟩:=hz
   refine loop_at [10,9] [] (fun q vs _ h'=>∃ (j:Nat) (H:Hd) (k':Hp),j≤L.length∧q=L.length - j∧vs=[.v (.int .i64 j),.v (.bool H.live)]∧h.le k'∧HaN k' h' b H∧H.J∧LI H∧(0≤H.turns∧H.turns≤j)∧(0≤H.retired∧H.retired≤j)) L.length ⟨0,H,k1,Nat.zero_le _,rfl,by rw [zl];rfl,klt,n4,j_zero zt zo,li_zero zt,by rw [zn];decide,by rw [zr];decide⟩ ?_
   rintro q vs cs mm bx g ⟨j,H,k',hj,rfl,rfl,kl,n,jj,li,ht,hr⟩
   conv=>whnf
   refine br_ (fun qj=>?_) fun qj=>?_
   ·have hjl:j<L.length:=by omega
    have hl60:L.length≤60:=by omega
    obtain ⟨ad,had,hla⟩:=(rs.get).2 j (.agg (L[j]).cs.toArray) (by rw [List.getElem?_map,List.getElem?_eq_getElem hjl];rfl)
    have okj:=okL _ (List.getElem_mem hjl)
    have ls:=ls_tell li jj decH (L[j])
    have jj2:=jj.tell decH (L[j])
    generalize L[j]=a at hla okj ls jj2
    rw [had] at *
    refine hask_x n jj (cw_ ?_)
    refine new_intro (o:=_) (fun y g1 n_y le_y at_y ot_y=>cw_ ?_)
    refine wr_intro (by exact storeA0 (z:=.agg H.ask.cs.toArray) sizAk at_y rfl (ak_len _) (ak_one _)) (fun g2 at_g2 ot_g2=>cw_ ?_)
    have m:=n.newSt n_y le_y at_g2 ot_g2
    have ky:=Hp.le_set' (o:=rowO akT (Value.agg H.ask.cs.toArray).cells.toList) (Hp.none_le n.le n_y)
    refine ⟨_,loadC0 aggKd at_g2 rfl,cw_ ?_⟩
    have hsc:=ls.sc
    have hout:=ls.out
    have li2:=ls.li
    obtain ⟨H2,hH2⟩:∃ H2,(H.tell tbT fitsN decH a).1=H2:=⟨_,rfl⟩
    rw [hH2] at hout li2 jj2
    have hla2:=loadH_le (Hp.le_trans kl (Hp.le_trans ky m.le)) hla
    have kl2:=Hp.le_trans kl ky
    have hle1:=wrap_s ht.1 (by omega)
    have hle2:=wrap_s hr.1 (by omega)
    by_cases k6:H.ask.kind=6
    ·refine bt_ ?_ (by rw [k6];rfl)
     refine ⟨_,loadC (i:=8) aggB6 at_g2 (show H.ask.cs[8]? = some (.bool H.live) by rw [← hsc k6];rfl),?_⟩;conv=>whnf
     rw [beq_self_eq_true]
     conv=>whnf
     refine hturns_x m (cw_ ?_)
     refine hretired_x m (cw_ ?_)
     refine n_ ?_
     refine ⟨_,hla2,cw_ ?_⟩
     refine htell_x decH_x m jj a okj fun g5 s5 k5 ob5 kk5 _ n5=>?_
     rw [hH2] at n5
     have y5:=n5.le _ _ (kk5 _ _ (Hp.set_same _ _ _))
     have kl5:=Hp.le_trans kl2 kk5
     conv=>whnf
     refine hturns_x n5 (cw_ ?_)
     obtain ⟨e1,e2,e3,e4,e5⟩ | ⟨e1,e2,e3,e4,e5,e6⟩ | ⟨e1,e2,e3,e4⟩:=hout
     ·rw [e1]
      refine bf_ ?_
      refine ⟨_,loadC0 aggKd y5 rfl,cw_ ?_⟩
      refine bf_ ?_ (by simpa using e3)
      refine ⟨_,loadC0 aggKd y5 rfl,cw_ ?_⟩
      refine bf_ ?_ (by simpa using e4)
      refine hturns_x n5 ?_
      rw [e1]
      conv=>whnf
      refine n_ ?_
      refine bf_ ?_
      refine hretired_x n5 ?_
      rw [e2]
      conv=>whnf
      refine n_ ?_
      refine bf_ ?_
      refine hturns_x n5 ?_
      rw [e1]
      conv=>whnf
      refine bf_ ?_
      refine n_ ?_
      refine ⟨L.length - (j+1),by omega,j+1,H2,k5,by omega,rfl,by rw [e5];rfl,kl5,n5,jj2,li2,by rw [e1];omega,by rw [e2];omega⟩
     ·rw [hle1] at e1
      rw [e1]
      refine bt_ ?_
      refine hretired_x n5 ?_
      rw [e2]
      conv=>whnf
      refine bt_ ?_
      refine ⟨_,loadC0 aggKd y5 rfl,cw_ ?_⟩
      refine bf_ ?_ (by simpa using e4)
      refine ⟨_,loadC0 aggKd y5 rfl,cw_ ?_⟩
      refine bf_ ?_ (by simpa using e5)
      refine hturns_x n5 ?_
      rw [e1]
      conv=>whnf
      refine n_ ?_
      refine bf_ ?_
      refine hretired_x n5 ?_
      rw [e2]
      conv=>whnf
      refine n_ ?_
      refine bf_ ?_
      refine hturns_x n5 ?_
      rw [e1]
      conv=>whnf
      refine bt_ ?_
      refine hrests_x n5 ?_
      rw [e3]
      conv=>whnf
      refine n_ ?_
      refine ⟨L.length - (j+1),by omega,j+1,H2,k5,by omega,rfl,by rw [e6];rfl,kl5,n5,jj2,li2,by rw [e1];omega,by rw [e2];omega⟩
     ·rw [hle1] at e1
      rw [hle2] at e2
      rw [e1]
      refine bt_ ?_
      refine hretired_x n5 ?_
      rw [e2]
      conv=>whnf
      refine bf_ ?_
      refine ⟨_,loadC0 aggKd y5 rfl,cw_ ?_⟩
      by_cases k5':H.ask.kind=5
      ·rw [if_pos k5'] at e4
       refine bt_ ?_ (by rw [k5'];rfl)
       refine ⟨_,loadC0 aggKd y5 rfl,cw_ ?_⟩
       refine bf_ ?_ (by rw [k5'];rfl)
       refine hturns_x n5 ?_
       rw [e1]
       conv=>whnf
       refine n_ ?_
       refine bf_ ?_
       refine hretired_x n5 ?_
       rw [e2]
       conv=>whnf
       refine n_ ?_
       refine bf_ ?_
       refine hturns_x n5 ?_
       rw [e1]
       conv=>whnf
       refine bt_ ?_
       refine hrests_x n5 ?_
       rw [e3]
       conv=>whnf
       refine n_ ?_
       refine ⟨L.length - (j+1),by omega,j+1,H2,k5,by omega,rfl,by rw [e4];rfl,kl5,n5,jj2,li2,by rw [e1];omega,by rw [e2];omega⟩
      ·rw [if_neg k5'] at e4
       refine bf_ ?_ (by simpa using k5')
       refine ⟨_,loadC0 aggKd y5 rfl,cw_ ?_⟩
       by_cases k6':H.ask.kind=6
       ·rw [if_pos k6'] at e4
        refine bt_ ?_ (by rw [k6'];rfl)
        refine hturns_x n5 ?_
        rw [e1]
        conv=>whnf
        refine n_ ?_
        refine bf_ ?_
        refine hretired_x n5 ?_
        rw [e2]
        conv=>whnf
        refine n_ ?_
        refine bf_ ?_
        refine hturns_x n5 ?_
        rw [e1]
        conv=>whnf
        refine bt_ ?_
        refine hrests_x n5 ?_
        rw [e3]
        conv=>whnf
        refine n_ ?_
        refine ⟨L.length - (j+1),by omega,j+1,H2,k5,by omega,rfl,by rw [e4];rfl,kl5,n5,jj2,li2,by rw [e1];omega,by rw [e2];omega⟩
       ·rw [if_neg k6'] at e4
        refine bf_ ?_ (by simpa using k6')
        refine hturns_x n5 ?_
        rw [e1]
        conv=>whnf
        refine n_ ?_
        refine bf_ ?_
        refine hretired_x n5 ?_
        rw [e2]
        conv=>whnf
        refine n_ ?_
        refine bf_ ?_
        refine hturns_x n5 ?_
        rw [e1]
        conv=>whnf
        refine bt_ ?_
        refine hrests_x n5 ?_
        rw [e3]
        conv=>whnf
        refine n_ ?_
        refine ⟨L.length - (j+1),by omega,j+1,H2,k5,by omega,rfl,by rw [e4];rfl,kl5,n5,jj2,li2,by rw [e1];omega,by rw [e2];omega⟩
    ·refine bf_ ?_ (by simpa using k6)
     refine hturns_x m (cw_ ?_)
     refine hretired_x m (cw_ ?_)
     refine n_ ?_
     refine ⟨_,hla2,cw_ ?_⟩
     refine htell_x decH_x m jj a okj fun g5 s5 k5 ob5 kk5 _ n5=>?_
     rw [hH2] at n5
     have y5:=n5.le _ _ (kk5 _ _ (Hp.set_same _ _ _))
     have kl5:=Hp.le_trans kl2 kk5
     conv=>whnf
     refine hturns_x n5 (cw_ ?_)
     obtain ⟨e1,e2,e3,e4,e5⟩ | ⟨e1,e2,e3,e4,e5,e6⟩ | ⟨e1,e2,e3,e4⟩:=hout
     ·rw [e1]
      refine bf_ ?_
      refine ⟨_,loadC0 aggKd y5 rfl,cw_ ?_⟩
      refine bf_ ?_ (by simpa using e3)
      refine ⟨_,loadC0 aggKd y5 rfl,cw_ ?_⟩
      refine bf_ ?_ (by simpa using e4)
      refine hturns_x n5 ?_
      rw [e1]
      conv=>whnf
      refine n_ ?_
      refine bf_ ?_
      refine hretired_x n5 ?_
      rw [e2]
      conv=>whnf
      refine n_ ?_
      refine bf_ ?_
      refine hturns_x n5 ?_
      rw [e1]
      conv=>whnf
      refine bf_ ?_
      refine n_ ?_
      refine ⟨L.length - (j+1),by omega,j+1,H2,k5,by omega,rfl,by rw [e5];rfl,kl5,n5,jj2,li2,by rw [e1];omega,by rw [e2];omega⟩
     ·rw [hle1] at e1
      rw [e1]
      refine bt_ ?_
      refine hretired_x n5 ?_
      rw [e2]
      conv=>whnf
      refine bt_ ?_
      refine ⟨_,loadC0 aggKd y5 rfl,cw_ ?_⟩
      refine bf_ ?_ (by simpa using e4)
      refine ⟨_,loadC0 aggKd y5 rfl,cw_ ?_⟩
      refine bf_ ?_ (by simpa using e5)
      refine hturns_x n5 ?_
      rw [e1]
      conv=>whnf
      refine n_ ?_
      refine bf_ ?_
      refine hretired_x n5 ?_
      rw [e2]
      conv=>whnf
      refine n_ ?_
      refine bf_ ?_
      refine hturns_x n5 ?_
      rw [e1]
      conv=>whnf
      refine bt_ ?_
      refine hrests_x n5 ?_
      rw [e3]
      conv=>whnf
      refine n_ ?_
      refine ⟨L.length - (j+1),by omega,j+1,H2,k5,by omega,rfl,by rw [e6];rfl,kl5,n5,jj2,li2,by rw [e1];omega,by rw [e2];omega⟩
     ·rw [hle1] at e1
      rw [hle2] at e2
      rw [e1]
      refine bt_ ?_
      refine hretired_x n5 ?_
      rw [e2]
      conv=>whnf
      refine bf_ ?_
      refine ⟨_,loadC0 aggKd y5 rfl,cw_ ?_⟩
      by_cases k5':H.ask.kind=5
      ·rw [if_pos k5'] at e4
       refine bt_ ?_ (by rw [k5'];rfl)
       refine ⟨_,loadC0 aggKd y5 rfl,cw_ ?_⟩
       refine bf_ ?_ (by rw [k5'];rfl)
       refine hturns_x n5 ?_
       rw [e1]
       conv=>whnf
       refine n_ ?_
       refine bf_ ?_
       refine hretired_x n5 ?_
       rw [e2]
       conv=>whnf
       refine n_ ?_
       refine bf_ ?_
       refine hturns_x n5 ?_
       rw [e1]
       conv=>whnf
       refine bt_ ?_
       refine hrests_x n5 ?_
       rw [e3]
       conv=>whnf
       refine n_ ?_
       refine ⟨L.length - (j+1),by omega,j+1,H2,k5,by omega,rfl,by rw [e4];rfl,kl5,n5,jj2,li2,by rw [e1];omega,by rw [e2];omega⟩
      ·rw [if_neg k5'] at e4
       refine bf_ ?_ (by simpa using k5')
       refine ⟨_,loadC0 aggKd y5 rfl,cw_ ?_⟩
       by_cases k6':H.ask.kind=6
       ·rw [if_pos k6'] at e4
        refine bt_ ?_ (by rw [k6'];rfl)
        refine hturns_x n5 ?_
        rw [e1]
        conv=>whnf
        refine n_ ?_
        refine bf_ ?_
        refine hretired_x n5 ?_
        rw [e2]
        conv=>whnf
        refine n_ ?_
        refine bf_ ?_
        refine hturns_x n5 ?_
        rw [e1]
        conv=>whnf
        refine bt_ ?_
        refine hrests_x n5 ?_
        rw [e3]
        conv=>whnf
        refine n_ ?_
        refine ⟨L.length - (j+1),by omega,j+1,H2,k5,by omega,rfl,by rw [e4];rfl,kl5,n5,jj2,li2,by rw [e1];omega,by rw [e2];omega⟩
       ·rw [if_neg k6'] at e4
        refine bf_ ?_ (by simpa using k6')
        refine hturns_x n5 ?_
        rw [e1]
        conv=>whnf
        refine n_ ?_
        refine bf_ ?_
        refine hretired_x n5 ?_
        rw [e2]
        conv=>whnf
        refine n_ ?_
        refine bf_ ?_
        refine hturns_x n5 ?_
        rw [e1]
        conv=>whnf
        refine bt_ ?_
        refine hrests_x n5 ?_
        rw [e3]
        conv=>whnf
        refine n_ ?_
        refine ⟨L.length - (j+1),by omega,j+1,H2,k5,by omega,rfl,by rw [e4];rfl,kl5,n5,jj2,li2,by rw [e1];omega,by rw [e2];omega⟩
   ·obtain rfl:j=L.length:=by omega
    conv=>whnf
    refine live33_x ?_
    exact hk _ (Hp.le_trans kl n.le)
end
end Go.Proofs.YtdhlpighdlnohaaGreat
namespace Go.Proofs.YtdhlpighdlnohaaGreat
open Go Go.Mid Go.RowKit Go.Bits
attribute [local irreducible] mid
section
variable {h:Hp}
abbrev shCn:Sh:=.struct [(.int .i64),(.int .i64),(.int .i64),(.int .i64)]
abbrev shIn:Sh:=.struct [(.int .i64),(.int .i64),(.int .i64),(.int .i64),(.int .i64),(.int .i64),.bool,.bool]
abbrev shDe:Sh:=.struct [(.int .i64),shIn,(.int .u64),(.int .u64),.bool]
abbrev shFr:Sh:=.struct [(.slice shDe),(.int .u64),(.int .i64),(.array 32 (.int .u64)),.bool,.bool,(.slice shEn)]
theorem cn_of {cs:List Value} (w:Wf h shCn cs):∃ c:Cn,cs=c.cs:=by
 obtain ⟨a1,b1,rfl,w1,w⟩:=wfC (wfS w)
 obtain ⟨a2,b2,rfl,w2,w⟩:=wfC w
 obtain ⟨a3,b3,rfl,w3,w⟩:=wfC w
 obtain ⟨a4,b4,rfl,w4,w⟩:=wfC w
 obtain rfl:=wfN w
 obtain ⟨x1,rfl,_⟩:=wfI w1
 obtain ⟨x2,rfl,_⟩:=wfI w2
 obtain ⟨x3,rfl,_⟩:=wfI w3
 obtain ⟨x4,rfl,_⟩:=wfI w4
 exact ⟨⟨x1,x2,x3,x4⟩,rfl⟩
theorem in_of {cs:List Value} (w:Wf h shIn cs):∃ x:Ins,cs=x.cs:=by
 obtain ⟨a1,b1,rfl,w1,w⟩:=wfC (wfS w)
 obtain ⟨a2,b2,rfl,w2,w⟩:=wfC w
 obtain ⟨a3,b3,rfl,w3,w⟩:=wfC w
 obtain ⟨a4,b4,rfl,w4,w⟩:=wfC w
 obtain ⟨a5,b5,rfl,w5,w⟩:=wfC w
 obtain ⟨a6,b6,rfl,w6,w⟩:=wfC w
 obtain ⟨a7,b7,rfl,w7,w⟩:=wfC w
 obtain ⟨a8,b8,rfl,w8,w⟩:=wfC w
 obtain rfl:=wfN w
 obtain ⟨x1,rfl,_⟩:=wfI w1
 obtain ⟨x2,rfl,_⟩:=wfI w2
 obtain ⟨x3,rfl,_⟩:=wfI w3
 obtain ⟨x4,rfl,_⟩:=wfI w4
 obtain ⟨x5,rfl,_⟩:=wfI w5
 obtain ⟨x6,rfl,_⟩:=wfI w6
 obtain ⟨x7,rfl⟩:=wfB w7
 obtain ⟨x8,rfl⟩:=wfB w8
 exact ⟨⟨x1,x2,x3,x4,x5,x6,x7,x8⟩,rfl⟩
theorem de_of {cs:List Value} (w:Wf h shDe cs):∃ d:De,d.ok∧cs=d.cs:=by
 obtain ⟨a1,b1,rfl,w1,w⟩:=wfC (wfS w)
 obtain ⟨a2,b2,rfl,w2,w⟩:=wfC w
 obtain ⟨a3,b3,rfl,w3,w⟩:=wfC w
 obtain ⟨a4,b4,rfl,w4,w⟩:=wfC w
 obtain ⟨a5,b5,rfl,w5,w⟩:=wfC w
 obtain rfl:=wfN w
 obtain ⟨x1,rfl,_⟩:=wfI w1
 obtain ⟨x2,rfl⟩:=in_of w2
 obtain ⟨x3,rfl,p3⟩:=wfU w3
 obtain ⟨x4,rfl,p4⟩:=wfU w4
 obtain ⟨x5,rfl⟩:=wfB w5
 exact ⟨⟨x1,x2,x3,x4,x5⟩,⟨p3,p4⟩,by simp [De.cs]⟩
theorem rdA_of {α:Type} {ok:α→Prop} {cells:α→List Value} {t:TypeId} {n:Nat} {e:Sh} {cs:List Value} (ht:isAggT Tryz.prog t=some true) (hn:sizeT Tryz.prog t=some n) (hpos:0<n) (he:e.n=n) (hc:∀ es,Wf h e es→∃ x,ok x∧es=cells x) (w:Wf h (.slice e) cs):∃ (s:Value) (L:List α),cs=[s]∧(∀ x ∈ L,ok x)∧Rd Tryz.prog t n h s (L.map fun x=>.agg (cells x).toArray):=by
 obtain ⟨a,cap,L,rfl,_,hok,hL⟩:=slice_of (P:=Tryz.prog) ht hn hpos he hc w
 refine ⟨.slice a L.length cap,L,rfl,hok,a,cap,by rw [List.length_map],fun i v hv=>?_⟩
 rw [List.getElem?_map] at hv
 cases hx:L[i]? with
 | none=>rw [hx] at hv;cases hv
 | some x=>rw [hx] at hv;cases hv;exact hL i x hx
theorem fr_of {cs:List Value} (w:Wf h shFr cs):∃ (x:Fr) (d e:Value),x.ok∧cs=x.cs d e∧Rd Tryz.prog deT 12 h d (x.deeds.map fun d=>.agg d.cs.toArray)∧Rd Tryz.prog 78 4 h e (x.L.map fun e=>.agg e.cs.toArray):=by
 obtain ⟨a1,b1,rfl,w1,w⟩:=wfC (wfS w)
 obtain ⟨a2,b2,rfl,w2,w⟩:=wfC w
 obtain ⟨a3,b3,rfl,w3,w⟩:=wfC w
 obtain ⟨a4,b4,rfl,w4,w⟩:=wfC w
 obtain ⟨a5,b5,rfl,w5,w⟩:=wfC w
 obtain ⟨a6,b6,rfl,w6,w⟩:=wfC w
 obtain ⟨a7,b7,rfl,w7,w⟩:=wfC w
 obtain rfl:=wfN w
 obtain ⟨d,D,rfl,okD,rd⟩:=rdA_of aggDe sizDe (by decide) rfl (fun es hw=>de_of hw) w1
 obtain ⟨x2,rfl,p2⟩:=wfU w2
 obtain ⟨x3,rfl,_⟩:=wfI w3
 obtain ⟨r,hr,okr,rfl⟩:=wfA (ok:=fun n:Nat=>n<18446744073709551616) (f:=fun n:Nat=>[.int .u64 n]) (n:=32) (fun cs hw=>by obtain ⟨n,e,p⟩:=wfU hw;exact ⟨n,p,e⟩) w4
 obtain ⟨x5,rfl⟩:=wfB w5
 obtain ⟨x6,rfl⟩:=wfB w6
 obtain ⟨e,L,rfl,okL,re⟩:=rdA_of (t := 78) (by kernel_rfl) (by kernel_rfl) (by decide) rfl (fun es hw=>en_of hw) w7
 refine ⟨⟨D,x2,x3,r,x5,x6,L⟩,d,e,⟨okD,p2,hr,okr,fun q hq=>⟨(okL q hq).pg,(okL q hq).pt⟩⟩,?_,rd,re⟩
 have:(r.flatMap fun n:Nat=>[Value.int .u64 n])=wcs r:=(List.map_eq_flatMap (f:=fun n:Nat=>Value.int .u64 n) (l:=r)).symm
 rw [this]
 simp [Fr.cs]
end
end Go.Proofs.YtdhlpighdlnohaaGreat
namespace Go.Proofs.YtdhlpighdlnohaaGreat
open Go Go.Mid Go.RowKit Go.Bits
attribute [local irreducible] mid
theorem hartLinks_w {cs0 cs1 cs2:List Value} (w:World) (w0:Wf (whole w) shCn cs0) (l0:cs0.length=Sh.n shCn) (w1:Wf (whole w) shFr cs1) (l1:cs1.length=Sh.n shFr) (w2:Wf (whole w) (.slice shAn) cs2) (l2:cs2.length=Sh.n (.slice shAn)) :
  X Tryz.prog 4 #[Sh.v shCn cs0,Sh.v shFr cs1,Sh.v (.slice shAn) cs2] (whole w) fun v h'=>v=.bool true∧(whole w).le h':=by
 obtain ⟨c,rfl⟩:=cn_of w0
 obtain ⟨x,d,e,o,rfl,rd,re⟩:=fr_of w1
 obtain ⟨s,L,rfl,okL,rs⟩:=rdA_of aggAn sizAn (by decide) rfl (fun es hw=>an_of hw) w2
 exact hartlinks_x c x o d e s L rd re rs okL fun h' hle=>⟨rfl,hle⟩
end Go.Proofs.YtdhlpighdlnohaaGreat
