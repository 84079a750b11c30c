/-
  A hart is put.
-/
import Derived.Test.YtdhlpighdlnohaaGreatHtV
set_option linter.unusedSimpArgs false
set_option linter.unusedVariables false
set_option maxHeartbeats 8000000
set_option maxRecDepth 10000
set_option linter.unusedSimpArgs false
set_option linter.unusedVariables false
namespace Go.Proofs.YtdhlpighdlnohaaGreat
open Go Go.Mid Go.RowKit Go.Bits
attribute [local irreducible] mid
structure Sta where
 pc:Nat
 priv:Int
 r:List Nat
 f:Csf
 live:Bool
 parked:Bool
 L:List En
def Sta.cs (x:Sta) (s:Value):List Value:=[ux x.pc,.int .i64 x.priv]++(wcs x.r++(x.f.cs++[.bool x.live,.bool x.parked,s]))
structure Sta.ok (x:Sta):Prop where
 pc:x.pc<2 ^ 64
 r:x.r.length=32
 rw:∀ n ∈ x.r,n<2 ^ 64
 f:x.f.ok
 L:∀ e ∈ x.L,e.page<2 ^ 64∧e.pte<2 ^ 64
 len:x.L.length≤2 ^ 20
theorem Sta.ok.clen {x:Sta} (o:x.ok) (s:Value):(x.cs s).length=62:=by simp [Sta.cs,o.r,cs_len o.f.len]
def putL (n:Int) (L:List En):List Tb.En:=L.foldl (tAdd n) []
def putB (n:Int) (x:Sta):Bool:=decide (x.pc % 4=0) && (decide (x.priv=0∨x.priv=1∨x.priv=3) && decide (putL n x.L=x.L.map toE))
def Hd.put (H:Hd) (x:Sta):Hd:={ H with pc:=x.pc,priv:=x.priv,r:=x.r.set 0 0,f:=x.f,L:=x.L,live:=x.live,parked:=x.parked }
section
variable {x:Sta} {s:Value}
theorem sta_live (o:x.ok):(x.cs s)[59]? = some (.bool x.live):=by
 have h1:(wcs x.r).length=32:=by rw [List.length_map];exact o.r
 have h2:=cs_len o.f.len
 unfold Sta.cs
 rw [List.getElem?_append_right (by show 2≤59;decide),List.getElem?_append_right (by rw [h1];show 32≤57;decide),List.getElem?_append_right (by rw [h1,h2];show 25≤25;decide),h1,h2]
 rfl
theorem sta_parked (o:x.ok):(x.cs s)[60]? = some (.bool x.parked):=by
 have h1:(wcs x.r).length=32:=by rw [List.length_map];exact o.r
 have h2:=cs_len o.f.len
 unfold Sta.cs
 rw [List.getElem?_append_right (by show 2≤60;decide),List.getElem?_append_right (by rw [h1];show 32≤58;decide),List.getElem?_append_right (by rw [h1,h2];show 25≤26;decide),h1,h2]
 rfl
theorem sta_ent (o:x.ok):(x.cs s)[61]? = some s:=by
 have h1:(wcs x.r).length=32:=by rw [List.length_map];exact o.r
 have h2:=cs_len o.f.len
 unfold Sta.cs
 rw [List.getElem?_append_right (by show 2≤61;decide),List.getElem?_append_right (by rw [h1];show 32≤59;decide),List.getElem?_append_right (by rw [h1,h2];show 25≤27;decide),h1,h2]
 rfl
end
theorem sizTp:sizeT Tryz.prog 115 = some 1:=by kernel_rfl
theorem csf_one (f:Csf):f.cs.all Value.oneCell'=true:=by
 rw [List.all_eq_true]
 intro v hv
 unfold Csf.cs at hv
 rcases List.mem_append.1 hv with h | h
 ·rw [List.mem_singleton.1 h];rfl
 ·rcases List.mem_append.1 h with h | h
  ·obtain ⟨n,_,rfl⟩:=List.mem_map.1 h;rfl
  ·rcases List.mem_cons.1 h with h | h
   ·rw [h];rfl
   ·rw [List.mem_singleton.1 h];rfl
theorem sta_r {x:Sta} (o:x.ok) (s:Value):((x.cs s).drop 2).take 32=wcs x.r:=by
 have h1:(wcs x.r).length=32:=by rw [List.length_map];exact o.r
 show ((wcs x.r++(x.f.cs++[.bool x.live,.bool x.parked,s]))).take 32=_
 rw [← h1,List.take_left]
theorem sta_f {x:Sta} (o:x.ok) (s:Value):((x.cs s).drop 34).take 25=x.f.cs:=by
 have h1:(wcs x.r).length=32:=by rw [List.length_map];exact o.r
 have h2:=cs_len o.f.len
 show ((wcs x.r++(x.f.cs++[.bool x.live,.bool x.parked,s])).drop 32).take 25=_
 rw [← h1,List.drop_left,← h2,List.take_left]
section
set_option maxHeartbeats 16000000
variable {k h:Hp} {K:Value→Hp→Prop} {b:Nat} {H:Hd}
abbrev staT:TypeId := 73
theorem aggEs:isAggT Tryz.prog 27 = some false:=by kernel_rfl
theorem hput_x (n:HaN k h b H) (hr:H.t.at_=0) (x:Sta) (ox:x.ok) (s:Value) (rs:Rd Tryz.prog 78 4 k s (x.L.map fun e=>.agg e.cs.toArray)) (hk0:putB H.c.tlb x=false→∀ h',HaN k h' b H→K (.int .i64 1) h') (hk1:putB H.c.tlb x=true→∀ h',HaN k h' b (H.put x)→K (.int .i64 0) h'):X Tryz.prog 29 #[.pointer (some ⟨b,0,none⟩),.agg (x.cs s).toArray] h K:=by
 have i:=n.inv
 have hle:=n.le
 have hxl:=ox.len
 have rs0:=rs
 obtain ⟨base,cap,hs,rg⟩:=rs0
 rw [List.length_map] at hs
 have hct:1≤H.c.tlb∧H.c.tlb≤32:=by have hw:=i.cr;unfold wrightB at hw;simp only [Bool.and_eq_true,decide_eq_true_eq] at hw;exact hw.2
 refine fnv (args:=_) mixed [(8,8),(11,11)] [] [87,89,94,111] Tryz.func29 rfl (by kernel_rfl) (cw_ ?_)
 refine new_intro (o:=rowO staT (x.cs s)) (fun z g1 n_z le_z at_z ot_z=>cw_ ?_)
 have n1:=n.up le_z
 refine hrests_x n1 ?_
 rw [decide_eq_true hr]
 conv=>whnf
 obtain ⟨c,t,r,ht,up⟩:=n1.row
 refine ⟨_,r.top.ld 4 aggI4 rfl,cw_ ?_⟩
 refine tnew_x H.c.tlb hct fun tc g2 le2 ht2=>(cw_ ?_)
 refine ⟨_,loadC (i:=61) aggEs (le2 _ _ at_z) (show (x.cs s)[61]? = some (.slice base x.L.length cap) by rw [sta_ent ox,hs]),cw_ ?_⟩
 have hz2:=le2 _ _ at_z
 refine loop_at [29] [] (fun q vs _ h'=>∃ (j:Nat) (g:Hp),j≤x.L.length∧q=x.L.length - j∧vs=[.v (.int .i64 j)]∧g.le h'∧g1.le h'∧Apart g1 g∧Tb.TlbH g tc H.c.tlb (putL H.c.tlb (x.L.take j))∧Tb.Good H.c.tlb (putL H.c.tlb (x.L.take j))) x.L.length ⟨0,news g1 g2,Nat.zero_le _,rfl,rfl,news_le _ _,le2,news_apart _ _,ht2,Tb.good_nil hct⟩ ?_
 rintro q vs cs mm bx g3 ⟨j,gp,hj,rfl,rfl,hgp,hg3,hap,htj,hgd⟩
 conv=>whnf
 refine br_ (fun q1=>?_) fun q1=>?_
 ·have hj2:j<x.L.length:=by omega
  obtain ⟨base2,cap2,hs2,rg2⟩:=rs.le (Hp.le_trans n1.le hg3)
  obtain ⟨ad,had,hla⟩:=rg2 j (.agg (x.L[j]).cs.toArray) (by rw [List.getElem?_map,List.getElem?_eq_getElem hj2];rfl)
  have hbase:base=some ad:=by rw [hs] at hs2;injection hs2 with e1;rw [e1];exact had
  have hsuc:putL H.c.tlb (x.L.take (j+1))=tAdd H.c.tlb (putL H.c.tlb (x.L.take j)) x.L[j]:=by unfold putL;rw [List.take_succ_eq_append_getElem hj2,List.foldl_append];rfl
  have hle4:=ox.L _ (List.getElem_mem hj2)
  rw [hbase]
  conv=>whnf
  refine n_ ?_
  refine ⟨_,hla,cw_ ?_⟩
  refine tadd_x hgd hgp hg3 hap htj x.L[j] hle4 fun q g4 gp4 hgp4 hg4 hap4 ht4=>(cw_ ?_)
  refine n_ ?_
  exact ⟨x.L.length - (j+1),by omega,j+1,gp4,by omega,rfl,rfl,hgp4,hg4,hap4,by rw [hsuc];exact ht4,by rw [hsuc];exact tAdd_good hgd hle4⟩
 ·have hj2:j=x.L.length:=by omega
  subst hj2
  rw [List.take_length] at htj hgd
  conv=>whnf
  refine Tb.all2_x hgd g3 _ (htj.le hgp) fun s2 g4 le4 r4=>?_
  have r4b:=r4.le (news_le g3 g4)
  obtain ⟨b2,c2,rfl,rg4⟩:=r4b
  conv=>whnf
  have hz4:=le4 _ _ (hg3 _ _ at_z)
  refine ⟨_,loadC0 aggU hz4 rfl,cw_ ?_⟩
  refine val_by (and3x ox.pc) (cw_ ?_)
  have n4:=n1.up (Hp.le_trans hg3 le4)
  by_cases p0:x.pc % 4=0
  rotate_left
  ·rw [show (((x.pc % 4:Nat):Int) != 0)=true by simp;omega]
   conv=>whnf
   exact hk0 (by unfold putB;rw [decide_eq_false p0];rfl) g4 n4
  rw [show (((x.pc % 4:Nat):Int) != 0)=false by simp;omega]
  conv=>whnf
  refine ⟨_,loadC (i:=1) aggPv hz4 rfl,cw_ ?_⟩
  by_cases v0:x.priv=0
  ·rw [show (x.priv != 0)=false by simpa using v0]
   have pv:x.priv=0∨x.priv=1∨x.priv=3:=.inl v0
   conv=>whnf
   refine ⟨_,loadC (i:=61) aggEs hz4 (show (x.cs s)[61]? = some (.slice base x.L.length cap) by rw [sta_ent ox,hs]),cw_ ?_⟩
   by_cases ln:(putL H.c.tlb x.L).length=x.L.length
   rotate_left
   ·rw [show (((List.map Tb.En.v (putL H.c.tlb x.L)).length:Int) != (x.L.length:Int))=true by rw [List.length_map];simp;omega]
    conv=>whnf
    exact hk0 (by unfold putB;rw [decide_eq_false (show ¬ putL H.c.tlb x.L=x.L.map toE from fun e=>ln (by rw [e,List.length_map])),Bool.and_false,Bool.and_false]) g4 n4
   rw [show (((List.map Tb.En.v (putL H.c.tlb x.L)).length:Int) != (x.L.length:Int))=false by rw [List.length_map];simp;omega]
   conv=>whnf
   refine loop_at [68] [] (fun q vs _ h'=>h'=g4∧∃ j:Nat,j≤x.L.length∧q=x.L.length - j∧vs=[.v (.int .i64 j)]∧(putL H.c.tlb x.L).take j=(x.L.map toE).take j) x.L.length ⟨rfl,0,Nat.zero_le _,rfl,rfl,rfl⟩ ?_
   rintro q vs cs mm bx g4 ⟨rfl,j,hj,rfl,rfl,htk⟩
   conv=>whnf
   refine br_ (fun qj=>?_) fun qj=>?_
   ·rw [List.length_map] at qj
    have hj2:j<x.L.length:=by omega
    have hj3:j<(putL H.c.tlb x.L).length:=by omega
    obtain ⟨e,he⟩:∃ e,(putL H.c.tlb x.L)[j]=e:=⟨_,rfl⟩
    obtain ⟨e2,he2⟩:∃ e,x.L[j]=e:=⟨_,rfl⟩
    obtain ⟨ad4,had4,hl4⟩:=rg4 j (.agg e.cells.toArray) (by rw [List.getElem?_map,List.getElem?_eq_getElem hj3,he];rfl)
    obtain ⟨base2,cap2,hs2,rg2⟩:=rs.le n4.le
    obtain ⟨ad,had,hla⟩:=rg2 j (.agg e2.cs.toArray) (by rw [List.getElem?_map,List.getElem?_eq_getElem hj2,he2];rfl)
    have hbase:base=some ad:=by rw [hs] at hs2;injection hs2 with e1;rw [e1];exact had
    rw [had4,hbase]
    conv=>whnf
    refine need_intro ⟨by omega,by rw [List.length_map];omega⟩ ?_
    conv=>whnf
    refine ⟨_,hl4,cw_ ?_⟩
    refine ⟨_,loadC (i:=61) aggEs hz4 (show (x.cs s)[61]? = some (.slice (some ad) x.L.length cap) by rw [sta_ent ox,hs,hbase]),cw_ ?_⟩
    refine n_ ?_
    refine ⟨_,hla,cw_ ?_⟩
    have hmj:(x.L.map toE)[j]'(by rw [List.length_map];exact hj2)=toE e2:=by rw [List.getElem_map,he2]
    have hbq:(e.asid==e2.asid && (e.page==(e2.page:Int) && (e.level==e2.level && (e.pte==(e2.pte:Int) && true))))=decide (e=toE e2):=by
     obtain ⟨a1,a2,a3,a4⟩:=e
     rw [Bool.eq_iff_iff]
     simp [toE]
    refine must_via (b:=(e.asid==e2.asid && (e.page==(e2.page:Int) && (e.level==e2.level && (e.pte==(e2.pte:Int) && true))))) (by kernel_rfl) (by kernel_rfl) ?_
    rw [hbq]
    conv=>whnf
    by_cases qe:e=toE e2
    ·rw [decide_eq_true qe]
     conv=>whnf
     refine n_ ?_
     exact ⟨x.L.length - (j+1),by omega,rfl,j+1,by omega,rfl,rfl,by rw [List.take_succ_eq_append_getElem hj3,List.take_succ_eq_append_getElem (by rw [List.length_map];exact hj2),htk,he,hmj,qe]⟩
    ·rw [decide_eq_false qe]
     conv=>whnf
     exact hk0 (by unfold putB;rw [decide_eq_false (show ¬ putL H.c.tlb x.L=x.L.map toE from fun e3=>qe (by rw [← he,← hmj];simp only [e3])),Bool.and_false,Bool.and_false]) _ n4
   ·rw [List.length_map] at qj
    obtain rfl:j=x.L.length:=by omega
    have hall:putL H.c.tlb x.L=x.L.map toE:=by
     rw [List.take_of_length_le (by omega),List.take_of_length_le (by rw [List.length_map];omega)] at htk
     exact htk
    have hyes:=hk1 (by unfold putB;rw [decide_eq_true p0,decide_eq_true pv,decide_eq_true hall];rfl)
    clear hk0 hk1
    have hzb:z≠b:=fun e=>by
     obtain ⟨_,_,rb,_⟩:=n.row
     rw [e,(show h b=some _ from rb)] at n_z;cases n_z
    have hr32:(wcs x.r).length=32:=by rw [List.length_map];exact ox.r
    conv=>whnf
    refine ⟨fun w=>w z=some (rowO staT (x.cs s)),hz4,cw_ ?_⟩
    refine ⟨_,fun w e=>loadC0 aggU e rfl,cw_ ?_⟩
    refine ⟨_,fun w e=>loadC (i:=1) aggPv e rfl,cw_ ?_⟩
    refine ⟨_,loadPA (k:=2) rfl aggR32 sizR32 hz4 (sta_r ox s) hr32,cw_ ?_⟩
    refine rgof_x x.r ox.r ?_
    refine ⟨hz4,cw_ ?_⟩
    refine ⟨_,fun w e=>loadPA (k:=34) rfl aggFil sizFil e (sta_f ox s) (cs_len ox.f.len),cw_ ?_⟩
    have le14:g1.le g4:=Hp.le_trans hg3 le4
    obtain ⟨c5,tt,gg,ob,r50,hgg,hth,hgr0,hap0,hgb,hob⟩:=n1.go
    have r5:HaR g4 b H c5 tt:=le14 _ _ r50
    have o:=n4.inv.ok
    have hro:(wcs (x.r.set 0 0)).length=32:=by rw [List.length_map,List.length_set];exact ox.r
    have hrone:(wcs (x.r.set 0 0)).all Value.oneCell'=true:=by rw [List.all_eq_true];intro v hv;obtain ⟨n,_,rfl⟩:=List.mem_map.1 hv;rfl
    have hHr:(wcs H.r).length=32:=by rw [List.length_map];exact o.r
    refine wr_intro (by exact (r5.z o.len).st 0 sizU (by show 0<71;decide) rfl rfl) (fun s1 at_s1 ot_s1=>cw_ ?_)
    have r6:HaR s1 b { H with pc:=x.pc } c5 tt:=HaR.ofZ (H:=H) rfl ⟨at_s1,o.len⟩
    have z1:=(ot_s1 z hzb).trans hz4
    refine ⟨z1,cw_ ?_⟩
    refine wr_intro (by exact (r6.z o.len).st 1 sizPv (by show 1<71;decide) rfl rfl) (fun s2 at_s2 ot_s2=>cw_ ?_)
    have r7:HaR s2 b { H with pc:=x.pc,priv:=x.priv } c5 tt:=HaR.ofZ (H:=H) rfl ⟨at_s2,o.len⟩
    have z2:=(ot_s2 z hzb).trans z1
    refine ⟨z2,cw_ ?_⟩
    refine wr_intro (by exact (r7.regs).stA 0 sizRf (by rw [hHr];decide) (z:=.agg (wcs (x.r.set 0 0)).toArray) (cs':=wcs (x.r.set 0 0)) (by rw [ag_cells];exact setL_all (hHr.trans hro.symm)) (by rw [ag_cells];exact hro) (by rw [ag_cells];exact hrone)) (fun s3 at_s3 ot_s3=>cw_ ?_)
    have r8:HaR s3 b { H with pc:=x.pc,priv:=x.priv,r:=x.r.set 0 0 } c5 tt:=HaR.ofRegs (H:={ H with pc:=x.pc,priv:=x.priv }) ⟨at_s3,by simp [Cn.cs]⟩
    have z3:=(ot_s3 z hzb).trans z2
    refine ⟨z3,cw_ ?_⟩
    refine wr_intro (by exact (r8.file (by show (x.r.set 0 0).length=32;rw [List.length_set];exact ox.r)).stA 0 sizFil (by rw [cs_len (show H.f.w.length=22 from o.f.len)];decide) (z:=.agg x.f.cs.toArray) (cs':=x.f.cs) (by rw [ag_cells];exact setL_all ((cs_len (show H.f.w.length=22 from o.f.len)).trans (cs_len ox.f.len).symm)) (by rw [ag_cells];exact cs_len ox.f.len) (by rw [ag_cells];exact csf_one x.f)) (fun s4 at_s4 ot_s4=>cw_ ?_)
    have r9:HaR s4 b { H with pc:=x.pc,priv:=x.priv,r:=x.r.set 0 0,f:=x.f } c5 tt:=HaR.ofFile (H:={ H with pc:=x.pc,priv:=x.priv,r:=x.r.set 0 0 }) ⟨at_s4,by simp [Cn.cs,ox.r]⟩
    have z4:=(ot_s4 z hzb).trans z3
    refine ⟨z4,cw_ ?_⟩
    have oX:({ H with pc:=x.pc,priv:=x.priv,r:=x.r.set 0 0,f:=x.f }:Hd).a.length=62:=by simp [Hd.a,Cn.cs,ox.r,cs_len ox.f.len]
    refine wr_intro (by exact (r9.z oX).st 2 sizTp (by show 2<71;decide) rfl rfl) (fun s5 at_s5 ot_s5=>cw_ ?_)
    have r10:HaR s5 b { H with pc:=x.pc,priv:=x.priv,r:=x.r.set 0 0,f:=x.f } tc tt:=HaR.ofZ (H:={ H with pc:=x.pc,priv:=x.priv,r:=x.r.set 0 0,f:=x.f }) rfl ⟨at_s5,oX⟩
    have z5:=(ot_s5 z hzb).trans z4
    refine ⟨z5,cw_ ?_⟩
    refine ⟨fun w=>w z=some (rowO staT (x.cs s)),z5,cw_ ?_⟩
    refine ⟨_,loadC (i:=59) aggB6 z5 (sta_live ox),cw_ ?_⟩
    refine ⟨_,fun w e=>loadC (i:=60) aggB6 e (sta_parked ox),cw_ ?_⟩
    refine wr_intro (by exact (r10.z oX).st 3 sizB6 (by show 3<71;decide) rfl rfl) (fun s6 at_s6 ot_s6=>cw_ ?_)
    have r11:HaR s6 b { H with pc:=x.pc,priv:=x.priv,r:=x.r.set 0 0,f:=x.f,live:=x.live } tc tt:=HaR.ofZ (H:={ H with pc:=x.pc,priv:=x.priv,r:=x.r.set 0 0,f:=x.f }) rfl ⟨at_s6,oX⟩
    have z6:=(ot_s6 z hzb).trans z5
    refine ⟨z6,cw_ ?_⟩
    refine wr_intro (by exact (r11.z oX).st 4 sizB6 (by show 4<71;decide) rfl rfl) (fun s7 at_s7 ot_s7=>cw_ ?_)
    have r12:HaR s7 b (H.put x) tc tt:=HaR.ofZ (H:={ H with pc:=x.pc,priv:=x.priv,r:=x.r.set 0 0,f:=x.f }) (H':=H.put x) rfl ⟨at_s7,oX⟩
    refine ⟨(ot_s7 z hzb).trans z6,cw_ ?_⟩
    have hot:∀ d,d≠b→s7 d=g4 d:=fun d hd=>by rw [ot_s7 d hd,ot_s6 d hd,ot_s5 d hd,ot_s4 d hd,ot_s3 d hd,ot_s2 d hd,ot_s1 d hd]
    have hlt:∀ m ∈ x.r.set 0 0,m<2 ^ 64:=fun m hm=>by
     rcases List.mem_or_eq_of_mem_set hm with e | e
     ·exact ox.rw m e
     ·rw [e];decide
    refine hyes s7 ⟨fun d o e=>by rw [hot d (fun e2=>by rw [e2,n4.nb] at e;cases e)];exact n4.le d o e,n4.nb,{ i with ok:=⟨by rw [show (H.put x).r=x.r.set 0 0 from rfl,List.length_set];exact ox.r,hlt,ox.f,ox.pc⟩,T:=by rw [show (H.put x).L=x.L from rfl,← hall];exact hgd },tc,tt,gp,ob,r12,fun d o e=>by rw [hot d (fun e2=>by rw [e2,hap b _ r50] at e;cases e)];exact le4 d o (hgp d o e),by rw [show (H.put x).L=x.L from rfl,← hall];exact htj,(hgr0.le le14).agree fun y hy=>hot y (hob y hy).2.1,hap.le n1.le,hap b _ r50,fun y hy=>⟨(hob y hy).1,(hob y hy).2.1,?_⟩⟩
    obtain ⟨q1,⟨e',q2⟩ | ⟨y2,cap2,rest,e',q2,q3,q4,q5⟩⟩:=hgr0
    ·rw [e'] at hy;cases hy
    ·rw [e'] at hy
     cases hy
     exact hap _ _ q5
  rw [show (x.priv != 0)=true by simpa using v0]
  conv=>whnf
  refine ⟨_,loadC (i:=1) aggPv hz4 rfl,cw_ ?_⟩
  by_cases v1:x.priv=1
  ·rw [show (x.priv != 1)=false by simpa using v1]
   have pv:x.priv=0∨x.priv=1∨x.priv=3:=.inr (.inl v1)
   conv=>whnf
   refine ⟨_,loadC (i:=61) aggEs hz4 (show (x.cs s)[61]? = some (.slice base x.L.length cap) by rw [sta_ent ox,hs]),cw_ ?_⟩
   by_cases ln:(putL H.c.tlb x.L).length=x.L.length
   rotate_left
   ·rw [show (((List.map Tb.En.v (putL H.c.tlb x.L)).length:Int) != (x.L.length:Int))=true by rw [List.length_map];simp;omega]
    conv=>whnf
    exact hk0 (by unfold putB;rw [decide_eq_false (show ¬ putL H.c.tlb x.L=x.L.map toE from fun e=>ln (by rw [e,List.length_map])),Bool.and_false,Bool.and_false]) g4 n4
   rw [show (((List.map Tb.En.v (putL H.c.tlb x.L)).length:Int) != (x.L.length:Int))=false by rw [List.length_map];simp;omega]
   conv=>whnf
   refine loop_at [68] [] (fun q vs _ h'=>h'=g4∧∃ j:Nat,j≤x.L.length∧q=x.L.length - j∧vs=[.v (.int .i64 j)]∧(putL H.c.tlb x.L).take j=(x.L.map toE).take j) x.L.length ⟨rfl,0,Nat.zero_le _,rfl,rfl,rfl⟩ ?_
   rintro q vs cs mm bx g4 ⟨rfl,j,hj,rfl,rfl,htk⟩
   conv=>whnf
   refine br_ (fun qj=>?_) fun qj=>?_
   ·rw [List.length_map] at qj
    have hj2:j<x.L.length:=by omega
    have hj3:j<(putL H.c.tlb x.L).length:=by omega
    obtain ⟨e,he⟩:∃ e,(putL H.c.tlb x.L)[j]=e:=⟨_,rfl⟩
    obtain ⟨e2,he2⟩:∃ e,x.L[j]=e:=⟨_,rfl⟩
    obtain ⟨ad4,had4,hl4⟩:=rg4 j (.agg e.cells.toArray) (by rw [List.getElem?_map,List.getElem?_eq_getElem hj3,he];rfl)
    obtain ⟨base2,cap2,hs2,rg2⟩:=rs.le n4.le
    obtain ⟨ad,had,hla⟩:=rg2 j (.agg e2.cs.toArray) (by rw [List.getElem?_map,List.getElem?_eq_getElem hj2,he2];rfl)
    have hbase:base=some ad:=by rw [hs] at hs2;injection hs2 with e1;rw [e1];exact had
    rw [had4,hbase]
    conv=>whnf
    refine need_intro ⟨by omega,by rw [List.length_map];omega⟩ ?_
    conv=>whnf
    refine ⟨_,hl4,cw_ ?_⟩
    refine ⟨_,loadC (i:=61) aggEs hz4 (show (x.cs s)[61]? = some (.slice (some ad) x.L.length cap) by rw [sta_ent ox,hs,hbase]),cw_ ?_⟩
    refine n_ ?_
    refine ⟨_,hla,cw_ ?_⟩
    have hmj:(x.L.map toE)[j]'(by rw [List.length_map];exact hj2)=toE e2:=by rw [List.getElem_map,he2]
    have hbq:(e.asid==e2.asid && (e.page==(e2.page:Int) && (e.level==e2.level && (e.pte==(e2.pte:Int) && true))))=decide (e=toE e2):=by
     obtain ⟨a1,a2,a3,a4⟩:=e
     rw [Bool.eq_iff_iff]
     simp [toE]
    refine must_via (b:=(e.asid==e2.asid && (e.page==(e2.page:Int) && (e.level==e2.level && (e.pte==(e2.pte:Int) && true))))) (by kernel_rfl) (by kernel_rfl) ?_
    rw [hbq]
    conv=>whnf
    by_cases qe:e=toE e2
    ·rw [decide_eq_true qe]
     conv=>whnf
     refine n_ ?_
     exact ⟨x.L.length - (j+1),by omega,rfl,j+1,by omega,rfl,rfl,by rw [List.take_succ_eq_append_getElem hj3,List.take_succ_eq_append_getElem (by rw [List.length_map];exact hj2),htk,he,hmj,qe]⟩
    ·rw [decide_eq_false qe]
     conv=>whnf
     exact hk0 (by unfold putB;rw [decide_eq_false (show ¬ putL H.c.tlb x.L=x.L.map toE from fun e3=>qe (by rw [← he,← hmj];simp only [e3])),Bool.and_false,Bool.and_false]) _ n4
   ·rw [List.length_map] at qj
    obtain rfl:j=x.L.length:=by omega
    have hall:putL H.c.tlb x.L=x.L.map toE:=by
     rw [List.take_of_length_le (by omega),List.take_of_length_le (by rw [List.length_map];omega)] at htk
     exact htk
    have hyes:=hk1 (by unfold putB;rw [decide_eq_true p0,decide_eq_true pv,decide_eq_true hall];rfl)
    clear hk0 hk1
    have hzb:z≠b:=fun e=>by
     obtain ⟨_,_,rb,_⟩:=n.row
     rw [e,(show h b=some _ from rb)] at n_z;cases n_z
    have hr32:(wcs x.r).length=32:=by rw [List.length_map];exact ox.r
    conv=>whnf
    refine ⟨fun w=>w z=some (rowO staT (x.cs s)),hz4,cw_ ?_⟩
    refine ⟨_,fun w e=>loadC0 aggU e rfl,cw_ ?_⟩
    refine ⟨_,fun w e=>loadC (i:=1) aggPv e rfl,cw_ ?_⟩
    refine ⟨_,loadPA (k:=2) rfl aggR32 sizR32 hz4 (sta_r ox s) hr32,cw_ ?_⟩
    refine rgof_x x.r ox.r ?_
    refine ⟨hz4,cw_ ?_⟩
    refine ⟨_,fun w e=>loadPA (k:=34) rfl aggFil sizFil e (sta_f ox s) (cs_len ox.f.len),cw_ ?_⟩
    have le14:g1.le g4:=Hp.le_trans hg3 le4
    obtain ⟨c5,tt,gg,ob,r50,hgg,hth,hgr0,hap0,hgb,hob⟩:=n1.go
    have r5:HaR g4 b H c5 tt:=le14 _ _ r50
    have o:=n4.inv.ok
    have hro:(wcs (x.r.set 0 0)).length=32:=by rw [List.length_map,List.length_set];exact ox.r
    have hrone:(wcs (x.r.set 0 0)).all Value.oneCell'=true:=by rw [List.all_eq_true];intro v hv;obtain ⟨n,_,rfl⟩:=List.mem_map.1 hv;rfl
    have hHr:(wcs H.r).length=32:=by rw [List.length_map];exact o.r
    refine wr_intro (by exact (r5.z o.len).st 0 sizU (by show 0<71;decide) rfl rfl) (fun s1 at_s1 ot_s1=>cw_ ?_)
    have r6:HaR s1 b { H with pc:=x.pc } c5 tt:=HaR.ofZ (H:=H) rfl ⟨at_s1,o.len⟩
    have z1:=(ot_s1 z hzb).trans hz4
    refine ⟨z1,cw_ ?_⟩
    refine wr_intro (by exact (r6.z o.len).st 1 sizPv (by show 1<71;decide) rfl rfl) (fun s2 at_s2 ot_s2=>cw_ ?_)
    have r7:HaR s2 b { H with pc:=x.pc,priv:=x.priv } c5 tt:=HaR.ofZ (H:=H) rfl ⟨at_s2,o.len⟩
    have z2:=(ot_s2 z hzb).trans z1
    refine ⟨z2,cw_ ?_⟩
    refine wr_intro (by exact (r7.regs).stA 0 sizRf (by rw [hHr];decide) (z:=.agg (wcs (x.r.set 0 0)).toArray) (cs':=wcs (x.r.set 0 0)) (by rw [ag_cells];exact setL_all (hHr.trans hro.symm)) (by rw [ag_cells];exact hro) (by rw [ag_cells];exact hrone)) (fun s3 at_s3 ot_s3=>cw_ ?_)
    have r8:HaR s3 b { H with pc:=x.pc,priv:=x.priv,r:=x.r.set 0 0 } c5 tt:=HaR.ofRegs (H:={ H with pc:=x.pc,priv:=x.priv }) ⟨at_s3,by simp [Cn.cs]⟩
    have z3:=(ot_s3 z hzb).trans z2
    refine ⟨z3,cw_ ?_⟩
    refine wr_intro (by exact (r8.file (by show (x.r.set 0 0).length=32;rw [List.length_set];exact ox.r)).stA 0 sizFil (by rw [cs_len (show H.f.w.length=22 from o.f.len)];decide) (z:=.agg x.f.cs.toArray) (cs':=x.f.cs) (by rw [ag_cells];exact setL_all ((cs_len (show H.f.w.length=22 from o.f.len)).trans (cs_len ox.f.len).symm)) (by rw [ag_cells];exact cs_len ox.f.len) (by rw [ag_cells];exact csf_one x.f)) (fun s4 at_s4 ot_s4=>cw_ ?_)
    have r9:HaR s4 b { H with pc:=x.pc,priv:=x.priv,r:=x.r.set 0 0,f:=x.f } c5 tt:=HaR.ofFile (H:={ H with pc:=x.pc,priv:=x.priv,r:=x.r.set 0 0 }) ⟨at_s4,by simp [Cn.cs,ox.r]⟩
    have z4:=(ot_s4 z hzb).trans z3
    refine ⟨z4,cw_ ?_⟩
    have oX:({ H with pc:=x.pc,priv:=x.priv,r:=x.r.set 0 0,f:=x.f }:Hd).a.length=62:=by simp [Hd.a,Cn.cs,ox.r,cs_len ox.f.len]
    refine wr_intro (by exact (r9.z oX).st 2 sizTp (by show 2<71;decide) rfl rfl) (fun s5 at_s5 ot_s5=>cw_ ?_)
    have r10:HaR s5 b { H with pc:=x.pc,priv:=x.priv,r:=x.r.set 0 0,f:=x.f } tc tt:=HaR.ofZ (H:={ H with pc:=x.pc,priv:=x.priv,r:=x.r.set 0 0,f:=x.f }) rfl ⟨at_s5,oX⟩
    have z5:=(ot_s5 z hzb).trans z4
    refine ⟨z5,cw_ ?_⟩
    refine ⟨fun w=>w z=some (rowO staT (x.cs s)),z5,cw_ ?_⟩
    refine ⟨_,loadC (i:=59) aggB6 z5 (sta_live ox),cw_ ?_⟩
    refine ⟨_,fun w e=>loadC (i:=60) aggB6 e (sta_parked ox),cw_ ?_⟩
    refine wr_intro (by exact (r10.z oX).st 3 sizB6 (by show 3<71;decide) rfl rfl) (fun s6 at_s6 ot_s6=>cw_ ?_)
    have r11:HaR s6 b { H with pc:=x.pc,priv:=x.priv,r:=x.r.set 0 0,f:=x.f,live:=x.live } tc tt:=HaR.ofZ (H:={ H with pc:=x.pc,priv:=x.priv,r:=x.r.set 0 0,f:=x.f }) rfl ⟨at_s6,oX⟩
    have z6:=(ot_s6 z hzb).trans z5
    refine ⟨z6,cw_ ?_⟩
    refine wr_intro (by exact (r11.z oX).st 4 sizB6 (by show 4<71;decide) rfl rfl) (fun s7 at_s7 ot_s7=>cw_ ?_)
    have r12:HaR s7 b (H.put x) tc tt:=HaR.ofZ (H:={ H with pc:=x.pc,priv:=x.priv,r:=x.r.set 0 0,f:=x.f }) (H':=H.put x) rfl ⟨at_s7,oX⟩
    refine ⟨(ot_s7 z hzb).trans z6,cw_ ?_⟩
    have hot:∀ d,d≠b→s7 d=g4 d:=fun d hd=>by rw [ot_s7 d hd,ot_s6 d hd,ot_s5 d hd,ot_s4 d hd,ot_s3 d hd,ot_s2 d hd,ot_s1 d hd]
    have hlt:∀ m ∈ x.r.set 0 0,m<2 ^ 64:=fun m hm=>by
     rcases List.mem_or_eq_of_mem_set hm with e | e
     ·exact ox.rw m e
     ·rw [e];decide
    refine hyes s7 ⟨fun d o e=>by rw [hot d (fun e2=>by rw [e2,n4.nb] at e;cases e)];exact n4.le d o e,n4.nb,{ i with ok:=⟨by rw [show (H.put x).r=x.r.set 0 0 from rfl,List.length_set];exact ox.r,hlt,ox.f,ox.pc⟩,T:=by rw [show (H.put x).L=x.L from rfl,← hall];exact hgd },tc,tt,gp,ob,r12,fun d o e=>by rw [hot d (fun e2=>by rw [e2,hap b _ r50] at e;cases e)];exact le4 d o (hgp d o e),by rw [show (H.put x).L=x.L from rfl,← hall];exact htj,(hgr0.le le14).agree fun y hy=>hot y (hob y hy).2.1,hap.le n1.le,hap b _ r50,fun y hy=>⟨(hob y hy).1,(hob y hy).2.1,?_⟩⟩
    obtain ⟨q1,⟨e',q2⟩ | ⟨y2,cap2,rest,e',q2,q3,q4,q5⟩⟩:=hgr0
    ·rw [e'] at hy;cases hy
    ·rw [e'] at hy
     cases hy
     exact hap _ _ q5
  rw [show (x.priv != 1)=true by simpa using v1]
  conv=>whnf
  refine ⟨_,loadC (i:=1) aggPv hz4 rfl,cw_ ?_⟩
  by_cases v3:x.priv=3
  rotate_left
  ·rw [show (x.priv != 3)=true by simpa using v3]
   conv=>whnf
   exact hk0 (by unfold putB;rw [decide_eq_false (show ¬ (x.priv=0∨x.priv=1∨x.priv=3) from fun e=>e.elim v0 fun e=>e.elim v1 v3),Bool.false_and,Bool.and_false]) g4 n4
  ·rw [show (x.priv != 3)=false by simpa using v3]
   have pv:x.priv=0∨x.priv=1∨x.priv=3:=.inr (.inr v3)
   conv=>whnf
   refine ⟨_,loadC (i:=61) aggEs hz4 (show (x.cs s)[61]? = some (.slice base x.L.length cap) by rw [sta_ent ox,hs]),cw_ ?_⟩
   by_cases ln:(putL H.c.tlb x.L).length=x.L.length
   rotate_left
   ·rw [show (((List.map Tb.En.v (putL H.c.tlb x.L)).length:Int) != (x.L.length:Int))=true by rw [List.length_map];simp;omega]
    conv=>whnf
    exact hk0 (by unfold putB;rw [decide_eq_false (show ¬ putL H.c.tlb x.L=x.L.map toE from fun e=>ln (by rw [e,List.length_map])),Bool.and_false,Bool.and_false]) g4 n4
   rw [show (((List.map Tb.En.v (putL H.c.tlb x.L)).length:Int) != (x.L.length:Int))=false by rw [List.length_map];simp;omega]
   conv=>whnf
   refine loop_at [68] [] (fun q vs _ h'=>h'=g4∧∃ j:Nat,j≤x.L.length∧q=x.L.length - j∧vs=[.v (.int .i64 j)]∧(putL H.c.tlb x.L).take j=(x.L.map toE).take j) x.L.length ⟨rfl,0,Nat.zero_le _,rfl,rfl,rfl⟩ ?_
   rintro q vs cs mm bx g4 ⟨rfl,j,hj,rfl,rfl,htk⟩
   conv=>whnf
   refine br_ (fun qj=>?_) fun qj=>?_
   ·rw [List.length_map] at qj
    have hj2:j<x.L.length:=by omega
    have hj3:j<(putL H.c.tlb x.L).length:=by omega
    obtain ⟨e,he⟩:∃ e,(putL H.c.tlb x.L)[j]=e:=⟨_,rfl⟩
    obtain ⟨e2,he2⟩:∃ e,x.L[j]=e:=⟨_,rfl⟩
    obtain ⟨ad4,had4,hl4⟩:=rg4 j (.agg e.cells.toArray) (by rw [List.getElem?_map,List.getElem?_eq_getElem hj3,he];rfl)
    obtain ⟨base2,cap2,hs2,rg2⟩:=rs.le n4.le
    obtain ⟨ad,had,hla⟩:=rg2 j (.agg e2.cs.toArray) (by rw [List.getElem?_map,List.getElem?_eq_getElem hj2,he2];rfl)
    have hbase:base=some ad:=by rw [hs] at hs2;injection hs2 with e1;rw [e1];exact had
    rw [had4,hbase]
    conv=>whnf
    refine need_intro ⟨by omega,by rw [List.length_map];omega⟩ ?_
    conv=>whnf
    refine ⟨_,hl4,cw_ ?_⟩
    refine ⟨_,loadC (i:=61) aggEs hz4 (show (x.cs s)[61]? = some (.slice (some ad) x.L.length cap) by rw [sta_ent ox,hs,hbase]),cw_ ?_⟩
    refine n_ ?_
    refine ⟨_,hla,cw_ ?_⟩
    have hmj:(x.L.map toE)[j]'(by rw [List.length_map];exact hj2)=toE e2:=by rw [List.getElem_map,he2]
    have hbq:(e.asid==e2.asid && (e.page==(e2.page:Int) && (e.level==e2.level && (e.pte==(e2.pte:Int) && true))))=decide (e=toE e2):=by
     obtain ⟨a1,a2,a3,a4⟩:=e
     rw [Bool.eq_iff_iff]
     simp [toE]
    refine must_via (b:=(e.asid==e2.asid && (e.page==(e2.page:Int) && (e.level==e2.level && (e.pte==(e2.pte:Int) && true))))) (by kernel_rfl) (by kernel_rfl) ?_
    rw [hbq]
    conv=>whnf
    by_cases qe:e=toE e2
    ·rw [decide_eq_true qe]
     conv=>whnf
     refine n_ ?_
     exact ⟨x.L.length - (j+1),by omega,rfl,j+1,by omega,rfl,rfl,by rw [List.take_succ_eq_append_getElem hj3,List.take_succ_eq_append_getElem (by rw [List.length_map];exact hj2),htk,he,hmj,qe]⟩
    ·rw [decide_eq_false qe]
     conv=>whnf
     exact hk0 (by unfold putB;rw [decide_eq_false (show ¬ putL H.c.tlb x.L=x.L.map toE from fun e3=>qe (by rw [← he,← hmj];simp only [e3])),Bool.and_false,Bool.and_false]) _ n4
   ·rw [List.length_map] at qj
    obtain rfl:j=x.L.length:=by omega
    have hall:putL H.c.tlb x.L=x.L.map toE:=by
     rw [List.take_of_length_le (by omega),List.take_of_length_le (by rw [List.length_map];omega)] at htk
     exact htk
    have hyes:=hk1 (by unfold putB;rw [decide_eq_true p0,decide_eq_true pv,decide_eq_true hall];rfl)
    clear hk0 hk1
    have hzb:z≠b:=fun e=>by
     obtain ⟨_,_,rb,_⟩:=n.row
     rw [e,(show h b=some _ from rb)] at n_z;cases n_z
    have hr32:(wcs x.r).length=32:=by rw [List.length_map];exact ox.r
    conv=>whnf
    refine ⟨fun w=>w z=some (rowO staT (x.cs s)),hz4,cw_ ?_⟩
    refine ⟨_,fun w e=>loadC0 aggU e rfl,cw_ ?_⟩
    refine ⟨_,fun w e=>loadC (i:=1) aggPv e rfl,cw_ ?_⟩
    refine ⟨_,loadPA (k:=2) rfl aggR32 sizR32 hz4 (sta_r ox s) hr32,cw_ ?_⟩
    refine rgof_x x.r ox.r ?_
    refine ⟨hz4,cw_ ?_⟩
    refine ⟨_,fun w e=>loadPA (k:=34) rfl aggFil sizFil e (sta_f ox s) (cs_len ox.f.len),cw_ ?_⟩
    have le14:g1.le g4:=Hp.le_trans hg3 le4
    obtain ⟨c5,tt,gg,ob,r50,hgg,hth,hgr0,hap0,hgb,hob⟩:=n1.go
    have r5:HaR g4 b H c5 tt:=le14 _ _ r50
    have o:=n4.inv.ok
    have hro:(wcs (x.r.set 0 0)).length=32:=by rw [List.length_map,List.length_set];exact ox.r
    have hrone:(wcs (x.r.set 0 0)).all Value.oneCell'=true:=by rw [List.all_eq_true];intro v hv;obtain ⟨n,_,rfl⟩:=List.mem_map.1 hv;rfl
    have hHr:(wcs H.r).length=32:=by rw [List.length_map];exact o.r
    refine wr_intro (by exact (r5.z o.len).st 0 sizU (by show 0<71;decide) rfl rfl) (fun s1 at_s1 ot_s1=>cw_ ?_)
    have r6:HaR s1 b { H with pc:=x.pc } c5 tt:=HaR.ofZ (H:=H) rfl ⟨at_s1,o.len⟩
    have z1:=(ot_s1 z hzb).trans hz4
    refine ⟨z1,cw_ ?_⟩
    refine wr_intro (by exact (r6.z o.len).st 1 sizPv (by show 1<71;decide) rfl rfl) (fun s2 at_s2 ot_s2=>cw_ ?_)
    have r7:HaR s2 b { H with pc:=x.pc,priv:=x.priv } c5 tt:=HaR.ofZ (H:=H) rfl ⟨at_s2,o.len⟩
    have z2:=(ot_s2 z hzb).trans z1
    refine ⟨z2,cw_ ?_⟩
    refine wr_intro (by exact (r7.regs).stA 0 sizRf (by rw [hHr];decide) (z:=.agg (wcs (x.r.set 0 0)).toArray) (cs':=wcs (x.r.set 0 0)) (by rw [ag_cells];exact setL_all (hHr.trans hro.symm)) (by rw [ag_cells];exact hro) (by rw [ag_cells];exact hrone)) (fun s3 at_s3 ot_s3=>cw_ ?_)
    have r8:HaR s3 b { H with pc:=x.pc,priv:=x.priv,r:=x.r.set 0 0 } c5 tt:=HaR.ofRegs (H:={ H with pc:=x.pc,priv:=x.priv }) ⟨at_s3,by simp [Cn.cs]⟩
    have z3:=(ot_s3 z hzb).trans z2
    refine ⟨z3,cw_ ?_⟩
    refine wr_intro (by exact (r8.file (by show (x.r.set 0 0).length=32;rw [List.length_set];exact ox.r)).stA 0 sizFil (by rw [cs_len (show H.f.w.length=22 from o.f.len)];decide) (z:=.agg x.f.cs.toArray) (cs':=x.f.cs) (by rw [ag_cells];exact setL_all ((cs_len (show H.f.w.length=22 from o.f.len)).trans (cs_len ox.f.len).symm)) (by rw [ag_cells];exact cs_len ox.f.len) (by rw [ag_cells];exact csf_one x.f)) (fun s4 at_s4 ot_s4=>cw_ ?_)
    have r9:HaR s4 b { H with pc:=x.pc,priv:=x.priv,r:=x.r.set 0 0,f:=x.f } c5 tt:=HaR.ofFile (H:={ H with pc:=x.pc,priv:=x.priv,r:=x.r.set 0 0 }) ⟨at_s4,by simp [Cn.cs,ox.r]⟩
    have z4:=(ot_s4 z hzb).trans z3
    refine ⟨z4,cw_ ?_⟩
    have oX:({ H with pc:=x.pc,priv:=x.priv,r:=x.r.set 0 0,f:=x.f }:Hd).a.length=62:=by simp [Hd.a,Cn.cs,ox.r,cs_len ox.f.len]
    refine wr_intro (by exact (r9.z oX).st 2 sizTp (by show 2<71;decide) rfl rfl) (fun s5 at_s5 ot_s5=>cw_ ?_)
    have r10:HaR s5 b { H with pc:=x.pc,priv:=x.priv,r:=x.r.set 0 0,f:=x.f } tc tt:=HaR.ofZ (H:={ H with pc:=x.pc,priv:=x.priv,r:=x.r.set 0 0,f:=x.f }) rfl ⟨at_s5,oX⟩
    have z5:=(ot_s5 z hzb).trans z4
    refine ⟨z5,cw_ ?_⟩
    refine ⟨fun w=>w z=some (rowO staT (x.cs s)),z5,cw_ ?_⟩
    refine ⟨_,loadC (i:=59) aggB6 z5 (sta_live ox),cw_ ?_⟩
    refine ⟨_,fun w e=>loadC (i:=60) aggB6 e (sta_parked ox),cw_ ?_⟩
    refine wr_intro (by exact (r10.z oX).st 3 sizB6 (by show 3<71;decide) rfl rfl) (fun s6 at_s6 ot_s6=>cw_ ?_)
    have r11:HaR s6 b { H with pc:=x.pc,priv:=x.priv,r:=x.r.set 0 0,f:=x.f,live:=x.live } tc tt:=HaR.ofZ (H:={ H with pc:=x.pc,priv:=x.priv,r:=x.r.set 0 0,f:=x.f }) rfl ⟨at_s6,oX⟩
    have z6:=(ot_s6 z hzb).trans z5
    refine ⟨z6,cw_ ?_⟩
    refine wr_intro (by exact (r11.z oX).st 4 sizB6 (by show 4<71;decide) rfl rfl) (fun s7 at_s7 ot_s7=>cw_ ?_)
    have r12:HaR s7 b (H.put x) tc tt:=HaR.ofZ (H:={ H with pc:=x.pc,priv:=x.priv,r:=x.r.set 0 0,f:=x.f }) (H':=H.put x) rfl ⟨at_s7,oX⟩
    refine ⟨(ot_s7 z hzb).trans z6,cw_ ?_⟩
    have hot:∀ d,d≠b→s7 d=g4 d:=fun d hd=>by rw [ot_s7 d hd,ot_s6 d hd,ot_s5 d hd,ot_s4 d hd,ot_s3 d hd,ot_s2 d hd,ot_s1 d hd]
    have hlt:∀ m ∈ x.r.set 0 0,m<2 ^ 64:=fun m hm=>by
     rcases List.mem_or_eq_of_mem_set hm with e | e
     ·exact ox.rw m e
     ·rw [e];decide
    refine hyes s7 ⟨fun d o e=>by rw [hot d (fun e2=>by rw [e2,n4.nb] at e;cases e)];exact n4.le d o e,n4.nb,{ i with ok:=⟨by rw [show (H.put x).r=x.r.set 0 0 from rfl,List.length_set];exact ox.r,hlt,ox.f,ox.pc⟩,T:=by rw [show (H.put x).L=x.L from rfl,← hall];exact hgd },tc,tt,gp,ob,r12,fun d o e=>by rw [hot d (fun e2=>by rw [e2,hap b _ r50] at e;cases e)];exact le4 d o (hgp d o e),by rw [show (H.put x).L=x.L from rfl,← hall];exact htj,(hgr0.le le14).agree fun y hy=>hot y (hob y hy).2.1,hap.le n1.le,hap b _ r50,fun y hy=>⟨(hob y hy).1,(hob y hy).2.1,?_⟩⟩
    obtain ⟨q1,⟨e',q2⟩ | ⟨y2,cap2,rest,e',q2,q3,q4,q5⟩⟩:=hgr0
    ·rw [e'] at hy;cases hy
    ·rw [e'] at hy
     cases hy
     exact hap _ _ q5
end
end Go.Proofs.YtdhlpighdlnohaaGreat
