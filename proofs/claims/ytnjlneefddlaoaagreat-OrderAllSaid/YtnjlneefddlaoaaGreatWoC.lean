/-
  Worlds: slices, buses and worlds by themselves.
-/
import Derived.Test.YtnjlneefddlaoaaGreatWoB
set_option linter.unusedSimpArgs false
set_option linter.unusedVariables false
set_option maxHeartbeats 8000000
set_option maxRecDepth 10000
set_option linter.unusedSimpArgs false
set_option linter.unusedVariables false
namespace Go.Proofs.YtnjlneefddlaoaaGreat
open Go Go.Mid Go.RowKit
attribute [local irreducible] mid
section
variable {h:Hp} {K:Value→Hp→Prop}
theorem cloneB_x (base:Option Addr) (cap:Nat) (A:Str) (hl:A.length≤2 ^ 30) (hx:∀ j v,(A.map byV)[j]? = some v→∃ a,base=some a∧h.cell? (a.add j)=some v) (hnil:base=none→A.length=0) (hk:∀ s' h',Owns h h' 5 1 s' A.length (A.map byV)→K s' h'):X Tryz.prog 37 #[.slice base A.length cap] h K:=by
 cases base with
 | none =>
  have h0:=hnil rfl
  have hA:A=[]:=List.eq_nil_of_length_eq_zero h0
  subst hA
  refine fnv (args:=_) mixed [] [] [] Tryz.func37 rfl (by kernel_rfl) (cw_ ?_)
  exact hk _ h (Owns.nil (Hp.le_refl _))
 | some a =>
  refine fnv (args:=_) mixed [] [] [] Tryz.func37 rfl (by kernel_rfl) (cw_ ?_)
  refine new_intro (o:=rowO 5 []) (fun z0 h1 n_z0 le_z0 at_z0 ot_z0=>cw_ ?_)
  have hO0:Owns h h1 5 1 (.slice (some ⟨z0,0,none⟩) 0 0) 0 []:=⟨some z0,⟨rfl,.inr ⟨z0,0,[],rfl,rfl,Nat.le_refl _,rfl,at_z0⟩⟩,le_z0,fun c e=>by cases e;exact n_z0⟩
  refine Owns.appN (z:=.int .u8 0) (news:=A.map byV) (bytes:=1) (by kernel_rfl) (show Tryz.prog.info? 5 = some Tryz.prog.types[5] by kernel_rfl) (by kernel_rfl) (by kernel_rfl) (by kernel_rfl) rfl (by decide) rfl rfl rfl hO0 (by rw [List.length_map];exact (Nat.mul_one _).symm) (fun j v hj=>(hx j v hj).imp fun a ha=>⟨ha.1,cell_le le_z0 ha.2⟩) (fun e=>by cases e) (by simp [byV,Value.oneCell']) (by omega) fun s3 h3 hO3=>?_
  rw [Nat.zero_add,List.nil_append] at hO3
  conv=>whnf
  exact hk _ _ hO3
theorem gr_src {s:Value} {A:Str} {ob:Option Nat} (g:Gr h 5 1 s A.length (A.map byV) ob):∃ base cap,s=.slice base A.length cap∧(∀ j v,(A.map byV)[j]? = some v→∃ a,base=some a∧h.cell? (a.add j)=some v)∧(base=none→A.length=0):=by
 obtain ⟨_,⟨_,rfl,h0⟩ | ⟨b,cap,rest,_,rfl,_,_,hb⟩⟩:=g
 ·refine ⟨none,0,by rw [h0],fun j v hj=>?_,fun _=>h0⟩
  rw [List.eq_nil_of_length_eq_zero h0] at hj
  simp at hj
 ·refine ⟨_,cap,rfl,fun j v hj=>⟨_,rfl,?_⟩,fun e=>by cases e⟩
  rw [addr_add,Nat.zero_add]
  exact cell_row hb (by rw [List.getElem?_append_left (List.getElem?_eq_some_iff.1 hj).1];exact hj)
theorem aggPo:isAggT Tryz.prog 110 = some true:=by kernel_rfl
theorem sizPo:sizeT Tryz.prog 110 = some 11:=by kernel_rfl
theorem aggBy:isAggT Tryz.prog 74 = some false:=by kernel_rfl
theorem sizBy:sizeT Tryz.prog 74 = some 1:=by kernel_rfl
theorem uartClone_x {p:Nat} {u:Ua} {bi bo:Str} {ib ob:Option Nat} (o:PoO h p u bi bo ib ob) (hi:bi.length≤2 ^ 30) (ho:bo.length≤2 ^ 30) (hk:∀ p' h' ib' ob',h.le h'→h p'=none→(∀ x,ib'=some x→h x=none)→(∀ x,ob'=some x→h x=none)→PoO h' p' u bi bo ib' ob'→K (.pointer (some ⟨p',0,none⟩)) h'):X Tryz.prog 44 #[.pointer (some ⟨p,0,none⟩)] h K:=by
 obtain ⟨si,so,hp,gi,go⟩:=o.go
 obtain ⟨b1,c1,rfl,s1,z1⟩:=gr_src gi
 obtain ⟨b2,c2,rfl,s2,z2⟩:=gr_src go
 refine fnv (args:=_) mixed [] [] [17] Tryz.func44 rfl (by kernel_rfl) (cw_ ?_)
 refine ⟨_,loadA0 aggPo sizPo hp rfl,cw_ ?_⟩
 refine new_intro (o:=_) (fun c h1 n_c le_c at_c ot_c=>cw_ ?_)
 refine wr_intro (by exact storeA0 (z:=.agg (u.cs (.slice b1 bi.length c1) (.slice b2 bo.length c2)).toArray) sizPo at_c rfl rfl rfl) (fun h2 at_h2 ot_h2=>cw_ ?_)
 have le2:h.le h2:=Hp.le_st n_c le_c ot_h2
 refine ⟨fun z=>h.le z,le2,cw_ ?_⟩
 refine ⟨_,loadC (i:=9) aggBy (le2 _ _ hp) rfl,cw_ ?_⟩
 refine cloneB_x b1 c1 bi hi (fun j v hj=>(s1 j v hj).imp fun a ha=>⟨ha.1,cell_le le2 ha.2⟩) z1 fun s3 h3 hO3=>?_
 refine ⟨Hp.le_trans le2 hO3.le,cw_ ?_⟩
 refine ⟨_,fun _ e=>loadC (i:=10) aggBy (e _ _ hp) rfl,cw_ ?_⟩
 have le3:=Hp.le_trans le2 hO3.le
 refine cloneB_x b2 c2 bo ho (fun j v hj=>(s2 j v hj).imp fun a ha=>⟨ha.1,cell_le le3 ha.2⟩) z2 fun s4 h4 hO4=>?_
 have le4:=Hp.le_trans le3 hO4.le
 refine ⟨le4,?_⟩
 obtain ⟨sa3,sc3,rfl⟩:=hO3.shape
 obtain ⟨sa4,sc4,rfl⟩:=hO4.shape
 have c4:=hO4.le _ _ (hO3.le _ _ at_h2)
 conv=>whnf
 refine wr_intro (by exact storeC (i:=9) sizBy c4 (show (9:Nat)<11 by decide) rfl rfl) (fun h5 at_h5 ot_h5=>cw_ ?_)
 have le5:h.le h5:=fun d o hd=>by rw [ot_h5 d (Hp.ne n_c hd)];exact le4 _ _ hd
 refine ⟨le5,cw_ ?_⟩
 refine wr_intro (by exact storeC (i:=10) sizBy at_h5 (show (10:Nat)<11 by decide) rfl rfl) (fun h6 at_h6 ot_h6=>cw_ ?_)
 have le6:h.le h6:=fun d o hd=>by rw [ot_h6 d (Hp.ne n_c hd)];exact le5 _ _ hd
 refine ⟨le6,cw_ ?_⟩
 have l4':=hO3.le
 obtain ⟨ib',g3,_,n3⟩:=hO3
 obtain ⟨ob',g4,l4,n4⟩:=hO4
 refine hk c h6 ib' ob' le6 n_c (fun x e=>Hp.none_le le2 (n3 x e)) (fun x e=>Hp.none_le le3 (n4 x e)) ⟨_,_,at_h6,(g3.le l4).agree fun x e=>?_,g4.agree fun x e=>?_⟩
 ·have hx:x≠c:=Ne.symm (Hp.ne (n3 x e) at_h2)
  rw [ot_h6 x hx,ot_h5 x hx]
 ·have hx:x≠c:=Ne.symm (Hp.ne (n4 x e) (l4' _ _ at_h2))
  rw [ot_h6 x hx,ot_h5 x hx]
theorem BuO.le {h h':Hp} {b p:Nat} {n:Int} {k:Ck} {q:Pl} {u:Ua} {bi bo:Str} {ib ob:Option Nat} (o:BuO h b p n k q u bi bo ib ob) (hle:h.le h'):BuO h' b p n k q u bi bo ib ob:=⟨hle _ _ o.row,o.port.le hle,o.k,o.q,o.bi,o.bo⟩
theorem aggPt:isAggT Tryz.prog 88 = some false:=by kernel_rfl
theorem busClone_x {b p:Nat} {n:Int} {k:Ck} {q:Pl} {u:Ua} {bi bo:Str} {ib ob:Option Nat} (o:BuO h b p n k q u bi bo ib ob) (hk:∀ b' p' h' ib' ob',h.le h'→h b'=none→h p'=none→(∀ x,ib'=some x→h x=none)→(∀ x,ob'=some x→h x=none)→BuO h' b' p' n k q u bi bo ib' ob'→K (.pointer (some ⟨b',0,none⟩)) h'):X Tryz.prog 38 #[.pointer (some ⟨b,0,none⟩)] h K:=by
 have hb:=o.row
 refine fnv (args:=_) mixed [] [] [13,17,21] Tryz.func38 rfl (by kernel_rfl) (cw_ ?_)
 refine ⟨fun z=>h.le z,(fun _ _ i l=>Hp.le_trans i l),Hp.le_refl _,cw_ ?_⟩
 refine ⟨_,loadC0 aggPt hb rfl,cw_ ?_⟩
 refine uartClone_x o.port o.bi o.bo fun p' h1 ib' ob' le1 n1 n2 n3 o1=>?_
 refine ⟨le1,cw_ ?_⟩
 refine ⟨_,fun _ e=>loadC (i:=1) aggIn (e _ _ hb) rfl,cw_ ?_⟩
 refine ⟨_,fun _ e=>loadPA (k:=2) (by simp [addr_add]) aggCkc sizCkc (e _ _ hb) (x:=k.cs) (by simp [busC,← o.k.len]) o.k.len,cw_ ?_⟩
 refine ⟨_,fun _ e=>loadPA (k:=20) (by simp [addr_add]) aggPlc sizPlc (e _ _ hb) (x:=q.cs) (by
  show ((k.cs++q.cs).drop 18).take 68=_
  rw [List.drop_left' o.k.len,← o.q.len,List.take_length]) o.q.len,?_⟩
 conv=>whnf
 refine big_by (v:=.agg (busC p' n k q).toArray) (build_of [.pointer (some ⟨p',0,none⟩),.int .i64 n,.agg k.cs.toArray,.agg q.cs.toArray] busL (by simp [Value.cells,o.k.len,o.q.len]) (by simp [busC,Value.cells])) (cw_ ?_)
 refine new_intro (o:=_) (fun b' h2 n_b' le_b' at_b' ot_b'=>cw_ ?_)
 exact hk b' p' h2 ib' ob' (Hp.le_trans le1 le_b') (Hp.none_le le1 n_b') n1 n2 n3 ⟨at_b',o1.le le_b',o.k,o.q,o.bi,o.bo⟩
theorem rvC_len {r:List (Bool×Nat)} (h:r.length=8):(rvC r).length=16:=by
 match r,h with
 | [_,_,_,_,_,_,_,_],_=>rfl
theorem aggRv:isAggT Tryz.prog 81 = some true:=by kernel_rfl
theorem sizRv:sizeT Tryz.prog 81 = some 16:=by kernel_rfl
theorem aggBuP:isAggT Tryz.prog 71 = some false:=by kernel_rfl
theorem wor_rv {c:Cn} {ram:Value} {r:List (Bool×Nat)} {b:Nat} {m:Ml} (h:(rvC r).length=16):((worC c ram r b m).drop 5).take 16=rvC r:=by
 have e:worC c ram r b m=(c.cs++[ram])++(rvC r++([.pointer (some ⟨b,0,none⟩)]++m.cs)):=by simp [worC]
 rw [e,List.drop_left' (by simp [Cn.cs]),List.take_left' h]
theorem wor_bus {c:Cn} {ram:Value} {r:List (Bool×Nat)} {b:Nat} {m:Ml} (h:(rvC r).length=16):(worC c ram r b m)[21]? = some (.pointer (some ⟨b,0,none⟩)):=by
 have e:worC c ram r b m=(c.cs++[ram]++rvC r)++(.pointer (some ⟨b,0,none⟩) :: m.cs):=by simp [worC]
 rw [e,List.getElem?_append_right (by simp [Cn.cs,h])]
 simp [Cn.cs,h]
theorem wor_mail {c:Cn} {ram:Value} {r:List (Bool×Nat)} {b:Nat} {m:Ml} (h:(rvC r).length=16) (h2:m.cs.length=321):((worC c ram r b m).drop 22).take 321=m.cs:=by
 have e:worC c ram r b m=(c.cs++[ram]++rvC r++[.pointer (some ⟨b,0,none⟩)])++m.cs:=by simp [worC]
 rw [e,List.drop_left' (by simp [Cn.cs,h]),← h2,List.take_length]
theorem flatClone_x {k:Hp} {w:Nat} {W:Wd} (o:WoN k h w W) (hl:W.ram.length≤2 ^ 30) (hk:∀ w' h',WoN h h' w' W→K (.pointer (some ⟨w',0,none⟩)) h'):X Tryz.prog 28 #[.pointer (some ⟨w,0,none⟩)] h K:=by
 obtain ⟨lek,nw,ok,rb,b,p,cap,rest,ib,ob,hw,hrb,hcap,hbu,hkn,hib,hob⟩:=o
 have hrl:=rvC_len ok.r
 have hml:=ok.m.len
 refine fnv (args:=_) mixed [] [] [8,17,21,26] Tryz.func28 rfl (by kernel_rfl) (cw_ ?_)
 refine ⟨fun z=>h.le z,(fun _ _ i l=>Hp.le_trans i l),Hp.le_refl _,cw_ ?_⟩
 refine ⟨_,fun _ e=>loadPA (k:=0) (by simp [addr_add]) aggCn sizCn (e _ _ hw) (x:=W.c.cs) rfl rfl,cw_ ?_⟩
 refine ⟨_,loadC (i:=4) aggBy hw rfl,cw_ ?_⟩
 refine cloneB_x (some ⟨rb,0,none⟩) cap W.ram hl (fun j v hj=>⟨_,rfl,?_⟩) (fun e=>by cases e) fun s1 h1 hO1=>?_
 ·rw [addr_add,Nat.zero_add]
  exact cell_row hrb (by rw [List.getElem?_append_left (List.getElem?_eq_some_iff.1 hj).1];exact hj)
 refine ⟨hO1.le,cw_ ?_⟩
 refine ⟨_,fun _ e=>loadPA (k:=5) (by simp [addr_add]) aggRv sizRv (e _ _ hw) (x:=rvC W.r) (wor_rv hrl) hrl,cw_ ?_⟩
 refine ⟨_,fun _ e=>loadC (i:=21) aggBuP (e _ _ hw) (wor_bus hrl),cw_ ?_⟩
 refine busClone_x (hbu.le hO1.le) fun b' p' h2 ib' ob' le2 n1 n2 n3 n4 o2=>?_
 have hc:=ok.c
 have hl1:1≤W.c.lines:=by
  have:((((1:Int)≤W.c.harts∧W.c.harts≤8)∧1≤W.c.stripes∧W.c.stripes≤64)∧1≤W.c.lines∧W.c.lines≤4096)∧1≤W.c.tlb∧W.c.tlb≤32:=by simpa [wrightB] using hc
  omega
 have hlp:0<W.ram.length:=by have:=ok.ram;omega
 have l1:=hO1.le
 have l2:=Hp.le_trans l1 le2
 obtain ⟨ob1,⟨_,⟨_,_,h0⟩ | ⟨rb1,cap1,rest1,rfl,rfl,hc1,hr1,hb1⟩⟩,_,nn1⟩:=hO1
 ·omega
 refine ⟨l2,cw_ ?_⟩
 refine ⟨_,fun _ e=>loadPA (k:=22) (by simp [addr_add]) aggMlb sizMlb (e _ _ hw) (x:=W.m.cs) (wor_mail hrl hml) hml,cw_ ?_⟩
 refine big_by (v:=.agg (worC W.c (.slice (some ⟨rb1,0,none⟩) W.ram.length cap1) W.r b' W.m).toArray) (build_of [.agg W.c.cs.toArray,.slice (some ⟨rb1,0,none⟩) W.ram.length cap1,.agg (rvC W.r).toArray,.pointer (some ⟨b',0,none⟩),.agg W.m.cs.toArray] worL (by simp [Value.cells,hrl,hml,Cn.cs]) (by simp [worC,Value.cells])) (cw_ ?_)
 refine new_intro (o:=_) (fun w' h3 n_w' le_w' at_w' ot_w'=>cw_ ?_)
 have kb1:=nn1 rb1 rfl
 have hb2:=le2 _ _ hb1
 exact hk w' h3 ⟨Hp.le_trans l2 le_w',Hp.none_le l2 n_w',ok,rb1,b',p',cap1,rest1,ib',ob',at_w',le_w' _ _ hb2,by omega,o2.le le_w',⟨kb1,Hp.none_le l1 n1,Hp.none_le l1 n2⟩,fun x e=>⟨(fun e2=>by subst e2;rw [n3 _ e] at hb1;cases hb1),Hp.none_le l1 (n3 x e)⟩,fun x e=>⟨(fun e2=>by subst e2;rw [n4 _ e] at hb1;cases hb1),Hp.none_le l1 (n4 x e)⟩⟩
end
end Go.Proofs.YtnjlneefddlaoaaGreat
