/-
  A hart: a copy, and what is drained.
-/
import Derived.Test.YtdhlpighdlnohaaGreatRcD
import Derived.Test.YtdhlpighdlnohaaGreatEvD
import Derived.Test.YtdhlpighdlnohaaGreatRcCu
set_option linter.unusedSimpArgs false
set_option linter.unusedVariables false
set_option maxHeartbeats 8000000
set_option maxRecDepth 10000
set_option linter.unusedSimpArgs false
set_option linter.unusedVariables false
namespace Go.Proofs.YtdhlpighdlnohaaGreat
open Go Go.Mid Go.RowKit Go.Bits
attribute [local irreducible] mid
structure De where
 kind:Int
 x:Ins
 v:Nat
 lines:Nat
 ret:Bool
def De.cs (d:De):List Value:=[.int .i64 d.kind]++(d.x.cs++[ux d.v,ux d.lines,.bool d.ret])
structure De.ok (d:De):Prop where
 v:d.v<2 ^ 64
 lines:d.lines<2 ^ 64
def Csf.deed (f:Csf) (d:De):Csf:=if d.kind=0 then f.set d.x.csr d.v else if d.kind=1 then f.doF d.x.op d.x.csr d.x.rs1 d.v else f.turn d.ret
def Csf.deeds (f:Csf) (l:List De):Csf:=l.foldl Csf.deed f
theorem doF_ok2 {f:Csf} (ok:f.ok) (op n rs1:Int) {v:Nat} (hv:v<2 ^ 64):(f.doF op n rs1 v).ok:=by
 unfold Csf.doF
 split
 ·exact ok.set n (doV_lt ok op n hv)
 ·exact ok
theorem deed_ok {f:Csf} (ok:f.ok) {d:De} (hd:d.ok):(f.deed d).ok:=by
 unfold Csf.deed
 split
 ·exact ok.set _ hd.v
 split
 ·exact doF_ok2 ok _ _ _ hd.v
 ·exact turn_ok ok _
theorem deeds_ok {l:List De}:∀ {f:Csf},f.ok→(∀ d ∈ l,d.ok)→(f.deeds l).ok:=by
 induction l with
 | nil=>exact fun o _=>o
 | cons d l ih=>exact fun o h=>ih (deed_ok o (h d (List.mem_cons_self ..))) fun x hx=>h x (List.mem_cons_of_mem _ hx)
section
set_option maxHeartbeats 16000000
variable {h:Hp} {K:Value→Hp→Prop}
abbrev deT:TypeId := 187
theorem aggDe:isAggT Tryz.prog deT=some true:=by kernel_rfl
theorem sizDe:sizeT Tryz.prog deT=some 12:=by kernel_rfl
theorem aggInx:isAggT Tryz.prog 128 = some true:=by kernel_rfl
theorem sizInx:sizeT Tryz.prog 128 = some 8:=by kernel_rfl
theorem aggOpx:isAggT Tryz.prog 76 = some false:=by kernel_rfl
theorem csf_one' (f:Csf):f.cs.all Value.oneCell'=true:=by
 rw [List.all_eq_true]
 intro v hv
 unfold Csf.cs at hv
 rcases List.mem_append.1 hv with h | h
 ·rw [List.mem_singleton.1 h];rfl
 ·rcases List.mem_append.1 h with h | h
  ·obtain ⟨n,_,rfl⟩:=List.mem_map.1 h;rfl
  ·rcases List.mem_cons.1 h with h | h
   ·rw [h];rfl
   ·rw [List.mem_singleton.1 h];rfl
theorem ldo_x {b o:Nat} {el:TypeId} {A B:List Value} {f:Csf} (p:Pa h b o el A f.cs B) (ok:f.ok) (d:De) (hd:d.ok) (hk:∀ h' n,Pa h' b o el A (f.deed d).cs B→(∀ c x,c≠b→h c=some x→h' c=some x)→K (.tuple #[.agg (f.deed d).rcs.toArray,uv n,uv n]) h'):X Tryz.prog 79 #[.pointer (some ⟨b,o,none⟩),.agg f.rcs.toArray,.agg d.cs.toArray] h K:=by
 have hk':∀ g,f.deed d=g→∀ h' n,Pa h' b o el A g.cs B→(∀ c x,c≠b→h c=some x→h' c=some x)→K (.tuple #[.agg g.rcs.toArray,uv n,uv n]) h':=fun g e=>e ▸ hk
 clear hk
 unfold Csf.deed at hk'
 have hnb:∀ z,h z=none→z≠b:=fun z hz e=>by rw [e,p.row] at hz;cases hz
 refine fnv (args:=_) mixed [] [] [49] Tryz.func79 rfl (by kernel_rfl) (cw_ ?_)
 refine new_intro (o:=rowO rfT f.rcs) (fun z h1 n_z le_z at_z ot_z=>cw_ ?_)
 refine new_intro (o:=rowO deT d.cs) (fun w h2 n_w le_w at_w ot_w=>cw_ ?_)
 refine new_intro (o:=_) (fun y h3 n_y le_y at_y ot_y=>cw_ ?_)
 have z3:h3 z=some (rowO rfT f.rcs):=le_y _ _ (le_w _ _ at_z)
 have w3:h3 w=some (rowO deT d.cs):=le_y _ _ at_w
 have hle:h.le h3:=Hp.le_trans le_z (Hp.le_trans le_w le_y)
 have p3:=p.le hle
 have zb:=hnb z n_z
 have wb:=hnb w (Hp.none_le le_z n_w)
 have yb:=hnb y (Hp.none_le (Hp.le_trans le_z le_w) n_y)
 have yh:h y=none:=Hp.none_le (Hp.le_trans le_z le_w) n_y
 have yz:y≠z:=fun e=>by rw [e,le_w _ _ at_z] at n_y;cases n_y
 have yw:y≠w:=fun e=>by rw [e,at_w] at n_y;cases n_y
 refine ⟨_,loadC0 aggIn w3 rfl,cw_ ?_⟩
 by_cases k0:d.kind=0
 ·refine bt_ ?_ (by rw [k0];rfl)
  have hk:=hk' _ (if_pos k0)
  refine ⟨_,loadCA (k:=6) (by simp [addr_add]) aggIn w3 rfl,cw_ ?_⟩
  refine ⟨_,loadCA (k:=9) (by simp [addr_add]) aggU6 w3 rfl,cw_ ?_⟩
  refine fset_x p3 ok d.x.csr d.v hd.v fun h4 p4 o4=>(cw_ ?_)
  refine ⟨_,rf_ld ((o4 z zb).trans z3),cw_ ?_⟩
  refine ⟨_,loadCA (k:=6) (by simp [addr_add]) aggIn ((o4 w wb).trans w3) rfl,cw_ ?_⟩
  refine ⟨_,loadCA (k:=9) (by simp [addr_add]) aggU6 ((o4 w wb).trans w3) rfl,cw_ ?_⟩
  refine rcset_x f ok d.x.csr d.v hd.v (cw_ ?_)
  refine wr_intro (by exact rf_st ((o4 y yb).trans at_y) rfl _) (fun h5 at_h5 ot_h5=>cw_ ?_)
  refine ⟨_,rf_ld at_h5,cw_ ?_⟩
  exact hk h5 0 (p4.of (ot_h5 b (Ne.symm yb))) fun c x hc e=>by
   rw [ot_h5 c (fun e2=>by rw [e2,yh] at e;cases e),o4 c hc]
   exact hle c x e
 have k0':=k0
 refine bf_ ?_ (by simpa using k0')
 by_cases k1:d.kind=1
 ·refine bt_ ?_ (by rw [k1];rfl)
  have hk:=hk' _ ((if_neg k0).trans (if_pos k1))
  refine ⟨_,rf_ld z3,cw_ ?_⟩
  refine ⟨_,loadCA (k:=1) (by simp [addr_add]) aggOpx w3 rfl,cw_ ?_⟩
  refine ⟨_,loadCA (k:=6) (by simp [addr_add]) aggIn w3 rfl,cw_ ?_⟩
  refine ⟨_,loadCA (k:=3) (by simp [addr_add]) aggIn w3 rfl,cw_ ?_⟩
  refine ⟨_,loadCA (k:=9) (by simp [addr_add]) aggU6 w3 rfl,cw_ ?_⟩
  refine ⟨_,loadCA (k:=10) (by simp [addr_add]) aggU6 w3 rfl,cw_ ?_⟩
  refine rcdo_x f ok d.x.op d.x.csr d.x.rs1 d.v d.lines hd.v hd.lines (cw_ ?_)
  refine new_intro (o:=_) (fun u h4 n_u le_u at_u ot_u=>cw_ ?_)
  have ub:=hnb u (Hp.none_le hle n_u)
  have uy:u≠y:=fun e=>by rw [e,at_y] at n_u;cases n_u
  have uz:u≠z:=fun e=>by rw [e,z3] at n_u;cases n_u
  have uw:u≠w:=fun e=>by rw [e,w3] at n_u;cases n_u
  have uh:h u=none:=Hp.none_le hle n_u
  refine wr_intro (by exact rf_st at_u rfl _) (fun h5 at_h5 ot_h5=>cw_ ?_)
  have w5:=(ot_h5 w (Ne.symm uw)).trans (le_u _ _ w3)
  have y5:=(ot_h5 y (Ne.symm uy)).trans (le_u _ _ at_y)
  have p5:=p.of (h':=h5) (by rw [ot_h5 b (Ne.symm ub),le_u _ _ p3.row,p.row])
  refine ⟨fun q=>q u=some (rowO rfT (f.doF d.x.op d.x.csr d.x.rs1 d.v).rcs),at_h5,cw_ ?_⟩
  refine ⟨_,fun q e=>rf_ld e,cw_ ?_⟩
  refine ⟨_,loadPA (k:=1) (by simp [addr_add]) aggInx sizInx w5 (show (d.cs.drop 1).take 8=d.x.cs from rfl) rfl,cw_ ?_⟩
  refine ⟨_,loadCA (k:=9) (by simp [addr_add]) aggU6 w5 rfl,cw_ ?_⟩
  refine ⟨_,loadCA (k:=10) (by simp [addr_add]) aggU6 w5 rfl,cw_ ?_⟩
  refine fdo_x p5 ok d.x d.v d.lines hd.v hd.lines fun h6 p6 o6=>?_
  have u6:=(o6 u ub).trans at_h5
  refine ⟨u6,cw_ ?_⟩
  refine wr_intro (by exact rf_st ((o6 y yb).trans y5) rfl _) (fun h7 at_h7 ot_h7=>cw_ ?_)
  have u7:=(ot_h7 u uy).trans u6
  refine ⟨u7,cw_ ?_⟩
  refine ⟨_,rf_ld at_h7,cw_ ?_⟩
  exact hk h7 _ (p6.of (ot_h7 b (Ne.symm yb))) fun c x hc e=>by
   have cy:c≠y:=fun e2=>by rw [e2,yh] at e;cases e
   have cu:c≠u:=fun e2=>by rw [e2,uh] at e;cases e
   rw [ot_h7 c cy,o6 c hc,ot_h5 c cu]
   exact le_u _ _ (hle c x e)
 have k1':=k1
 refine bf_ ?_ (by simpa using k1')
 have hk:=hk' _ ((if_neg k0).trans (if_neg k1))
 refine ⟨_,loadCA (k:=11) (by simp [addr_add]) aggB6 w3 rfl,cw_ ?_⟩
 refine fturn_x p3 ok d.ret fun h4 p4 o4=>(cw_ ?_)
 refine ⟨_,rf_ld ((o4 z zb).trans z3),cw_ ?_⟩
 refine ⟨_,loadCA (k:=11) (by simp [addr_add]) aggB6 ((o4 w wb).trans w3) rfl,cw_ ?_⟩
 refine rcturn_x f ok d.ret (cw_ ?_)
 refine wr_intro (by exact rf_st ((o4 y yb).trans at_y) rfl _) (fun h5 at_h5 ot_h5=>cw_ ?_)
 refine ⟨_,rf_ld at_h5,cw_ ?_⟩
 exact hk h5 0 (p4.of (ot_h5 b (Ne.symm yb))) fun c x hc e=>by
  rw [ot_h5 c (fun e2=>by rw [e2,yh] at e;cases e),o4 c hc]
  exact hle c x e
theorem lfiles_x {s:Value} {l:List De} (rs:Rd Tryz.prog deT 12 h s (l.map fun d=>.agg d.cs.toArray)) (hl:∀ d ∈ l,d.ok) (hn:l.length≤2 ^ 40) (hk:K (.tuple #[.agg ((Csf.new 1).deeds l).cs.toArray,.agg ((Csf.new 1).deeds l).rcs.toArray]) h):X Tryz.prog 37 #[s] h K:=by
 refine X.forget ?_
 have rs0:=rs
 obtain ⟨base,cap,rfl,rg⟩:=rs0
 rw [List.length_map] at *
 refine fnv (args:=_) mixed [] [] [30] Tryz.func37 rfl (by kernel_rfl) (cw_ ?_)
 refine new_intro (o:=_) (fun y0 h1 n_y0 le_y0 at_y0 ot_y0=>cw_ ?_)
 refine new_intro (o:=_) (fun y1 h2 n_y1 le_y1 at_y1 ot_y1=>cw_ ?_)
 refine fnew_x 1 (cw_ ?_)
 refine new_intro (o:=_) (fun fb h3 n_fb le_fb at_fb ot_fb=>cw_ ?_)
 refine wr_intro (by exact storeA0 (z:=.agg (Csf.new 1).cs.toArray) sizFil at_fb rfl rfl rfl) (fun h4 at_h4 ot_h4=>cw_ ?_)
 refine rcnew_x 1 (cw_ ?_)
 refine new_intro (o:=_) (fun xb h5 n_xb le_xb at_xb ot_xb=>cw_ ?_)
 refine wr_intro (by exact rf_st at_xb rfl (Csf.new 1)) (fun h6 at_h6 ot_h6=>cw_ ?_)
 have y0h:h y0=none:=n_y0
 have y1h:h y1=none:=Hp.none_le le_y0 n_y1
 have le2:h.le h2:=Hp.le_trans le_y0 le_y1
 have fbh:h fb=none:=Hp.none_le le2 n_fb
 have fb1:fb≠y1:=fun e=>by rw [e,at_y1] at n_fb;cases n_fb
 have fb0:fb≠y0:=fun e=>by rw [e,le_y1 _ _ at_y0] at n_fb;cases n_fb
 have le4:h.le h4:=Hp.le_st fbh (Hp.le_trans le2 le_fb) ot_h4
 have y04:=(ot_h4 y0 (Ne.symm fb0)).trans (le_fb _ _ (le_y1 _ _ at_y0))
 have y14:=(ot_h4 y1 (Ne.symm fb1)).trans (le_fb _ _ at_y1)
 have xbh:h xb=none:=Hp.none_le le4 n_xb
 have xb0:xb≠y0:=fun e=>by rw [e,y04] at n_xb;cases n_xb
 have xb1:xb≠y1:=fun e=>by rw [e,y14] at n_xb;cases n_xb
 have xbf:xb≠fb:=fun e=>by rw [e,at_h4] at n_xb;cases n_xb
 have y01:y0≠y1:=fun e=>by rw [← e,at_y0] at n_y1;cases n_y1
 conv=>whnf
 refine loop_at [6] [] (fun q vs _ h'=>∃ j:Nat,j≤l.length∧q=l.length - j∧vs=[.v (.int .i64 j)]∧h' fb=some (rowO filT (((Csf.new 1).deeds (l.take j)).cs))∧h' xb=some (rowO rfT (((Csf.new 1).deeds (l.take j)).rcs))∧h' y0=h6 y0∧h' y1=h6 y1∧h.le h') l.length ⟨0,Nat.zero_le _,rfl,rfl,(ot_h6 fb (Ne.symm xbf)).trans (le_xb _ _ at_h4),at_h6,rfl,rfl,Hp.le_st xbh (Hp.le_trans le4 le_xb) ot_h6⟩ ?_
 rintro q vs cs mm bx g ⟨j,hj,rfl,rfl,gf,gx,g0,g1,gle⟩
 have gok:=deeds_ok (f:=Csf.new 1) (new_ok 1) (l:=l.take j) fun d hd=>hl d (List.mem_of_mem_take hd)
 have glen:=cs_len gok.len
 have gsuc:∀ hj:j<l.length,(Csf.new 1).deeds (l.take (j+1))=((Csf.new 1).deeds (l.take j)).deed l[j]:=fun hj=>by unfold Csf.deeds;rw [List.take_succ_eq_append_getElem hj,List.foldl_append];rfl
 have gall:j=l.length→(Csf.new 1).deeds (l.take j)=(Csf.new 1).deeds l:=fun e=>by rw [e,List.take_length]
 generalize (Csf.new 1).deeds (l.take j)=f at gf gx gok glen gsuc gall
 conv=>whnf
 refine br_ (fun q1=>?_) fun q1=>?_
 ·have hj2:j<l.length:=by omega
  have gs:=gsuc hj2
  obtain ⟨ad,had,hla⟩:=rg j (.agg (l[j]).cs.toArray) (by rw [List.getElem?_map,List.getElem?_eq_getElem hj2];rfl)
  have hla2:=loadH_le gle hla
  have dok:=hl l[j] (List.getElem_mem hj2)
  generalize l[j]=d at hla hla2 gs dok
  rw [had]
  conv=>whnf
  refine ⟨_,rf_ld gx,cw_ ?_⟩
  refine n_ ?_
  refine ⟨_,hla2,cw_ ?_⟩
  refine ldo_x (b:=fb) (o:=0) (el:=filT) (A:=[]) (B:=[]) (f:=f) ⟨by simpa using gf,rfl⟩ gok d dok fun g2 n p2 k2=>?_
  have p2:g2 fb=some (rowO filT (f.deed d).cs):=by have:=p2.row;simpa using this
  have x2:g2 xb=some (rowO rfT f.rcs):=k2 xb _ xbf gx
  have le2:h.le g2:=fun c x e=>k2 c x (fun e2=>by rw [e2,fbh] at e;cases e) (gle c x e)
  have e0:g2 y0=h6 y0:=by
   have:=(ot_h6 y0 (Ne.symm xb0)).trans (le_xb _ _ y04)
   rw [this]
   exact k2 y0 _ (Ne.symm fb0) (by rw [g0,this])
  have e1:g2 y1=h6 y1:=by
   have:=(ot_h6 y1 (Ne.symm xb1)).trans (le_xb _ _ y14)
   rw [this]
   exact k2 y1 _ (Ne.symm fb1) (by rw [g1,this])
  refine ⟨trivial,cw_ ?_⟩
  refine new_intro (o:=_) (fun u g3 n_u le_u at_u ot_u=>cw_ ?_)
  refine wr_intro (by exact rf_st at_u rfl _) (fun g4 at_g4 ot_g4=>cw_ ?_)
  refine ⟨trivial,cw_ ?_⟩
  refine ⟨_,rf_ld at_g4,cw_ ?_⟩
  have uh:h u=none:=Hp.none_le le2 n_u
  have ux_:u≠xb:=fun e=>by rw [e,x2] at n_u;cases n_u
  have uf:u≠fb:=fun e=>by rw [e,p2] at n_u;cases n_u
  have h60:=(ot_h6 y0 (Ne.symm xb0)).trans (le_xb _ _ y04)
  have h61:=(ot_h6 y1 (Ne.symm xb1)).trans (le_xb _ _ y14)
  have u0:u≠y0:=fun e=>by rw [e,e0,h60] at n_u;cases n_u
  have u1:u≠y1:=fun e=>by rw [e,e1,h61] at n_u;cases n_u
  have x4:=(ot_g4 xb (Ne.symm ux_)).trans (le_u _ _ x2)
  refine wr_intro (by exact rf_st x4 (rcs_len _) _) (fun g5 at_g5 ot_g5=>cw_ ?_)
  refine n_ ?_
  refine ⟨l.length - (j+1),by omega,j+1,by omega,rfl,rfl,?_,?_,?_,?_,?_⟩
  ·rw [gs,ot_g5 fb (Ne.symm xbf),ot_g4 fb (Ne.symm uf)]
   exact le_u _ _ p2
  ·rw [gs]
   exact at_g5
  ·rw [ot_g5 y0 (Ne.symm xb0),ot_g4 y0 (Ne.symm u0),h60]
   exact le_u _ _ (e0.trans h60)
  ·rw [ot_g5 y1 (Ne.symm xb1),ot_g4 y1 (Ne.symm u1),h61]
   exact le_u _ _ (e1.trans h61)
  ·exact Hp.le_st xbh (Hp.le_st uh (Hp.le_trans le2 le_u) ot_g4) ot_g5
 ·have hj2:j=l.length:=by omega
  rw [← gall hj2] at hk
  have h60:=(ot_h6 y0 (Ne.symm xb0)).trans (le_xb _ _ y04)
  have h61:=(ot_h6 y1 (Ne.symm xb1)).trans (le_xb _ _ y14)
  conv=>whnf
  refine ⟨fun q=>q xb=some (rowO rfT f.rcs),gx,cw_ ?_⟩
  refine ⟨_,loadA0 aggFil sizFil gf glen,cw_ ?_⟩
  refine ⟨_,fun q e=>rf_ld e,cw_ ?_⟩
  refine wr_intro (by exact storeA0 (z:=.agg f.cs.toArray) sizFil (g0.trans h60) rfl glen (csf_one' f)) (fun g2 at_g2 ot_g2=>cw_ ?_)
  have x2:=(ot_g2 xb xb0).trans gx
  refine ⟨x2,cw_ ?_⟩
  refine wr_intro (by exact rf_st ((ot_g2 y1 (Ne.symm y01)).trans (g1.trans h61)) rfl f) (fun g3 at_g3 ot_g3=>cw_ ?_)
  have x3:=(ot_g3 xb xb1).trans x2
  refine ⟨x3,cw_ ?_⟩
  refine ⟨_,loadA0 aggFil sizFil ((ot_g3 y0 y01).trans at_g2) glen,cw_ ?_⟩
  refine ⟨_,rf_ld at_g3,cw_ ?_⟩
  exact ⟨h,Hp.le_st y1h (Hp.le_st y0h gle ot_g2) ot_g3,hk⟩
end
end Go.Proofs.YtdhlpighdlnohaaGreat
namespace Go.Proofs.YtdhlpighdlnohaaGreat
open Go Go.Mid Go.RowKit Go.Bits
attribute [local irreducible] mid
structure Fr where
 deeds:List De
 pc:Nat
 priv:Int
 r:List Nat
 live:Bool
 parked:Bool
 L:List En
def Fr.cs (x:Fr) (d e:Value):List Value:=[d,ux x.pc,.int .i64 x.priv]++(wcs x.r++[.bool x.live,.bool x.parked,e])
structure Fr.ok (x:Fr):Prop where
 deeds:∀ d ∈ x.deeds,d.ok
 pc:x.pc<2 ^ 64
 r:x.r.length=32
 rw:∀ n ∈ x.r,n<2 ^ 64
 L:∀ e ∈ x.L,e.page<2 ^ 64∧e.pte<2 ^ 64
def Fr.few (x:Fr):Bool:=decide (x.deeds.length≤20) && decide (x.L.length≤40)
def Fr.sta (x:Fr):Sta:=⟨x.pc,x.priv,x.r,(Csf.new 1).deeds x.deeds,x.live,x.parked,x.L⟩
theorem Fr.ok.sta {x:Fr} (o:x.ok) (hf:x.few=true):x.sta.ok:=by
 unfold Fr.few at hf
 simp only [Bool.and_eq_true,decide_eq_true_eq] at hf
 exact ⟨o.pc,o.r,o.rw,deeds_ok (new_ok 1) o.deeds,o.L,by show x.L.length≤2 ^ 20;omega⟩
theorem Fr.ok.clen {x:Fr} (o:x.ok) (d e:Value):(x.cs d e).length=38:=by simp [Fr.cs,o.r]
section
variable {x:Fr} {d e:Value}
theorem fr_c (o:x.ok) (i:Nat):(x.cs d e)[35+i]? = [.bool x.live,.bool x.parked,e][i]? := by
 have h1:(wcs x.r).length=32:=by rw [List.length_map];exact o.r
 unfold Fr.cs
 rw [List.getElem?_append_right (by show 3≤35+i;omega),show 35+i - [d,ux x.pc,.int .i64 x.priv].length=32+i by show 35+i - 3=32+i;omega,List.getElem?_append_right (by rw [h1];omega),h1,Nat.add_sub_cancel_left]
theorem fr_r (o:x.ok):((x.cs d e).drop 3).take 32=wcs x.r:=by
 have h1:(wcs x.r).length=32:=by rw [List.length_map];exact o.r
 show (wcs x.r++_).take 32=_
 rw [← h1,List.take_left]
end
section
set_option maxHeartbeats 16000000
variable {k h:Hp} {K:Value→Hp→Prop} {b:Nat} {H:Hd}
abbrev frT:TypeId := 29
theorem aggFr:isAggT Tryz.prog frT=some true:=by kernel_rfl
theorem sizFr:sizeT Tryz.prog frT=some 38:=by kernel_rfl
theorem aggDs:isAggT Tryz.prog 24 = some false:=by kernel_rfl
theorem lfew_x (x:Fr) (o:x.ok) {a1 a2:Option Addr} {c1 c2:Nat} (hk:K (.bool x.few) h):X Tryz.prog 8 #[.agg (x.cs (.slice a1 x.deeds.length c1) (.slice a2 x.L.length c2)).toArray] h K:=by
 refine X.forget ?_
 unfold Fr.few at hk
 refine fnv (args:=_) mixed [] [] [] Tryz.func8 rfl (by kernel_rfl) (cw_ ?_)
 refine new_intro (o:=rowO frT (x.cs (.slice a1 x.deeds.length c1) (.slice a2 x.L.length c2))) (fun z h1 n_z le_z at_z ot_z=>cw_ ?_)
 refine ⟨_,loadC0 aggDs at_z rfl,cw_ ?_⟩
 by_cases q1:x.deeds.length≤20
 ·rw [decide_eq_true q1] at hk
  refine bt_ ?_
  refine ⟨_,loadC (i:=37) aggEs at_z (fr_c o 2),cw_ ?_⟩
  exact ⟨h,le_z,kq hk (bI (by rw [Bool.eq_iff_iff];simp;omega))⟩
 ·rw [decide_eq_false q1] at hk
  refine bf_ ?_
  exact ⟨h,le_z,hk⟩
theorem lput_x (n:HaN k h b H) (hr:H.t.at_=0) (x:Fr) (o:x.ok) (hf:x.few=true) (d e:Value) (rd:Rd Tryz.prog deT 12 h d (x.deeds.map fun d=>.agg d.cs.toArray)) (re:Rd Tryz.prog 78 4 k e (x.L.map fun e=>.agg e.cs.toArray)) (hk0:putB H.c.tlb x.sta=false→∀ h',HaN k h' b H→K (.int .i64 1) h') (hk1:putB H.c.tlb x.sta=true→∀ h',HaN k h' b (H.put x.sta)→K (.int .i64 0) h'):X Tryz.prog 10 #[.pointer (some ⟨b,0,none⟩),.agg (x.cs d e).toArray] h K:=by
 have hd20:x.deeds.length≤2 ^ 40:=by
  unfold Fr.few at hf
  simp only [Bool.and_eq_true,decide_eq_true_eq] at hf
  omega
 have os:=o.sta hf
 have ofl:=cs_len os.f.len
 have hr32:(wcs x.r).length=32:=by rw [List.length_map];exact o.r
 obtain ⟨ea,ec,rfl⟩:∃ a c,e=.slice a x.L.length c:=by
  obtain ⟨a,c,e1,_⟩:=re
  exact ⟨a,c,by rw [e1,List.length_map]⟩
 refine fnv (args:=_) mixed [] [] [] Tryz.func10 rfl (by kernel_rfl) (cw_ ?_)
 refine new_intro (o:=rowO frT (x.cs d (.slice ea x.L.length ec))) (fun z h1 n_z le_z at_z ot_z=>cw_ ?_)
 refine ⟨_,loadC0 aggDs at_z rfl,cw_ ?_⟩
 refine lfiles_x (rd.le le_z) o.deeds hd20 (cw_ ?_)
 refine new_intro (o:=_) (fun u h2 n_u le_u at_u ot_u=>cw_ ?_)
 refine new_intro (o:=_) (fun w h3 n_w le_w at_w ot_w=>cw_ ?_)
 refine wr_intro (by exact storeA0 (z:=.agg x.sta.f.cs.toArray) sizFil (le_w _ _ at_u) rfl ofl (csf_one' _)) (fun h4 at_h4 ot_h4=>cw_ ?_)
 have uw:u≠w:=fun e=>by rw [← e,at_u] at n_w;cases n_w
 have w4:=(ot_h4 w (Ne.symm uw)).trans at_w
 refine wr_intro (by exact rf_st w4 rfl x.sta.f) (fun h5 at_h5 ot_h5=>cw_ ?_)
 have u5:=(ot_h5 u uw).trans at_h4
 have uh:h u=none:=Hp.none_le le_z n_u
 have wh:h w=none:=Hp.none_le (Hp.le_trans le_z le_u) n_w
 have zu:z≠u:=fun e=>by rw [← e,at_z] at n_u;cases n_u
 have zw:z≠w:=fun e=>by rw [← e,le_u _ _ at_z] at n_w;cases n_w
 have z5:=(ot_h5 z zw).trans ((ot_h4 z zu).trans (le_w _ _ (le_u _ _ at_z)))
 have le5:h.le h5:=Hp.le_st wh (Hp.le_st uh (Hp.le_trans le_z (Hp.le_trans le_u le_w)) ot_h4) ot_h5
 refine ⟨_,loadC (i:=1) aggU z5 rfl,cw_ ?_⟩
 refine ⟨_,loadC (i:=2) aggIn z5 rfl,cw_ ?_⟩
 refine ⟨_,loadPA (k:=3) (by simp [addr_add]) aggR32 sizR32 z5 (fr_r o) hr32,cw_ ?_⟩
 refine ⟨_,loadA0 aggFil sizFil u5 ofl,cw_ ?_⟩
 refine ⟨_,loadC (i:=35) aggB6 z5 (fr_c o 0),cw_ ?_⟩
 refine ⟨_,loadC (i:=36) aggB6 z5 (fr_c o 1),cw_ ?_⟩
 refine ⟨_,loadC (i:=37) aggEs z5 (fr_c o 2),cw_ ?_⟩
 refine big_by (v:=.agg (x.sta.cs (.slice ea x.L.length ec)).toArray) (build_of [ux x.pc,.int .i64 x.priv,.agg (wcs x.r).toArray,.agg x.sta.f.cs.toArray,.bool x.live,.bool x.parked,.slice ea x.L.length ec] staL (by simp [Value.cells,o.r,ofl]) (by simp [Value.cells,Sta.cs,Fr.sta])) (cw_ ?_)
 refine hput_x (n.up le5) hr x.sta os _ re (fun e h' n'=>?_) fun e h' n'=>?_
 ·exact hk0 e h' n'
 ·exact hk1 e h' n'
end
end Go.Proofs.YtdhlpighdlnohaaGreat
namespace Go.Proofs.YtdhlpighdlnohaaGreat
open Go Go.Mid Go.RowKit Go.Bits
attribute [local irreducible] mid
def lvC:Cn:=⟨1,1,1,1⟩
def lv0:Hd:=Hd.new 0 lvC
def lv1:Hd:=(lv0.tell tbT fitsN decH .zero).1
def lv2:Hd:=(lv1.tell tbT fitsN decH .zero).1
def lv3:Hd:=(lv2.tell tbT fitsN decH { An.zero with data:=1049235 }).1
theorem lv_asks:lv0.ask={ Ak.zero with kind:=12 }∧lv1.ask={ Ak.zero with kind:=11 }∧lv2.ask={ Ak.zero with kind:=1,addr:=2147483648,size:=4 }:=by
 refine ⟨?_,?_,?_⟩ <;> kernel_rfl
theorem lv_end:lv3.t.at_=0∧lv3.r[5]? = some 1∧lv3.pc=2147483652∧lv3.retired=1:=by
 refine ⟨?_,?_,?_,?_⟩ <;> kernel_rfl
theorem lv_j:lv0.J∧lv1.J∧lv2.J:=by
 have j0:lv0.J:=⟨by show (0:Int)≤0∧(0:Int)≤9;decide,fun e=>absurd (show (0:Int)=4 from e) (by decide),by show ([]:List Ak).length≤1000;decide⟩
 exact ⟨j0,j0.tell _ _,(j0.tell _ _).tell _ _⟩
theorem HaN.agree {k h k' h':Hp} {b:Nat} {H:Hd} (n:HaN k h b H) (le:k'.le h') (hk:∀ c x,h c=some x→k c=none→h' c=some x∧k' c=none):HaN k' h' b H:=by
 obtain ⟨c,s,g,ob,r,hg,ht,hs,ap,gb,ho⟩:=n.go
 have hb:=hk b _ r n.nb
 have hgk:∀ d x,g d=some x→h' d=some x∧k' d=none:=fun d x e=>hk d x (hg d x e) (by
  cases e2:k d with
  | none=>rfl
  | some y=>rw [ap d y e2] at e;cases e)
 refine ⟨le,hb.2,n.inv,c,s,g,ob,hb.1,fun d x e=>(hgk d x e).1,ht,?_,fun d x e=>?_,gb,fun x e=>?_⟩
 ·obtain ⟨g1,⟨e,g2⟩ | ⟨y,cap,rest,e,g2,g3,g4,g5⟩⟩:=hs
  ·exact ⟨g1,.inl ⟨e,g2⟩⟩
  ·exact ⟨g1,.inr ⟨y,cap,rest,e,g2,g3,g4,(hk y _ g5 (ho y e).1).1⟩⟩
 ·cases e2:g d with
  | none=>rfl
  | some y=>rw [(hgk d y e2).2] at e;cases e
 ·obtain ⟨o1,o2,o3⟩:=ho x e
  refine ⟨?_,o2,o3⟩
  obtain ⟨g1,⟨e3,g2⟩ | ⟨y,cap,rest,e3,g2,g3,g4,g5⟩⟩:=hs
  ·rw [e3] at e;cases e
  ·rw [e3] at e;cases e;exact (hk _ _ g5 o1).2
theorem HaN.new {k h h':Hp} {b z:Nat} {H:Hd} {x:Obj} (n:HaN k h b H) (hz:h z=none) (hle:h.le h') (hat:h' z=some x):HaN (k.set z x) h' b H :=
 n.agree (Hp.set_le (Hp.le_trans n.le hle) hat) fun c y e e2=>⟨hle c y e,by rw [Hp.set_other k x (fun e3=>by rw [e3,hz] at e;cases e),e2]⟩
theorem HaN.wr {k h h':Hp} {b z:Nat} {H:Hd} {x y:Obj} (n:HaN k h b H) (hz:k z=some x) (hat:h' z=some y) (hot:∀ c,c≠z→h' c=h c):HaN (k.set z y) h' b H :=
 n.agree (fun c o e=>by
  by_cases e2:c=z
  ·subst e2;rw [Hp.set_same] at e;cases e;exact hat
  ·rw [Hp.set_other _ _ e2] at e;rw [hot c e2];exact n.le c o e) fun c o e e2=>by
  have e3:c≠z:=fun e3=>by rw [e3,hz] at e2;cases e2
  exact ⟨(hot c e3).trans e,by rw [Hp.set_other _ _ e3,e2]⟩
theorem HaN.newSt {k h h1 h2:Hp} {b z:Nat} {H:Hd} {x:Obj} (n:HaN k h b H) (hz:h z=none) (hle:h.le h1) (hat:h2 z=some x) (hot:∀ c,c≠z→h2 c=h1 c):HaN (k.set z x) h2 b H :=
 n.new hz (Hp.le_st hz hle hot) hat
section
set_option maxHeartbeats 16000000
variable {k h:Hp} {K:Value→Hp→Prop} {b:Nat} {H:Hd}
theorem anz_ok (d:Nat) (hd:d<18446744073709551616):({ An.zero with data:=d }:An).ok:=⟨hd,fun q hq=>by
 have:q=Rq.zero:=by simpa [An.ms] using hq
 subst this
 exact ⟨by decide,by decide,by decide⟩⟩
theorem live33_x (hk:K (.bool true) h):X Tryz.prog 9 #[] h K:=by
 refine X.forget ?_
 have la:=lv_asks
 have le:=lv_end
 have lj:=lv_j
 have q0:(lv0.tell tbT fitsN decH .zero).1=lv1:=rfl
 have q1:(lv1.tell tbT fitsN decH .zero).1=lv2:=rfl
 have q2:(lv2.tell tbT fitsN decH { An.zero with data:=1049235 }).1=lv3:=rfl
 have nw:Hd.new 0 lvC=lv0:=rfl
 generalize lv1=H1 at *
 generalize lv2=H2 at *
 generalize lv3=H3 at *
 refine fnv (args:=_) mixed [] [] [] Tryz.func9 rfl (by kernel_rfl) (cw_ ?_)
 refine hnew_x 0 lvC (fun e=>absurd ⟨rfl,by decide,by decide⟩ e) fun _ _ b h1 le1 n1=>?_
 rw [nw] at n1
 generalize lv0=H0 at *
 conv=>whnf
 obtain ⟨la0,la1,la2⟩:=la
 obtain ⟨lj0,lj1,lj2⟩:=lj
 have n0:=n1
 refine hask_x n0 lj0 ?_
 rw [la0]
 conv=>whnf
 refine new_intro (o:=_) (fun y0 g0 n_y0 le_y0 at_y0 ot_y0=>cw_ ?_)
 refine wr_intro (by exact storeA0 (z:=.agg (Ak.cs { Ak.zero with kind:=12 }).toArray) sizAk at_y0 rfl (ak_len _) (ak_one _)) (fun u0 at_u0 ot_u0=>cw_ ?_)
 have m0:=n0.newSt n_y0 le_y0 at_u0 ot_u0
 refine big_by (v:=.agg (An.cs .zero).toArray) (by kernel_rfl) (cw_ ?_)
 refine htell_x decH_x m0 lj0 .zero (anz_ok _ (by decide)) fun h0 s0 k0 ob0 kk0 gr0 n1=>?_
 rw [q0] at n1
 conv=>whnf
 refine hask_x n1 lj1 ?_
 rw [la1]
 conv=>whnf
 refine new_intro (o:=_) (fun y1 g1 n_y1 le_y1 at_y1 ot_y1=>cw_ ?_)
 refine wr_intro (by exact storeA0 (z:=.agg (Ak.cs { Ak.zero with kind:=11 }).toArray) sizAk at_y1 rfl (ak_len _) (ak_one _)) (fun u1 at_u1 ot_u1=>cw_ ?_)
 have m1:=n1.newSt n_y1 le_y1 at_u1 ot_u1
 refine big_by (v:=.agg (An.cs .zero).toArray) (by kernel_rfl) (cw_ ?_)
 refine htell_x decH_x m1 lj1 .zero (anz_ok _ (by decide)) fun h1 s1 k1 ob1 kk1 gr1 n2=>?_
 rw [q1] at n2
 conv=>whnf
 refine hask_x n2 lj2 ?_
 rw [la2]
 conv=>whnf
 refine new_intro (o:=_) (fun y2 g2 n_y2 le_y2 at_y2 ot_y2=>cw_ ?_)
 refine wr_intro (by exact storeA0 (z:=.agg (Ak.cs { Ak.zero with kind:=1,addr:=2147483648,size:=4 }).toArray) sizAk at_y2 rfl (ak_len _) (ak_one _)) (fun u2 at_u2 ot_u2=>cw_ ?_)
 have m2:=n2.newSt n_y2 le_y2 at_u2 ot_u2
 refine big_by (v:=.agg (An.cs { An.zero with data:=1049235 }).toArray) (by kernel_rfl) (cw_ ?_)
 refine htell_x decH_x m2 lj2 { An.zero with data:=1049235 } (anz_ok _ (by decide)) fun h2 s2 k2 ob2 kk2 gr2 n3=>?_
 rw [q2] at n3
 conv=>whnf
 have e0:=Hp.le_trans (Hp.le_set' (Hp.none_le n0.le n_y0)) kk0
 have e1:=Hp.le_trans (Hp.le_set' (Hp.none_le n1.le n_y1)) kk1
 have e2:=Hp.le_trans (Hp.le_set' (Hp.none_le n2.le n_y2)) kk2
 have r2:=n3.le _ _ (kk2 _ _ (Hp.set_same _ _ _))
 have r1:=n3.le _ _ (e2 _ _ (kk1 _ _ (Hp.set_same _ _ _)))
 have r0:=n3.le _ _ (e2 _ _ (e1 _ _ (kk0 _ _ (Hp.set_same _ _ _))))
 have hle3:h.le h2:=Hp.le_trans (Hp.le_trans e0 (Hp.le_trans e1 e2)) n3.le
 refine hstate2_x n3 fun s4 h4 n4 le4 o4=>(cw_ ?_)
 have oo:=n3.inv.ok
 have ss:s4.oneCell'=true:=(Owns.val o4).2
 have sl:(H3.sta.cs s4).length=62:=by simp [Sta.cs,Hd.sta,oo.r,cs_len oo.f.len]
 have c7:(H3.sta.cs s4)[7]? = some (ux 1):=by
  show (wcs H3.r++_)[5]? = _
  rw [List.getElem?_append_left (by rw [List.length_map,oo.r];decide),List.getElem?_map,le.2.1]
  rfl
 have c0:(H3.sta.cs s4)[0]? = some (ux 2147483652):=by rw [← le.2.2.1];rfl
 refine new_intro (o:=_) (fun z5 h5 n_z5 le_z5 at_z5 ot_z5=>cw_ ?_)
 refine wr_intro (by exact storeA0 (z:=.agg (H3.sta.cs s4).toArray) sizSta at_z5 rfl sl (sta_one _ ss)) (fun h6 at_h6 ot_h6=>cw_ ?_)
 have n6:=n4.newSt n_z5 le_z5 at_h6 ot_h6
 have z5h:h z5=none:=Hp.none_le (Hp.le_trans hle3 le4) n_z5
 have le6:h.le h6:=Hp.le_st z5h (Hp.le_trans (Hp.le_trans hle3 le4) le_z5) ot_h6
 have r26:=(ot_h6 _ (fun e=>by rw [e] at r2;rw [le4 _ _ r2] at n_z5;cases n_z5)).trans (le_z5 _ _ (le4 _ _ r2))
 have r16:=(ot_h6 _ (fun e=>by rw [e] at r1;rw [le4 _ _ r1] at n_z5;cases n_z5)).trans (le_z5 _ _ (le4 _ _ r1))
 have r06:=(ot_h6 _ (fun e=>by rw [e] at r0;rw [le4 _ _ r0] at n_z5;cases n_z5)).trans (le_z5 _ _ (le4 _ _ r0))
 refine ⟨_,loadC0 aggKd r06 rfl,cw_ ?_⟩
 refine ⟨_,loadC0 aggKd r16 rfl,cw_ ?_⟩
 refine ⟨_,loadA0 aggAk sizAk r26 (ak_len _),cw_ ?_⟩
 refine big_by (v:=.agg (Ak.cs { Ak.zero with kind:=1,addr:=2147483648,size:=4 }).toArray) (by kernel_rfl) (cw_ ?_)
 refine must_via (b:=true) (by kernel_rfl) (by kernel_rfl) (cw_ ?_)
 refine hrests_x n6 ?_
 rw [decide_eq_true le.1]
 conv=>whnf
 refine ⟨_,loadCA (k:=7) (by simp [addr_add];try kernel_rfl) aggU6 at_h6 c7,cw_ ?_⟩
 refine ⟨_,loadC0 aggU6 at_h6 c0,cw_ ?_⟩
 refine hretired_x n6 ?_
 rw [le.2.2.2]
 conv=>whnf
 exact ⟨h,le6,hk⟩
end
end Go.Proofs.YtdhlpighdlnohaaGreat
namespace Go.Proofs.YtdhlpighdlnohaaGreat
open Go Go.Mid Go.RowKit Go.Bits
attribute [local irreducible] mid
def hdV (H:Hd) (c:Nat) (s:Value):Value:=.agg (H.cs c s).toArray
theorem hdV_cells (H:Hd) (c:Nat) (s:Value):(hdV H c s).cells.toList=H.cs c s:=rfl
theorem hdV_is (H:Hd) (c:Nat) (s:Value):hdV H c s=.agg (H.cs c s).toArray:=rfl
attribute [irreducible] hdV
theorem cs_all (H:Hd) (c:Nat) {s:Value} (hs:s.oneCell'=true):(H.cs c s).all Value.oneCell'=true:=by
 have hw:∀ r:List Nat,(wcs r).all Value.oneCell'=true:=fun r=>by
  rw [List.all_eq_true];intro v hv;obtain ⟨n,_,rfl⟩:=List.mem_map.1 hv;rfl
 unfold Hd.cs Hd.a Hd.z
 simp only [List.all_append,hw,csf_one,Bool.and_eq_true]
 refine ⟨⟨rfl,rfl,trivial,trivial⟩,rfl,rfl,?_⟩
 show (s.oneCell' && true)=true
 rw [hs];rfl
section
set_option maxHeartbeats 16000000
variable {k h:Hp} {K:Value→Hp→Prop} {b:Nat} {H:Hd}
theorem aggHar:isAggT Tryz.prog harT=some true:=by kernel_rfl
theorem cs_len133 (o:H.a.length=62) (c:Nat) (s:Value):(H.cs c s).length=133:=by
 unfold Hd.cs
 rw [List.length_append,o]
 rfl
theorem hd_ld {c:Nat} {s:Value} (r:HaR h b H c s) (o:H.a.length=62):loadH Tryz.prog harT h ⟨b,0,none⟩=some (hdV H c s):=by
 rw [hdV_is]
 exact loadA0 aggHar sizHar r (cs_len133 o c s)
theorem hclone_x (n:HaN k h b H) (hk:∀ b2 h',h.le h'→HaN h h' b2 { H with told:=[] }→K (.pointer (some ⟨b2,0,none⟩)) h'):X Tryz.prog 31 #[.pointer (some ⟨b,0,none⟩)] h K:=by
 obtain ⟨c,s,g,ob,r,hg,ht,hs,ap,gb,ho⟩:=n.go
 have i:=n.inv
 have o:=i.ok
 have hv:s.cells.toList=[s]∧s.oneCell'=true:=by obtain ⟨sa,sc,rfl⟩:=hs.shape;exact ⟨rfl,rfl⟩
 have hl:=cs_len133 o.len c s
 refine fnv (args:=_) mixed [] [] [] Tryz.func31 rfl (by kernel_rfl) (cw_ ?_)
 refine ⟨_,hd_ld r o.len,cw_ ?_⟩
 refine new_intro (o:=_) (fun y h1 n_y le_y at_y ot_y=>cw_ ?_)
 refine wr_intro (by exact storeA0 (z:=hdV H c s) sizHar at_y rfl (by rw [hdV_cells];exact hl) (by rw [hdV_cells];exact cs_all H c hv.2)) (fun h2 at_h2 ot_h2=>cw_ ?_)
 rw [hdV_cells] at at_h2
 have yb:y≠b:=fun e=>by rw [e,(show h b=some _ from r)] at n_y;cases n_y
 have r2:HaR h2 b H c s:=(ot_h2 b (Ne.symm yb)).trans (le_y _ _ r)
 have le2:h.le h2:=Hp.le_st n_y le_y ot_h2
 refine ⟨_,(r2.z o.len).ld 2 aggTp rfl,cw_ ?_⟩
 refine Tb.cloneT_x i.T h2 _ (ht.le (Hp.le_trans hg le2)) fun c' h3 le3 ht3=>(cw_ ?_)
 have r3:HaR h3 y H c s:=le3 _ _ at_h2
 refine wr_intro (by exact (r3.z o.len).st 2 sizTp (by show 2<71;decide) rfl rfl) (fun h4 at_h4 ot_h4=>cw_ ?_)
 have r4:HaR h4 y H c' s:=HaR.ofZ (H:=H) rfl ⟨at_h4,o.len⟩
 refine wr_intro (by exact (r4.z o.len).st 70 sizSa (by show 70<71;decide) rfl rfl) (fun h5 at_h5 ot_h5=>cw_ ?_)
 have r5:HaR h5 y { H with told:=[] } c' (.slice none 0 0):=HaR.ofZ (H:=H) (H':={ H with told:=[] }) rfl ⟨at_h5,o.len⟩
 have le5:h.le h5:=Hp.le_st n_y (Hp.le_st n_y (Hp.le_trans le2 le3) ot_h4) ot_h5
 have ny:news h2 h3 y=none:=news_apart h2 h3 y _ at_h2
 refine hk y h5 le5 ⟨le5,n_y,{ i with ok:=⟨o.r,o.rw,o.f,o.pc⟩ },c',.slice none 0 0,news h2 h3,none,r5,fun d x e=>?_,ht3,Gr.nil,(news_apart h2 h3).le le2,ny,fun x e=>by cases e⟩
 have dy:d≠y:=fun e2=>by rw [e2,ny] at e;cases e
 rw [ot_h5 d dy,ot_h4 d dy]
 exact news_le h2 h3 d x e
theorem hdrained_x (n:HaN k h b H) (m0 m1 m2 m3 m4 m5 m6 m7:Rq) (hq:∀ q ∈ [m0,m1,m2,m3,m4,m5,m6,m7],q.ok) (hl:H.told.length≤1000) (hk:∀ h' s k' ob,k.le k'→Gr k' akT 19 s (H.drain tbT [m0,m1,m2,m3,m4,m5,m6,m7]).told.length ((H.drain tbT [m0,m1,m2,m3,m4,m5,m6,m7]).told.flatMap Ak.cs) ob→HaN k' h' b { (H.drain tbT [m0,m1,m2,m3,m4,m5,m6,m7]) with told:=[] }→K s h'):X Tryz.prog 30 #[.pointer (some ⟨b,0,none⟩),.agg (([m0,m1,m2,m3,m4,m5,m6,m7]:List Rq).flatMap Rq.cs).toArray] h K:=by
 refine fnv (args:=_) mixed [] [] [] Tryz.func30 rfl (by kernel_rfl) (cw_ ?_)
 refine new_intro (o:=rowO 61 (([m0,m1,m2,m3,m4,m5,m6,m7]:List Rq).flatMap Rq.cs)) (fun z h1 n_z le_z at_z ot_z=>cw_ ?_)
 refine ⟨_,loadA0 aggRq8 sizRq8 at_z rfl,cw_ ?_⟩
 refine hdrain_x (n.up le_z) m0 m1 m2 m3 m4 m5 m6 m7 hq hl fun h2 n2=>(cw_ ?_)
 refine hflushed_x n2 fun h3 s k' ob hkk gr n3=>?_
 exact hk h3 s k' ob hkk gr n3
abbrev HaG (g:Hp) (b:Nat) (H:Hd):Prop:=HaN Hp.emp g b H
theorem HaN.cut {k h:Hp} {b:Nat} {H:Hd} (n:HaN k h b H):∃ g,g.le h∧HaG g b H∧Apart k g:=by
 refine ⟨fun c=>match k c with
  | none=>h c
  | some _=>none,fun c x e=>?_,n.agree (Hp.emp_le _) fun c x e e2=>⟨?_,rfl⟩,fun c x e=>?_⟩
 ·dsimp only at e
  cases q:k c with
  | none=>rw [q] at e;exact e
  | some y=>rw [q] at e;cases e
 ·show (match k c with | none=>h c | some _=>none)=some x
  rw [e2];exact e
 ·show (match k c with | none=>h c | some _=>none)=none
  rw [e]
theorem HaG.on {g h:Hp} {b:Nat} {H:Hd} (n:HaG g b H) (hg:g.le h):HaN Hp.emp h b H:=n.up hg
theorem gtell_x {g:Hp} (hg:g.le h) (n:HaG g b H) (j:H.J) (a:An) (ha:a.ok) (hk:∀ h' s g' k' g2 ob,Turned h g h' g'→k'.le g'→g2.le g'→Apart k' g2→Gr k' akT 19 s (H.tell tbT fitsN decH a).2.length ((H.tell tbT fitsN decH a).2.flatMap Ak.cs) ob→HaG g2 b (H.tell tbT fitsN decH a).1→K s h'):X Tryz.prog 15 #[.pointer (some ⟨b,0,none⟩),.agg a.cs.toArray] h K:=by
 refine X.frame hg (htell_x (h:=g) (K:=fun s g'=>∃ k' g2 ob,k'.le g'∧g2.le g'∧Apart k' g2∧Gr k' akT 19 s (H.tell tbT fitsN decH a).2.length ((H.tell tbT fitsN decH a).2.flatMap Ak.cs) ob∧HaG g2 b (H.tell tbT fitsN decH a).1) decH_x n j a ha fun g' s k' ob _ gr n'=>?_) fun s g' h' hp u=>?_
 ·obtain ⟨g2,l2,n2,a2⟩:=n'.cut
  exact ⟨k',g2,ob,n'.le,l2,a2,gr,n2⟩
 ·obtain ⟨k',g2,ob,p1,p2,p3,p4,p5⟩:=hp
  exact hk h' s g' k' g2 ob u p1 p2 p3 p4 p5
theorem gdrained_x {g:Hp} (hg:g.le h) (n:HaG g b H) (m0 m1 m2 m3 m4 m5 m6 m7:Rq) (hq:∀ q ∈ [m0,m1,m2,m3,m4,m5,m6,m7],q.ok) (hl:H.told.length≤1000) (hk:∀ h' s g' k' g2 ob,Turned h g h' g'→k'.le g'→g2.le g'→Apart k' g2→Gr k' akT 19 s (H.drain tbT [m0,m1,m2,m3,m4,m5,m6,m7]).told.length ((H.drain tbT [m0,m1,m2,m3,m4,m5,m6,m7]).told.flatMap Ak.cs) ob→HaG g2 b { (H.drain tbT [m0,m1,m2,m3,m4,m5,m6,m7]) with told:=[] }→K s h'):X Tryz.prog 30 #[.pointer (some ⟨b,0,none⟩),.agg (([m0,m1,m2,m3,m4,m5,m6,m7]:List Rq).flatMap Rq.cs).toArray] h K:=by
 refine X.frame hg (hdrained_x (h:=g) (K:=fun s g'=>∃ k' g2 ob,k'.le g'∧g2.le g'∧Apart k' g2∧Gr k' akT 19 s (H.drain tbT [m0,m1,m2,m3,m4,m5,m6,m7]).told.length ((H.drain tbT [m0,m1,m2,m3,m4,m5,m6,m7]).told.flatMap Ak.cs) ob∧HaG g2 b { (H.drain tbT [m0,m1,m2,m3,m4,m5,m6,m7]) with told:=[] }) n m0 m1 m2 m3 m4 m5 m6 m7 hq hl fun g' s k' ob _ gr n'=>?_) fun s g' h' hp u=>?_
 ·obtain ⟨g2,l2,n2,a2⟩:=n'.cut
  exact ⟨k',g2,ob,n'.le,l2,a2,gr,n2⟩
 ·obtain ⟨k',g2,ob,p1,p2,p3,p4,p5⟩:=hp
  exact hk h' s g' k' g2 ob u p1 p2 p3 p4 p5
end
end Go.Proofs.YtdhlpighdlnohaaGreat
