/-
  Images: pages mapped on both sides; ImageTables.
-/
import Derived.Test.YtdhkjcdneidgaaaGreatDoorImZ
set_option linter.unusedSimpArgs false
set_option linter.unusedVariables false
set_option maxHeartbeats 8000000
set_option maxRecDepth 10000
set_option linter.unusedSimpArgs false
set_option linter.unusedVariables false
namespace Go.Proofs.YtdhkjcdneidgaaaGreatDoor
open Go Go.Mid Go.RowKit Go.Bits
attribute [local irreducible] mid
section
theorem sizPl:sizeT Tryz.prog 23=some 1:=by kernel_rfl
theorem aggPsl:isAggT Tryz.prog 23=some false:=by kernel_rfl
theorem aggIm:isAggT Tryz.prog 27=some true:=by kernel_rfl
theorem aggEi:isAggT Tryz.prog 28=some false:=by kernel_rfl
variable {h:Hp} {K:Value→Hp→Prop} {E:List PanicEntry→Hp→Prop}
theorem ibuild_x (hmx:Mx h) (her:Er h) (hpw:Pow h) (s:Str) (hs:s.length≤2 ^ 13)
  (hn:∀ n e h',buildP s=.error (n,e)→h.le h'→K (.tuple #[.agg #[.slice none 0 0,.slice none 0 0,ux 0],.int .i64 n,.int .i64 e]) h')
  (hy:∀ o l q sP sL (P:List Pp) h',buildP s=.ok (o,l,q)→h.le h'→Rd Tryz.prog ppT 2 h' sP (P.map Pp.v)→(∀ p ∈ P,PpB h' p)→P.map Pp.key=o→P.length≤256→Rd Tryz.prog ilT 2 h' sL (l.map fun x=>.agg (lbC x).toArray)→K (.tuple #[.agg #[sP,sL,ux q],.int .i64 0,.int .i64 0]) h'):XE Tryz.prog 6 #[sv s] h K E:=by
 refine fnd (args:=_) mixed [] [] [15,18] [(4,[0,2,3,4,5,8,1,6,7,9]),(999998,[3,4,8])] Tryz.func6 rfl (by kernel_rfl) (cw_ ?_)
 refine new_intro (o:=rowO 27 im0) (fun ba h1 n_ba le_ba at_ba ot_ba=>cw_ ?_)
 refine new_intro (o:=rowO 3 [.int .i64 0]) (fun bb h2 n_bb le_bb at_bb ot_bb=>cw_ ?_)
 refine new_intro (o:=rowO 28 [.int .i64 0]) (fun bc h3 n_bc le_bc at_bc ot_bc=>cw_ ?_)
 refine new_intro (o:=.map #[] 0) (fun bm h4 n_bm le_bm at_bm ot_bm=>cw_ ?_)
 refine new_intro (o:=rowO blT (blC bd0 0 bm 0 (.slice none 0 0) (.slice none 0 0))) (fun br h5 n_br le_br at_br ot_br=>cw_ ?_)
 refine new_intro (o:=rowO 65 [.pointer none]) (fun bp h6 n_bp le_bp at_bp ot_bp=>cw_ ?_)
 refine wr_intro (by exact storeC0 (show sizeT Tryz.prog 65=some 1 by kernel_rfl) at_bp (show (0:Nat)<1 by decide) rfl rfl) (fun h7 at_h7 ot_h7=>cw_ ?_)
 refine ⟨rfl,?_⟩
 have n4:∀ c o,h c=some o→c≠ba∧c≠bb∧c≠bc:=fun c o hc=>⟨Hp.ne n_ba hc,Hp.ne n_bb (le_ba _ _ hc),Hp.ne n_bc (le_bb _ _ (le_ba _ _ hc))⟩
 have n3bp:h3 bp=none:=Hp.none_le le_bm (Hp.none_le le_br n_bp)
 have dbr:br≠bp:=Hp.ne n_bp at_br
 have dbm:bm≠bp:=Hp.ne n_bp (le_br _ _ at_bm)
 have dmr:bm≠br:=Hp.ne n_br at_bm
 obtain ⟨k,hkd⟩:∃ k:Hp,k=h3.set bp (rowO 65 [.pointer (some ⟨br,0,none⟩)]):=⟨_,rfl⟩
 have l3k:h3.le k:=by rw [hkd];exact Hp.le_set n3bp
 have lhk:h.le k:=Hp.le_trans (Hp.le_trans le_ba (Hp.le_trans le_bb le_bc)) l3k
 have kp:k bp=some (rowO 65 [.pointer (some ⟨br,0,none⟩)]):=by rw [hkd,Hp.set_same]
 have ka:k ba=some (rowO 27 im0):=l3k _ _ (le_bc _ _ (le_bb _ _ at_ba))
 have kb:k bb=some (rowO 3 [.int .i64 0]):=l3k _ _ (le_bc _ _ at_bb)
 have kc:k bc=some (rowO 28 [.int .i64 0]):=l3k _ _ at_bc
 have kbr:k br=none:=by rw [hkd,Hp.set_other _ _ dbr];exact Hp.none_le le_bm n_br
 have kbm:k bm=none:=by rw [hkd,Hp.set_other _ _ dbm];exact n_bm
 have hab:ba≠bb:=rowNe ka kb (by decide)
 have hac:ba≠bc:=rowNe ka kc (by decide)
 have hbc:bb≠bc:=rowNe kb kc (by decide)
 have lk7:k.le h7:=by
  rw [hkd]
  intro c o hc
  by_cases e:c=bp
  ·subst e;rw [Hp.set_same] at hc;cases hc;exact at_h7
  ·rw [Hp.set_other _ _ e] at hc
   rw [ot_h7 c e]
   exact le_bp _ _ (le_br _ _ (le_bm _ _ hc))
 have w7:Bob k h7 br bm 0 0 bd0 bd0.lbs 0 (.slice none 0 0) (.slice none 0 0) none none :=
  ⟨lk7,(ot_h7 br dbr).trans (le_bp _ _ at_br),kbr,Gr.nil,Gr.nil,fun c e=>(by cases e),fun c e=>(by cases e),⟨_,0,(ot_h7 bm dbm).trans (le_bp _ _ (le_br _ _ at_bm)),MapB.nil⟩,kbm,fun t ht=>(by cases ht)⟩
 have hle:∀ hz hz':Hp,k.le hz→(∀ d,d≠ba→d≠bb→d≠bc→hz' d=hz d)→h.le hz':=fun hz hz' hl ho c o hc=>by
  obtain ⟨m1,m2,m3⟩:=n4 c o hc
  rw [ho c m1 m2 m3]
  exact hl _ _ (lhk _ _ hc)
 clear l3k n3bp at_h7 ot_h7 at_bp le_bp n_bp at_br le_br n_br at_bm le_bm n_bm at_bc le_bc n_bc at_bb le_bb n_bb at_ba le_ba n_ba ot_ba ot_bb ot_bc ot_br ot_bp ot_bm hkd
 have hbd:buildP s=match readP bd0 0 (linesA s) with
  | .error e=>.error e
  | .ok b=>match gathP b.lbs [] b.pcs with
   | .error e=>.error e
   | .ok out=>if 256<(out++entP b.T).length then .error (0,4) else .ok (out++entP b.T,b.lbs,satpP b.T):=rfl
 conv=>whnf
 refine ⟨_,loadC0 aggBp (lk7 _ _ kp) rfl,cw_ ?_⟩
 refine iread_x (hmx.le lhk) (her.le lhk) (hpw.le lhk) w7 s (by omega) (fun c n sP sL oP oL tb tm k8 h8 hrd lk8 ib w8=>?_) (fun n e hz hrd KZ RZ=>?_)
 rotate_left
 ·obtain ⟨lz,RZ⟩:=RZ
  rw [hrd] at hbd
  have EZ:buildP s=.error (n,e):=hbd
  refine idl_pan rfl hab hac hbc (KZ _ _ kp) RZ (KZ _ _ ka) (KZ _ _ kb) (KZ _ _ kc) rfl fun hf a1 b1 c1 o1=>(cw_ ?_)
  refine ⟨_,loadA0 aggIm sizIm a1 rfl,cw_ ?_⟩
  refine ⟨_,loadC0 aggIn b1 rfl,cw_ ?_⟩
  refine ⟨_,loadC0 aggEi c1 rfl,cw_ ?_⟩
  exact hn _ _ hf EZ (hle _ _ KZ o1)
 rw [hrd] at hbd
 simp only at hbd
 obtain ⟨pa,pc,rfl⟩:=w8.gP.shape
 obtain ⟨la,lc,rfl⟩:=w8.gL.shape
 have kp8:=lk8 _ _ kp
 conv=>whnf
 have hpr:bp≠br:=Ne.symm dbr
 refine ⟨fun z=>z bp=some (rowO 65 [.pointer (some ⟨br,0,none⟩)])∧∃ n',z br=some (rowO blT (blC c n' bm tb (.slice pa c.pcs.length pc) (.slice la c.lbs.length lc))),⟨w8.le _ _ kp8,_,w8.row⟩,cw_ ?_⟩
 refine ⟨_,loadC0 aggBp (w8.le _ _ kp8) rfl,cw_ ?_⟩
 refine ⟨_,fun _ e=>loadC0 aggBp e.1 rfl,cw_ ?_⟩
 refine ⟨_,fun _ e=>by obtain ⟨_,n',e⟩:=e;exact loadC (i:=5) aggTp e rfl,?_⟩
 conv=>whnf
 refine igather_x w8 ib (by omega) (fun s' A z oO oZ k2 h9 n' lk2 k2b w9 row9 hgt hAl=>?_) (fun n e hz hgt KU RZ=>?_)
 rotate_left
 ·obtain ⟨lz,RZ⟩:=RZ
  rw [hgt] at hbd
  have EZ:buildP s=.error (n,e):=hbd
  have KZ:k.le hz:=fun d o hd=>KU _ _ (by rw [unk_at (fun e=>by subst e;rw [kbr] at hd;cases hd)];exact w8.le _ _ (lk8 _ _ hd))
  refine idl_pan rfl hab hac hbc (KZ _ _ kp) RZ (KZ _ _ ka) (KZ _ _ kb) (KZ _ _ kc) rfl fun hf a1 b1 c1 o1=>(cw_ ?_)
  refine ⟨_,loadA0 aggIm sizIm a1 rfl,cw_ ?_⟩
  refine ⟨_,loadC0 aggIn b1 rfl,cw_ ?_⟩
  refine ⟨_,loadC0 aggEi c1 rfl,cw_ ?_⟩
  exact hn _ _ hf EZ (hle _ _ KZ o1)
 rw [hgt] at hbd
 simp only at hbd
 have ku9:(unk h8 br).le h9:=Hp.le_trans lk2 w9.le
 have k9:k.le h9:=fun d o hd=>ku9 _ _ (by rw [unk_at (fun e=>by subst e;rw [kbr] at hd;cases hd)];exact w8.le _ _ (lk8 _ _ hd))
 refine ⟨⟨k9 _ _ kp,_,row9⟩,?_⟩
 have ka9:=k9 _ _ ka
 have kp9:=k9 _ _ kp
 obtain ⟨sa9,sc9,rfl⟩:=w9.g.shape
 have rdL8:Rd Tryz.prog 37 2 (unk h8 br) (.slice la c.lbs.length lc) (c.lbs.map fun x=>.agg (lbC x).toArray):=(w8.gL.agree (h':=unk h8 br) fun d hd=>unk_at (w8.gL.offR w8.row (by decide) d hd)).rdN (P:=Tryz.prog) (f:=lbC) (by kernel_rfl) (by kernel_rfl) (fun _=>rfl)
 have iT8:=w8.T
 have row8:=w8.row
 have gL9:=(w8.gL.agree (h':=unk h8 br) fun d hd=>unk_at (w8.gL.offR w8.row (by decide) d hd)).le ku9
 have okO:=(w9.done aggPp sizPp).2
 have kb9:=k9 _ _ kb
 have kc9:=k9 _ _ kc
 have hh9:∀ c o,h c=some o→(c≠ba∧c≠bb∧c≠bc∧c≠br)∧k2 c=some o:=fun c o hc=>by
  obtain ⟨m1,m2,m3⟩:=n4 c o hc
  have hkc:=lhk _ _ hc
  have m4:c≠br:=fun e=>by subst e;rw [kbr] at hkc;cases hkc
  exact ⟨⟨m1,m2,m3,m4⟩,lk2 _ _ (by rw [unk_at m4];exact w8.le _ _ (lk8 _ _ hkc))⟩
 have hT:=ib.T
 have hnp:=ib.np
 clear w8 ib hrd hgt
 obtain ⟨place,pcs,lbs,T⟩:=c
 cases T with
 | none =>
  conv=>whnf
  refine X.toE (pgents0_x ?_)
  refine ⟨⟨kp9,_,row9⟩,cw_ ?_⟩
  refine appMany (z:=.agg #[ux 0,.slice none 0 0]) (news:=[]) (base:=none) (m:=0) (by kernel_rfl) infPp (by kernel_rfl) (by kernel_rfl) (by kernel_rfl) rfl (bytes:=32) (by decide) rfl rfl rfl w9.g rfl (fun j v hj=>by simp at hj) (fun _=>rfl) rfl (by omega) fun s10 h10 o10 g10 t10=>?_
  have row10:=(t10.keep row9 (w9.g.offR row9 (by decide))).1
  have kp10:=(t10.keep kp9 (w9.g.offR kp9 (by decide))).1
  have ka10:=(t10.keep ka9 (w9.g.offR ka9 (by decide))).1
  have kb10:=(t10.keep kb9 (w9.g.offR kb9 (by decide))).1
  have kc10:=(t10.keep kc9 (w9.g.offR kc9 (by decide))).1
  have gL10:=gr_keep w9.g gL9 (by decide) t10
  have okO10:∀ p ∈ A++z.toList,PpB h10 p:=fun p hp=>(okO p hp).turn (by decide) w9.g t10
  have k210:=(t10.le w9.le w9.nO).1
  obtain ⟨sa10,sc10,rfl⟩:=g10.shape
  refine ⟨⟨kp10,_,row10⟩,cw_ ?_⟩
  refine wr_intro (by exact storeC (i:=0) sizPl ka10 (show 0<3 by decide) rfl rfl) (fun h11 at_h11 ot_h11=>cw_ ?_)
  have row11:=(ot_h11 br (rowNe row10 ka10 (by decide))).trans row10
  have kp11:=(ot_h11 bp (rowNe kp10 ka10 (by decide))).trans kp10
  refine ⟨⟨kp11,_,row11⟩,cw_ ?_⟩
  refine ⟨_,loadC0 aggBp kp11 rfl,cw_ ?_⟩
  refine ⟨_,loadC (i:=5) aggTp row11 rfl,cw_ ?_⟩
  refine ⟨_,loadC0 aggBp kp11 rfl,cw_ ?_⟩
  refine wr_intro (by exact storeC (i:=0) sizI6 row11 (show 0<6 by decide) rfl rfl) (fun h12 at_h12 ot_h12=>cw_ ?_)
  have ka12:=(ot_h12 ba (rowNe at_h11 row11 (by decide))).trans at_h11
  have kp12:=(ot_h12 bp (rowNe kp11 row11 (by decide))).trans kp11
  conv=>whnf
  refine ⟨_,loadC0 aggPsl ka12 rfl,cw_ ?_⟩
  have e0:entP none=[]:=rfl
  rw [e0,List.append_nil,List.length_map] at hbd
  have kb11:=(ot_h11 bb (rowNe kb10 ka10 (by decide))).trans kb10
  have kc11:=(ot_h11 bc (rowNe kc10 ka10 (by decide))).trans kc10
  have kb12:=(ot_h12 bb (rowNe kb11 row11 (by decide))).trans kb11
  have kc12:=(ot_h12 bc (rowNe kc11 row11 (by decide))).trans kc11
  refine imust_x _ 4 (fun hq=>?_) (fun hq=>?_)
  ·have hq:=of_decide_eq_true hq
   rw [if_neg (by omega)] at hbd
   conv=>whnf
   refine ⟨_,loadC0 aggBp kp12 rfl,cw_ ?_⟩
   refine ⟨_,loadC (i:=4) aggLS at_h12 rfl,cw_ ?_⟩
   refine wr_intro (by exact storeC (i:=1) sizLS ka12 (show 1<3 by decide) rfl rfl) (fun h13 at_h13 ot_h13=>cw_ ?_)
   refine ⟨_,loadA0 aggIm sizIm at_h13 rfl,cw_ ?_⟩
   refine wr_intro (by exact storeA0 sizIm at_h13 rfl rfl rfl) (fun h14 at_h14 ot_h14=>cw_ ?_)
   have kb14:=(ot_h14 bb (Ne.symm hab)).trans ((ot_h13 bb (Ne.symm hab)).trans kb12)
   have kc14:=(ot_h14 bc (Ne.symm hac)).trans ((ot_h13 bc (Ne.symm hac)).trans kc12)
   refine wr_intro (by exact storeC0 sizI6 kb14 (show (0:Nat)<1 by decide) rfl rfl) (fun h15 at_h15 ot_h15=>cw_ ?_)
   refine wr_intro (by exact storeC0 sizEi ((ot_h15 bc (Ne.symm hbc)).trans kc14) (show (0:Nat)<1 by decide) rfl rfl) (fun h16 at_h16 ot_h16=>cw_ ?_)
   have fa:=(ot_h16 ba hac).trans ((ot_h15 ba hab).trans at_h14)
   have fb:=(ot_h16 bb hbc).trans at_h15
   have fo:∀ d,d≠ba→d≠bb→d≠bc→d≠br→h16 d=h10 d:=fun d d1 d2 d3 d4=>by rw [ot_h16 d d3,ot_h15 d d2,ot_h14 d d1,ot_h13 d d1,ot_h12 d d4,ot_h11 d d1]
   refine idl_ret rfl (cw_ ?_)
   refine ⟨_,loadA0 aggIm sizIm fa rfl,cw_ ?_⟩
   refine ⟨_,loadC0 aggIn fb rfl,cw_ ?_⟩
   refine ⟨_,loadC0 aggEi at_h16 rfl,cw_ ?_⟩
   have FO:∀ (d:Nat) (el:TypeId) (l:List Value),h10 d=some (rowO el l)→el≠27→el≠3→el≠28→el≠blT→h16 d=h10 d:=fun d el l hd e1 e2 e3 e4=>fo d (rowNe hd ka10 e1) (rowNe hd kb10 e2) (rowNe hd kc10 e3) (rowNe hd row10 e4)
   have GO:∀ {el n l:Nat} {s:Value} {cs:List Value} {o:Option Nat},Gr h10 el n s l cs o→el≠27→el≠3→el≠28→el≠blT→Gr h16 el n s l cs o:=fun {el n l s cs o} g e1 e2 e3 e4=>g.agree fun c hc=>fo c (g.offR ka10 e1 c hc) (g.offR kb10 e2 c hc) (g.offR kc10 e3 c hc) (g.offR row10 e4 c hc)
   refine hy _ _ _ _ _ (A++z.toList) h16 hbd (fun c o hc=>?_) ?_ (fun p hp=>?_) rfl (by omega) ?_
   ·obtain ⟨⟨m1,m2,m3,m4⟩,hk2⟩:=hh9 c o hc
    rw [fo c m1 m2 m3 m4];exact k210 _ _ hk2
   ·have g:=GO g10 (by decide) (by decide) (by decide) (by decide)
    rw [Nat.add_zero,List.append_nil] at g
    exact g.rdN (f:=Pp.cs) aggPp sizPp (fun _=>rfl)
   ·obtain ⟨p1,p2,c,cap,rest,e,hc⟩:=okO10 p hp
    exact ⟨p1,p2,c,cap,rest,e,(FO c _ _ hc (by decide) (by decide) (by decide) (by decide)).trans hc⟩
   ·have g:=GO gL10 (by decide) (by decide) (by decide) (by decide)
    exact g.rdN (f:=lbC) (by kernel_rfl) (by kernel_rfl) (fun _=>rfl)
  ·have hq:=of_decide_eq_false hq
   rw [if_pos (by omega)] at hbd
   have EZ:buildP s=.error (0,4):=hbd
   refine idl_pan rfl hab hac hbc kp12 at_h12 ka12 kb12 kc12 rfl fun hf a1 b1 c1 o1=>(cw_ ?_)
   refine ⟨_,loadA0 aggIm sizIm a1 rfl,cw_ ?_⟩
   refine ⟨_,loadC0 aggIn b1 rfl,cw_ ?_⟩
   refine ⟨_,loadC0 aggEi c1 rfl,cw_ ?_⟩
   exact hn _ _ hf EZ (fun c o hc=>by obtain ⟨⟨m1,m2,m3,m4⟩,hk2⟩:=hh9 c o hc;rw [o1 c m1 m2 m3,ot_h12 c m4,ot_h11 c m1];exact k210 _ _ hk2)
 | some t =>
  obtain ⟨⟨lev,it⟩,htl⟩:=hT t rfl
  obtain ⟨iT,kt1,kt2,kt3⟩:=iT8 t rfl
  have rr:=it.r1
  have iT9:TbO h9 tb tm t:=by
   obtain ⟨ot,ct,g1,g2,_⟩:=iT.map
   exact (iT.off (h':=unk h8 br) fun c hc=>unk_at (by rcases hc with rfl | rfl;exact rowNe iT.row row8 (by decide);exact Ne.symm (mapNe row8 g1 g2))).le ku9
  conv=>whnf
  refine X.toE (pgents_x iT9 it (by omega) fun s4 hE P2 leE rdE okE keyE'=>?_)
  have w9:=w9.up leE
  have kp9:=leE _ _ kp9
  have ka9:=leE _ _ ka9
  have kb9:=leE _ _ kb9
  have kc9:=leE _ _ kc9
  have row9:=leE _ _ row9
  have gL9:=gL9.le leE
  have okO:∀ p ∈ A++z.toList,PpB hE p:=fun p hp=>(okO p hp).le leE
  have tb9:=leE _ _ iT9.row
  obtain ⟨b4,c4,rfl,f4⟩:=pp_load aggPp sizPp rdE
  obtain ⟨src1,src2⟩:=pp_src f4
  have hP2l:P2.length=t.L.length:=by
   have:=congrArg List.length keyE'
   rw [List.length_map,List.length_map,(ents_perm t).length_eq] at this
   exact this
  refine ⟨⟨kp9,_,row9⟩,cw_ ?_⟩
  refine appMany (z:=.agg #[ux 0,.slice none 0 0]) (news:=P2.flatMap Pp.cs) (by kernel_rfl) infPp (by kernel_rfl) (by kernel_rfl) (by kernel_rfl) rfl (bytes:=32) (by decide) rfl rfl rfl w9.g (lenPp P2) src1 src2 (csP_one fun p hp=>by obtain ⟨_,_,c,cp,rs,e,_⟩:=okE p hp;exact ⟨_,_,_,e⟩) (by omega) fun s10 h10 o10 g10 t10=>?_
  have row10:=(t10.keep row9 (w9.g.offR row9 (by decide))).1
  have kp10:=(t10.keep kp9 (w9.g.offR kp9 (by decide))).1
  have ka10:=(t10.keep ka9 (w9.g.offR ka9 (by decide))).1
  have kb10:=(t10.keep kb9 (w9.g.offR kb9 (by decide))).1
  have kc10:=(t10.keep kc9 (w9.g.offR kc9 (by decide))).1
  have gL10:=gr_keep w9.g gL9 (by decide) t10
  have okO10:∀ p ∈ A++z.toList,PpB h10 p:=fun p hp=>(okO p hp).turn (by decide) w9.g t10
  have okE10:∀ p ∈ P2,PpB h10 p:=fun p hp=>(okE p hp).turn (by decide) w9.g t10
  have tb10:=(t10.keep tb9 (w9.g.offR tb9 (by decide))).1
  have k210:=(t10.le w9.le w9.nO).1
  obtain ⟨sa10,sc10,rfl⟩:=g10.shape
  refine ⟨⟨kp10,_,row10⟩,cw_ ?_⟩
  refine wr_intro (by exact storeC (i:=0) sizPl ka10 (show 0<3 by decide) rfl rfl) (fun h11 at_h11 ot_h11=>cw_ ?_)
  have row11:=(ot_h11 br (rowNe row10 ka10 (by decide))).trans row10
  have kp11:=(ot_h11 bp (rowNe kp10 ka10 (by decide))).trans kp10
  refine ⟨⟨kp11,_,row11⟩,cw_ ?_⟩
  refine ⟨_,loadC0 aggBp kp11 rfl,cw_ ?_⟩
  refine ⟨_,loadC (i:=5) aggTp row11 rfl,cw_ ?_⟩
  refine ⟨_,loadC0 aggBp kp11 rfl,cw_ ?_⟩
  refine ⟨_,loadC (i:=5) aggTp row11 rfl,cw_ ?_⟩
  have tb11:=(ot_h11 tb (rowNe tb10 ka10 (by decide))).trans tb10
  refine ⟨_,loadC0 aggU6 tb11 rfl,cw_ ?_⟩
  refine ov_by (show IntKind.u64.wrap ((t.root:Int).tdiv 4096)=((t.root / 4096:Nat):Int) from w64 (show t.root / 4096<2 ^ 64 by omega)) (cw_ ?_)
  refine val_by (y:=((9223372036854775808+t.root / 4096:Nat):Int)) ((or64 (a:=9223372036854775808) (by decide) (by omega)).trans (by rw [show (9223372036854775808:Nat)=1*2 ^ 63 by decide,or_low (by omega)])) (cw_ ?_)
  refine wr_intro (by exact storeC (i:=2) sizU6 at_h11 (show 2<3 by decide) rfl rfl) (fun h1b at_h1b ot_h1b=>cw_ ?_)
  have kb11:=(ot_h11 bb (rowNe kb10 ka10 (by decide))).trans kb10
  have kc11:=(ot_h11 bc (rowNe kc10 ka10 (by decide))).trans kc10
  have row11:=(ot_h1b br (rowNe row11 at_h11 (by decide))).trans row11
  have kp11:=(ot_h1b bp (rowNe kp11 at_h11 (by decide))).trans kp11
  have kb11:=(ot_h1b bb (rowNe kb11 at_h11 (by decide))).trans kb11
  have kc11:=(ot_h1b bc (rowNe kc11 at_h11 (by decide))).trans kc11
  refine ⟨_,loadC0 aggBp kp11 rfl,cw_ ?_⟩
  refine wr_intro (by exact storeC (i:=0) sizI6 row11 (show 0<6 by decide) rfl rfl) (fun h12 at_h12 ot_h12=>cw_ ?_)
  have ka12:=(ot_h12 ba (rowNe at_h1b row11 (by decide))).trans at_h1b
  have kp12:=(ot_h12 bp (rowNe kp11 row11 (by decide))).trans kp11
  conv=>whnf
  refine ⟨_,loadC0 aggPsl ka12 rfl,cw_ ?_⟩
  have e0:entP (some t)=P2.map Pp.key:=keyE'.symm
  rw [e0] at hbd
  have elen:((A++z.toList).map Pp.key++P2.map Pp.key).length=(A++z.toList).length+P2.length:=by rw [List.length_append,List.length_map,List.length_map]
  rw [elen] at hbd
  have kb12:=(ot_h12 bb (rowNe kb11 row11 (by decide))).trans kb11
  have kc12:=(ot_h12 bc (rowNe kc11 row11 (by decide))).trans kc11
  refine imust_x _ 4 (fun hq=>?_) (fun hq=>?_)
  ·have hq:=of_decide_eq_true hq
   rw [if_neg (by omega)] at hbd
   conv=>whnf
   refine ⟨_,loadC0 aggBp kp12 rfl,cw_ ?_⟩
   refine ⟨_,loadC (i:=4) aggLS at_h12 rfl,cw_ ?_⟩
   refine wr_intro (by exact storeC (i:=1) sizLS ka12 (show 1<3 by decide) rfl rfl) (fun h13 at_h13 ot_h13=>cw_ ?_)
   refine ⟨_,loadA0 aggIm sizIm at_h13 rfl,cw_ ?_⟩
   refine wr_intro (by exact storeA0 sizIm at_h13 rfl rfl rfl) (fun h14 at_h14 ot_h14=>cw_ ?_)
   have kb14:=(ot_h14 bb (Ne.symm hab)).trans ((ot_h13 bb (Ne.symm hab)).trans kb12)
   have kc14:=(ot_h14 bc (Ne.symm hac)).trans ((ot_h13 bc (Ne.symm hac)).trans kc12)
   refine wr_intro (by exact storeC0 sizI6 kb14 (show (0:Nat)<1 by decide) rfl rfl) (fun h15 at_h15 ot_h15=>cw_ ?_)
   refine wr_intro (by exact storeC0 sizEi ((ot_h15 bc (Ne.symm hbc)).trans kc14) (show (0:Nat)<1 by decide) rfl rfl) (fun h16 at_h16 ot_h16=>cw_ ?_)
   have fa:=(ot_h16 ba hac).trans ((ot_h15 ba hab).trans at_h14)
   have fb:=(ot_h16 bb hbc).trans at_h15
   have fo:∀ d,d≠ba→d≠bb→d≠bc→d≠br→h16 d=h10 d:=fun d d1 d2 d3 d4=>by rw [ot_h16 d d3,ot_h15 d d2,ot_h14 d d1,ot_h13 d d1,ot_h12 d d4,ot_h1b d d1,ot_h11 d d1]
   refine idl_ret rfl (cw_ ?_)
   refine ⟨_,loadA0 aggIm sizIm fa rfl,cw_ ?_⟩
   refine ⟨_,loadC0 aggIn fb rfl,cw_ ?_⟩
   refine ⟨_,loadC0 aggEi at_h16 rfl,cw_ ?_⟩
   have FO:∀ (d:Nat) (el:TypeId) (l:List Value),h10 d=some (rowO el l)→el≠27→el≠3→el≠28→el≠blT→h16 d=h10 d:=fun d el l hd e1 e2 e3 e4=>fo d (rowNe hd ka10 e1) (rowNe hd kb10 e2) (rowNe hd kc10 e3) (rowNe hd row10 e4)
   have GO:∀ {el n l:Nat} {s:Value} {cs:List Value} {o:Option Nat},Gr h10 el n s l cs o→el≠27→el≠3→el≠28→el≠blT→Gr h16 el n s l cs o:=fun {el n l s cs o} g e1 e2 e3 e4=>g.agree fun c hc=>fo c (g.offR ka10 e1 c hc) (g.offR kb10 e2 c hc) (g.offR kc10 e3 c hc) (g.offR row10 e4 c hc)
   refine hy _ _ _ _ _ ((A++z.toList)++P2) h16 hbd (fun c o hc=>?_) ?_ (fun p hp=>?_) (List.map_append ..) (by rw [List.length_append];omega) ?_
   ·obtain ⟨⟨m1,m2,m3,m4⟩,hk2⟩:=hh9 c o hc
    rw [fo c m1 m2 m3 m4];exact k210 _ _ hk2
   ·have g:=GO g10 (by decide) (by decide) (by decide) (by decide)
    have g':Gr h16 ppT 2 (.slice sa10 ((A++z.toList).length+P2.length) sc10) ((A++z.toList)++P2).length (((A++z.toList)++P2).flatMap Pp.cs) o10:=by
     rw [show ((A++z.toList)++P2).length=(A++z.toList).length+P2.length from List.length_append,List.flatMap_append]
     exact g
    exact g'.rdN (f:=Pp.cs) aggPp sizPp (fun _=>rfl)
   ·obtain ⟨p1,p2,c,cap,rest,e,hc⟩:PpB h10 p:=(List.mem_append.1 hp).elim (okO10 p) (okE10 p)
    exact ⟨p1,p2,c,cap,rest,e,(FO c _ _ hc (by decide) (by decide) (by decide) (by decide)).trans hc⟩
   ·have g:=GO gL10 (by decide) (by decide) (by decide) (by decide)
    exact g.rdN (f:=lbC) (by kernel_rfl) (by kernel_rfl) (fun _=>rfl)
  ·have hq:=of_decide_eq_false hq
   rw [if_pos (by omega)] at hbd
   have EZ:buildP s=.error (0,4):=hbd
   refine idl_pan rfl hab hac hbc kp12 at_h12 ka12 kb12 kc12 rfl fun hf a1 b1 c1 o1=>(cw_ ?_)
   refine ⟨_,loadA0 aggIm sizIm a1 rfl,cw_ ?_⟩
   refine ⟨_,loadC0 aggIn b1 rfl,cw_ ?_⟩
   refine ⟨_,loadC0 aggEi c1 rfl,cw_ ?_⟩
   exact hn _ _ hf EZ (fun c o hc=>by obtain ⟨⟨m1,m2,m3,m4⟩,hk2⟩:=hh9 c o hc;rw [o1 c m1 m2 m3,ot_h12 c m4,ot_h1b c m1,ot_h11 c m1];exact k210 _ _ hk2)
end
end Go.Proofs.YtdhkjcdneidgaaaGreatDoor
namespace Go.Proofs.YtdhkjcdneidgaaaGreatDoor
open Go Go.Mid Go.RowKit Go.Bits
attribute [local irreducible] mid
def liveS:Str:=[97,58,10,97,100,100,105,32,116,48,32,116,48,32,49,10,106,97,108,32,122,101,114,111,32,64,97,10]
theorem live_plain:buildP liveS=.ok ([(2147483648,eightN 1213075 4++eightN 4292866159 4)],[([97],2147483648)],0):=by kernel_rfl
section
variable {h:Hp} {K:Value→Hp→Prop} {E:List PanicEntry→Hp→Prop}
end
end Go.Proofs.YtdhkjcdneidgaaaGreatDoor
namespace Go.Proofs.YtdhkjcdneidgaaaGreatDoor
open Go Go.Mid Go.RowKit Go.Bits
attribute [local irreducible] mid
section
variable {h:Hp} {K:Value→Hp→Prop} {E:List PanicEntry→Hp→Prop}
theorem ilive_x (hmx:Mx h) (her:Er h) (hpw:Pow h) (hk:∀ h',h.le h'→K (.bool true) h'):XE Tryz.prog 5 #[] h K E:=by
 refine fnu (args:=_) mixed [(1,1),(16,1),(22,1),(30,1),(41,1)] [] [34] [(999998,[1])] Tryz.func5 rfl (by kernel_rfl) (cw_ ?_)
 refine ibuild_x hmx her hpw liveS (by decide) (fun n e h' he _=>?_) (fun o l q sP sL P h' ho le rdP okP hkey hPl rdL=>?_)
 ·rw [live_plain] at he;cases he
 rw [live_plain] at ho
 cases ho
 obtain ⟨p,rfl⟩:∃ p,P=[p]:=List.length_eq_one_iff.1 (by have:=congrArg List.length hkey;simpa using this)
 have hpk:p.key=(2147483648,eightN 1213075 4++eightN 4292866159 4):=by simpa using hkey
 unfold Pp.key at hpk
 injection hpk with hp1 hp2
 obtain ⟨b1,c1,rfl,f1⟩:=pp_load aggPp sizPp rdP
 obtain ⟨b2,c2,e2,_⟩:=rdL
 rw [List.length_map] at e2
 subst e2
 obtain ⟨pat,psl,pb⟩:=p
 have hp1:pat=2147483648:=hp1
 have hp2:pb=eightN 1213075 4++eightN 4292866159 4:=hp2
 subst hp1
 obtain ⟨a,rfl,ca⟩:=f1 0 ⟨2147483648,psl,pb⟩ rfl
 obtain ⟨bb,bc,esl,fb⟩:=(okP ⟨2147483648,psl,pb⟩ (by simp)).ok.shape
 have esl:psl=.slice bb pb.length bc:=esl
 subst esl
 have c0:=ca 0 _ rfl
 have c1:=ca 1 _ rfl
 conv=>whnf
 refine ⟨fun z=>h'.le z,Hp.le_refl _,cw_ ?_⟩
 refine ⟨_,(loadH_cell aggU6 _ _).trans c0,cw_ ?_⟩
 refine ⟨_,fun _ e=>(loadH_cell aggYp _ _).trans (cell_le e c1),cw_ ?_⟩
 refine reight_x 1213075 4 (by decide) (by decide) fun s1 h1 hO1=>?_
 have hp3:pb=eightN 1213075 4++eightN 4292866159 4:=hp2
 obtain ⟨sa1,sc1,rfl⟩:=hO1.shape
 refine ⟨hO1.le,cw_ ?_⟩
 refine reight_x 4292866159 4 (by decide) (by decide) fun s2 h2 hO2=>?_
 have rd2:Rd Tryz.prog 5 1 h2 s2 ((eightN 4292866159 4).map byV):=hO2.rd aggU8p
 obtain ⟨b3,c3,e3,f3⟩:=rd2
 have e3:s2=.slice b3 4 c3:=e3
 subst e3
 refine ⟨Hp.le_trans hO1.le hO2.le,cw_ ?_⟩
 refine Owns.appN (z:=.int .u8 0) (news:=(eightN 4292866159 4).map byV) (bytes:=1) (by kernel_rfl) (show Tryz.prog.info? 5=some Tryz.prog.types[5] by kernel_rfl) (by kernel_rfl) (by kernel_rfl) (by kernel_rfl) rfl (by decide) rfl rfl rfl (hO1.up hO2.le) rfl (fun j v hj=>by obtain ⟨a,ea,hl⟩:=f3 j v hj;rw [loadH_cell aggU8p,Nat.mul_one] at hl;exact ⟨a,ea,hl⟩) (fun e=>by subst e;obtain ⟨a,ea,_⟩:=f3 0 _ rfl;cases ea) (by decide) (by decide) fun s3 h3 hO3=>?_
 have hO3:Owns h' h3 5 1 s3 8 ((eightN 1213075 4++eightN 4292866159 4).map byV):=by rw [List.map_append];exact hO3
 obtain ⟨b5,c5,e5,f5⟩:=hO3.rd aggU8p
 have e5:s3=.slice b5 (eightN 1213075 4++eightN 4292866159 4).length c5:=e5
 subst e5
 refine ⟨hO3.le,cw_ ?_⟩
 refine pgbEq_x bb b5 bc c5 pb (eightN 1213075 4++eightN 4292866159 4) (by rw [hp3];decide) (fun i z hz=>by obtain ⟨a,ea,hc⟩:=fb i z hz;exact ⟨a,ea,cell_le hO3.le hc⟩) (fun i z hz=>by obtain ⟨a,ea,hl⟩:=f5 i (byV z) (by rw [List.getElem?_map,hz];rfl);rw [loadH_cell aggU8p,Nat.mul_one] at hl;exact ⟨a,ea,hl⟩) ?_
 rw [decide_eq_true hp3]
 refine ⟨hO3.le,cw_ ?_⟩
 exact hk h3 (Hp.le_trans le hO3.le)
end
end Go.Proofs.YtdhkjcdneidgaaaGreatDoor
namespace Go.Proofs.YtdhkjcdneidgaaaGreatDoor
open Go Go.Mid Go.RowKit Go.Bits
attribute [local irreducible] mid
structure Pg where
 va:Nat
 pa:Nat
 lv:Int
 fl:Nat
def Pg.cs (p:Pg):List Value:=[ux p.va,ux p.pa,.int .i64 p.lv,ux p.fl]
structure Pg.ok (p:Pg):Prop where
 va:p.va<2 ^ 64
 pa:p.pa<2 ^ 64
 lv0 : -9223372036854775808≤p.lv
 lv1:p.lv≤9223372036854775807
 fl:p.fl<2 ^ 64
section
variable {h:Hp} {K:Value→Hp→Prop} {E:List PanicEntry→Hp→Prop}
end
end Go.Proofs.YtdhkjcdneidgaaaGreatDoor
