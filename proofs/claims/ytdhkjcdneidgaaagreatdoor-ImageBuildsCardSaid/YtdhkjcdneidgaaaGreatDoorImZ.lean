/-
  Images: what was deferred.
-/
import Derived.Test.YtdhkjcdneidgaaaGreatDoorImO
import Derived.Test.YtdhkjcdneidgaaaGreatDoorMidUb
set_option linter.unusedSimpArgs false
set_option linter.unusedVariables false
set_option maxHeartbeats 8000000
set_option maxRecDepth 10000
set_option linter.unusedSimpArgs false
set_option linter.unusedVariables false
namespace Go.Proofs.YtdhkjcdneidgaaaGreatDoor
open Go Go.Mid Go.RowKit Go.Bits
attribute [local irreducible] mid
def unk (h:Hp) (b:Nat):Hp:=fun c=>if c=b then none else h c
theorem unk_le (h:Hp) (b:Nat):(unk h b).le h:=fun c x e=>by
 unfold unk at e
 split at e
 ·cases e
 ·exact e
theorem unk_at {h:Hp} {b c:Nat} (hc:c≠b):unk h b c=h c:=if_neg hc
theorem unk_self {h:Hp} {b:Nat}:unk h b b=none:=if_pos rfl
theorem OutS.off {el:TypeId} {k h h':Hp} {s:Value} {A:List Pp} {z:Option Pp} {oO oZ:Option Nat} {b:Nat} {l:List Value} (w:OutS el k h s A z oO oZ) (hb:h b=some (rowO blT l)) (hel:el≠blT) (kb:k b=none) (o:∀ c,c≠b→h' c=h c):OutS el k h' s A z oO oZ:=by
 refine ⟨fun c y hc=>?_,w.g.agree fun c hc=>o c (w.g.offR hb hel c hc),fun p e=>⟨?_,(w.gz p e).2⟩,w.z0,w.nO,w.nZ,w.okA⟩
 ·rw [o c fun e=>by subst e;rw [kb] at hc;cases hc];exact w.le _ _ hc
 ·have g:=(w.gz p e).1
  exact g.agree fun c hc=>o c (g.offR hb (by decide) c hc)
section
variable {k h:Hp} {K:Value→Hp→Prop} {E:List PanicEntry→Hp→Prop}
theorem aggIp:isAggT Tryz.prog 113=some true:=by kernel_rfl
theorem sizIp:sizeT Tryz.prog 113=some 13:=by kernel_rfl
theorem infU8i:Tryz.prog.info? 5=some Tryz.prog.types[5]:=by kernel_rfl
theorem sizYi:sizeT Tryz.prog 60=some 1:=by kernel_rfl
theorem igather_x {b m tb tm N:Nat} {x:Bd} {n:Int} {sP sL:Value} {oP oL:Option Nat} (w:Bob k h b m tb tm x x.lbs n sP sL oP oL) (ib:BdI N x) (hN:N≤2 ^ 16)
  (hk:∀ s' A z oO oZ k2 h' n',(unk h b).le k2→k2 b=none→OutS ppT k2 h' s' A z oO oZ→h' b=some (rowO blT (blC x n' m tb sP sL))→gathP x.lbs [] x.pcs=.ok ((A++z.toList).map Pp.key)→(A++z.toList).length≤8*x.pcs.length→K s' h')
  (he:∀ n e h',gathP x.lbs [] x.pcs=.error (n,e)→(unk h b).le h'→(∃ l,h' b=some (rowO blT (.int .i64 n :: l)))→E [{ v:=istop e,recovered:=false }] h'):XE Tryz.prog 22 #[.pointer (some ⟨b,0,none⟩)] h K E:=by
 have hnp:=ib.np
 obtain ⟨om,cm,hm,hM⟩:=w.mp
 have hbm:=mapNe w.row hm hM
 have gP:=w.gP.agree (h':=unk h b) fun c hc=>unk_at (w.gP.offR w.row (by decide) c hc)
 obtain ⟨pa,pc,ep,fp⟩:=gP.rdN (P:=Tryz.prog) (f:=ipC) aggIp sizIp (fun _=>rfl)
 rw [List.length_map] at ep
 subst ep
 have fp:∀ (i:Nat) (p:Pc),x.pcs[i]? = some p→∃ a,pa=some a∧loadH Tryz.prog 113 (unk h b) (a.add (((i:Int)).toNat*13))=some (.agg (ipC p).toArray):=fun i p hp=>by rw [Int.toNat_natCast];exact fp i _ (by rw [List.getElem?_map,hp];rfl)
 have lk0:=unk_le h b
 obtain ⟨la,lc,rfl⟩:=w.gL.shape
 have hw0:OutS ppT (unk h b) h (.slice none 0 0) [] none none none:=OutS.nil.weak0 lk0
 refine fnu (args:=_) mixed [(5,5),(19,5)] [] [] [(999998,[6])] Tryz.func22 rfl (by kernel_rfl) (cw_ ?_)
 refine ⟨_,loadC (i:=2) aggIpS w.row rfl,cw_ ?_⟩
 refine loop_at [15,3] [] (fun q vs _ h'=>∃ (i:Nat) (s2:Value) (A:List Pp) (z:Option Pp) (oO oZ:Option Nat) (k2:Hp) (n':Int),i≤x.pcs.length∧q=x.pcs.length - i∧vs=[.v (.int .i64 i),.v s2]∧(unk h b).le k2∧k2 b=none∧OutS ppT k2 h' s2 A z oO oZ∧h' b=some (rowO blT (blC x n' m tb (.slice pa x.pcs.length pc) (.slice la x.lbs.length lc)))∧gathP x.lbs [] (x.pcs.take i)=.ok ((A++z.toList).map Pp.key)∧(A++z.toList).length≤8*i) x.pcs.length ⟨0,.slice none 0 0,[],none,none,none,unk h b,n,by omega,by omega,rfl,Hp.le_refl _,unk_self,hw0,w.row,rfl,by show 0≤_;omega⟩ ?_
 rintro q vs cs mm bx h3 ⟨i,s2,A,z,oO,oZ,k2,n',hi,rfl,rfl,lk2,k2b,w3,row3,hgt,hAl⟩
 obtain ⟨sa2,sc2,rfl⟩:=w3.g.shape
 have hle3:=Hp.le_trans lk2 w3.le
 conv=>whnf
 refine br_ (fun q1=>?_) fun q1=>?_
 ·obtain ⟨p,hp⟩:∃ p,x.pcs[i]? = some p:=⟨_,List.getElem?_eq_getElem (by omega)⟩
  obtain ⟨a,rfl,lp⟩:=fp i p hp
  have lp3:=loadH_le hle3 lp
  have hpo:=ib.P p (List.mem_of_getElem? hp)
  have hmp3:∃ o c,h3 m=some o∧MapB sv (labF x.lbs) c o:=⟨om,cm,hle3 _ _ ((unk_at (Ne.symm hbm)).trans hm),hM⟩
  have hall:gathP x.lbs [] x.pcs=match rawP x.lbs p with
   | .error e=>.error (p.line,e)
   | .ok l=>gathP x.lbs (pushL ((A++z.toList).map Pp.key) p.at_ l) (x.pcs.drop (i+1)):=by
   conv=>lhs;rw [← List.take_append_drop i x.pcs]
   rw [List.drop_eq_getElem_cons (show i<x.pcs.length by omega),(List.getElem?_eq_some_iff.1 hp).2,gathP_app,hgt]
   rfl
  have htk:gathP x.lbs [] (x.pcs.take (i+1))=match rawP x.lbs p with
   | .error e=>.error (p.line,e)
   | .ok l=>.ok (pushL ((A++z.toList).map Pp.key) p.at_ l):=by
   rw [List.take_add_one,hp,gathP_app,hgt]
   exact gathP_one _ _ _
  conv=>whnf
  refine n_ ?_
  refine ⟨_,lp3,cw_ ?_⟩
  refine ibytes_x row3 hmp3 ib.L p hpo (fun e h4 hre hr4 o4=>?_) (fun l bl h4 h5 hl hr4 o4 n5 l5 o5 a5=>?_)
  ·rw [hre] at hall
   exact he _ _ h4 hall (Hp.le_trans lk2 (w3.off row3 (by decide) k2b o4).le) ⟨_,hr4⟩
  obtain ⟨lpos,lle⟩:=rawP_len hpo hl
  rw [hl] at htk
  simp only at htk
  have hpa:=hpo.at_
  have w4:=w3.off row3 (by decide) k2b o4
  have dbl:b≠bl:=fun e=>by rw [e] at hr4;rw [n5] at hr4;cases hr4
  obtain ⟨lk3,w5⟩:=w4.new n5 l5 a5
  have rk3:(k2.set bl (rowO 5 (l.map byV))) bl=some (rowO 5 (l.map byV)):=Hp.set_same _ _ _
  have k3b:(k2.set bl (rowO 5 (l.map byV))) b=none:=by rw [Hp.set_other _ _ dbl];exact k2b
  have row5:=l5 _ _ hr4
  generalize k2.set bl (rowO 5 (l.map byV))=k3 at *
  conv=>whnf
  refine loop_at [25,3,6] [] (fun q vs _ h'=>∃ (n:Nat) (s3:Value) (A':List Pp) (z':Option Pp) (oO' oZ':Option Nat) (k4:Hp),n≤l.length∧q=l.length - n∧vs=[.v (.int .i64 n),.v s3,.v (ux ((p.at_+n) % 2 ^ 64))]∧k3.le k4∧k4 b=none∧OutS ppT k4 h' s3 A' z' oO' oZ'∧h' b=some (rowO blT (blC x p.line m tb (.slice (some a) x.pcs.length pc) (.slice la x.lbs.length lc)))∧(A'++z'.toList).map Pp.key=pushL ((A++z.toList).map Pp.key) p.at_ (l.take n)∧(A'++z'.toList).length≤8*i+n) l.length ⟨0,_,A,z,oO,oZ,k3,by omega,by omega,by rw [Nat.add_zero,Nat.mod_eq_of_lt hpa];rfl,Hp.le_refl _,k3b,w5,row5,rfl,by omega⟩ ?_
  rintro q vs cs mm bx h6 ⟨n,s3,A',z',oO',oZ',k4,hn,rfl,rfl,lk4,k4b,w6,row6,hkey,hAl'⟩
  have rk6:=Hp.le_trans lk4 w6.le _ _ rk3
  conv=>whnf
  refine br_ (fun q2=>?_) fun q2=>?_
  ·obtain ⟨y,hy⟩:∃ y,l[n]? = some y:=⟨_,List.getElem?_eq_getElem (by omega)⟩
   have hps:pushL ((A++z.toList).map Pp.key) p.at_ (l.take (n+1))=pushP ((A'++z'.toList).map Pp.key) ((p.at_+n) % 2 ^ 64) y:=by
    rw [List.take_add_one,hy,hkey]
    show pushL _ _ (l.take n++[y])=_
    rw [pushL_snoc _ _ _ _ hpa,List.length_take,Nat.min_eq_left hn]
   have ly:loadH Tryz.prog 5 h6 ((⟨bl,0,none⟩:Addr).add (((n:Int)).toNat*1))=some (byV y):=loadI (j:=n) aggU8p rk6 rfl (by rw [List.getElem?_map,hy];rfl)
   have hnx:(p.at_+(n+1)) % 2 ^ 64=((p.at_+n) % 2 ^ 64+1) % 2 ^ 64:=by omega
   obtain ⟨at9,hat9⟩:∃ a,(p.at_+n) % 2 ^ 64=a:=⟨_,rfl⟩
   have hat9l:at9<2 ^ 64:=hat9 ▸ Nat.mod_lt _ (by decide)
   rw [hat9] at hps hnx ⊢
   have EV:∀ (e:Nat) (x1 x2:MV),((at9+1) % 2 ^ 64=e)→[x1,x2,MV.v (ux ((at9+1) % 2 ^ 64))]=[x1,x2,MV.v (ux e)]:=fun e x1 x2 h=>by rw [h]
   cases z' with
   | none =>
    obtain ⟨_,rfl⟩:=w6.z0 rfl
    obtain ⟨sa3,sc3,rfl⟩:=w6.g.shape
    have PK:pushP (([]++(none:Option Pp).toList).map Pp.key) at9 y=([]++(none:Option Pp).toList).map Pp.key++[(at9,[y])]:=rfl
    conv=>whnf
    refine n_ ?_
    refine ⟨_,ly,cw_ ?_⟩
    refine new_intro (o:=rowO 5 [byV y]) (fun z1 h7 n_z1 le_z1 at_z1 ot_z1=>cw_ ?_)
    refine new_intro (o:=rowO 62 [ux at9,.slice (some ⟨z1,0,none⟩) 1 1]) (fun yy h8 n_yy le_yy at_yy ot_yy=>cw_ ?_)
    refine appOne (z:=.agg #[ux 0,.slice none 0 0]) (by kernel_rfl) infPp (by kernel_rfl) (by kernel_rfl) (by kernel_rfl) rfl (bytes:=32) (by decide) rfl rfl rfl (w6.up (Hp.le_trans le_z1 le_yy)).g at_yy rfl rfl (by omega) fun s8 h9 oO8 g8 t8=>?_
    obtain ⟨k6,lk6,k6n,w9⟩:=w6.push (x:=y) (by decide) hat9l n_z1 le_z1 at_z1 le_yy t8 g8
    have row8:=(Hp.le_trans le_z1 le_yy) _ _ row6
    have row9:=(t8.keep row8 ((w6.up (Hp.le_trans le_z1 le_yy)).g.offR row8 (by decide))).1
    obtain ⟨sa8,sc8,rfl⟩:=g8.shape
    conv=>whnf
    refine ov_by (show IntKind.u64.wrap ((at9:Int)+1)=(((at9+1) % 2 ^ 64:Nat):Int) by rw [toU64];omega) ?_
    conv=>whnf
    refine n_ ?_
    refine ⟨l.length - (n+1),by omega,n+1,_,_,_,_,_,k6,by omega,rfl,by rw [hnx];rfl,Hp.le_trans lk4 lk6,k6n b _ _ row9 (by decide) k4b,w9,row9,?_,?_⟩
    ·rw [hps,PK,List.map_append];rfl
    ·rw [List.length_append];show _+1≤_;omega
   | some p' =>
    obtain ⟨bO,capO,restO,es,eo,hcO,hrO,rO,kbO⟩:=w6.last
    subst es
    obtain ⟨gz,gpos,gat,gl⟩:=w6.gz p' rfl
    obtain ⟨ba,bc,ebs⟩:=gz.shape
    have hkk:(A'++(some p').toList).map Pp.key=A'.map Pp.key++[(p'.at_,p'.b)]:=by rw [List.map_append];rfl
    have hpl:=pushP_last (O:=A'.map Pp.key) (q:=(p'.at_,p'.b)) (a:=at9) (x:=y)
    have hAn:(A'++(some p').toList).length=A'.length+1:=by simp
    have lc5:=last_cell rO (j:=(A'.length:Int)) rfl
    rw [ebs] at lc5
    have ec:((A'.length+1:Nat):Int) - 1=(A'.length:Int):=by omega
    conv=>whnf
    refine n_ ?_
    refine ⟨_,ly,cw_ ?_⟩
    refine bt_ ?_
    refine n_ ?_
    rw [ec]
    refine bt_ ?_ (by first | (simp;done) | (simp;omega))
    refine ⟨_,(loadH_cell aggYp _ _).trans lc5.2,cw_ ?_⟩
    refine br_ (fun qb=>?_) fun qb=>?_
    rotate_left
    ·have PK:pushP ((A'++(some p').toList).map Pp.key) at9 y=(A'++(some p').toList).map Pp.key++[(at9,[y])]:=by rw [hkk,hpl,if_neg (fun hh=>qb (by have:=hh.1;simp only at this;omega))]
     conv=>whnf
     refine new_intro (o:=rowO 5 [byV y]) (fun z1 h7 n_z1 le_z1 at_z1 ot_z1=>cw_ ?_)
     refine new_intro (o:=rowO 62 [ux at9,.slice (some ⟨z1,0,none⟩) 1 1]) (fun yy h8 n_yy le_yy at_yy ot_yy=>cw_ ?_)
     refine appOne (z:=.agg #[ux 0,.slice none 0 0]) (by kernel_rfl) infPp (by kernel_rfl) (by kernel_rfl) (by kernel_rfl) rfl (bytes:=32) (by decide) rfl rfl rfl (w6.up (Hp.le_trans le_z1 le_yy)).g at_yy rfl rfl (by omega) fun s8 h9 oO8 g8 t8=>?_
     obtain ⟨k6,lk6,k6n,w9⟩:=w6.push (x:=y) (by decide) hat9l n_z1 le_z1 at_z1 le_yy t8 g8
     have row8:=(Hp.le_trans le_z1 le_yy) _ _ row6
     have row9:=(t8.keep row8 ((w6.up (Hp.le_trans le_z1 le_yy)).g.offR row8 (by decide))).1
     obtain ⟨sa8,sc8,rfl⟩:=g8.shape
     conv=>whnf
     refine ov_by (show IntKind.u64.wrap ((at9:Int)+1)=(((at9+1) % 2 ^ 64:Nat):Int) by rw [toU64];omega) ?_
     conv=>whnf
     refine n_ ?_
     refine ⟨l.length - (n+1),by omega,n+1,_,_,_,_,_,k6,by omega,rfl,by rw [hnx];rfl,Hp.le_trans lk4 lk6,k6n b _ _ row9 (by decide) k4b,w9,row9,?_,?_⟩
     ·rw [hps,PK,List.map_append];rfl
     ·rw [List.length_append];show _+1≤_;omega
    conv=>whnf
    refine n_ ?_
    rw [ec]
    refine bt_ ?_ (by first | (simp;done) | (simp;omega))
    refine ⟨_,(loadH_cell aggU6 _ _).trans lc5.1,cw_ ?_⟩
    refine n_ ?_
    rw [ec]
    refine bt_ ?_ (by first | (simp;done) | (simp;omega))
    refine ⟨_,(loadH_cell aggYp _ _).trans lc5.2,cw_ ?_⟩
    refine ov_by (show IntKind.u64.wrap (p'.b.length:Int)=(p'.b.length:Int) from w64 (by omega)) (cw_ ?_)
    refine ov_by (show IntKind.u64.wrap ((p'.at_:Int)+(p'.b.length:Int))=(((p'.at_+p'.b.length) % 2 ^ 64:Nat):Int) by rw [toU64];omega) ?_
    conv=>whnf
    refine br_ (fun qa=>?_) fun qa=>?_
    rotate_left
    ·have PK:pushP ((A'++(some p').toList).map Pp.key) at9 y=(A'++(some p').toList).map Pp.key++[(at9,[y])]:=by rw [hkk,hpl,if_neg (fun hh=>qa (by have:=hh.2;simp only at this;omega))]
     conv=>whnf
     refine new_intro (o:=rowO 5 [byV y]) (fun z1 h7 n_z1 le_z1 at_z1 ot_z1=>cw_ ?_)
     refine new_intro (o:=rowO 62 [ux at9,.slice (some ⟨z1,0,none⟩) 1 1]) (fun yy h8 n_yy le_yy at_yy ot_yy=>cw_ ?_)
     refine appOne (z:=.agg #[ux 0,.slice none 0 0]) (by kernel_rfl) infPp (by kernel_rfl) (by kernel_rfl) (by kernel_rfl) rfl (bytes:=32) (by decide) rfl rfl rfl (w6.up (Hp.le_trans le_z1 le_yy)).g at_yy rfl rfl (by omega) fun s8 h9 oO8 g8 t8=>?_
     obtain ⟨k6,lk6,k6n,w9⟩:=w6.push (x:=y) (by decide) hat9l n_z1 le_z1 at_z1 le_yy t8 g8
     have row8:=(Hp.le_trans le_z1 le_yy) _ _ row6
     have row9:=(t8.keep row8 ((w6.up (Hp.le_trans le_z1 le_yy)).g.offR row8 (by decide))).1
     obtain ⟨sa8,sc8,rfl⟩:=g8.shape
     conv=>whnf
     refine ov_by (show IntKind.u64.wrap ((at9:Int)+1)=(((at9+1) % 2 ^ 64:Nat):Int) by rw [toU64];omega) ?_
     conv=>whnf
     refine n_ ?_
     refine ⟨l.length - (n+1),by omega,n+1,_,_,_,_,_,k6,by omega,rfl,by rw [hnx];rfl,Hp.le_trans lk4 lk6,k6n b _ _ row9 (by decide) k4b,w9,row9,?_,?_⟩
     ·rw [hps,PK,List.map_append];rfl
     ·rw [List.length_append];show _+1≤_;omega
    have PG:pushP ((A'++(some p').toList).map Pp.key) at9 y=A'.map Pp.key++[(p'.at_,p'.b++[y])]:=by rw [hkk,hpl,if_pos ⟨by show p'.b.length<256;omega,by show (p'.at_+p'.b.length) % 2 ^ 64=at9;omega⟩]
    conv=>whnf
    refine n_ ?_
    rw [ec]
    refine n_ ?_
    refine bt_ ?_ (by first | (simp;done) | (simp;omega))
    refine ⟨_,(loadH_cell aggYp _ _).trans lc5.2,cw_ ?_⟩
    refine new_intro (o:=rowO 5 [byV y]) (fun z1 h7 n_z1 le_z1 at_z1 ot_z1=>cw_ ?_)
    have w7:=w6.up le_z1
    have gz7:=gz.le le_z1
    have rO7:=le_z1 _ _ rO
    have row7:=le_z1 _ _ row6
    have gz7':=gz7
    rw [ebs] at gz7'
    refine appOne (z:=.int .u8 0) (by kernel_rfl) infU8i (by kernel_rfl) (by kernel_rfl) (by kernel_rfl) rfl (bytes:=1) (by decide) rfl rfl rfl gz7' at_z1 rfl rfl (by omega) fun s8 h8 oZ8 g8 t8=>?_
    have rO8:=(t8.keep rO7 (gz7.offR rO7 (by decide))).1
    have row8:=(t8.keep row7 (gz7.offR row7 (by decide))).1
    obtain ⟨sa8,sc8,rfl⟩:=g8.shape
    conv=>whnf
    refine n_ ?_
    refine wr_intro (by exact storeCA (k:=A'.length*2+1) (last_addr rfl) sizYi rO8 (by rw [List.length_append,csA_len];simp) last_set rfl rfl) (fun h9 at_h9 ot_h9=>cw_ ?_)
    have w9:=w7.grow (by decide) rfl eo hcO hrO (by omega) g8 t8 at_h9 ot_h9 rO7
    have row9:=(ot_h9 b (rowNe row8 rO8 (by decide))).trans row8
    conv=>whnf
    refine ov_by (show IntKind.u64.wrap ((at9:Int)+1)=(((at9+1) % 2 ^ 64:Nat):Int) by rw [toU64];omega) ?_
    conv=>whnf
    refine n_ ?_
    refine ⟨l.length - (n+1),by omega,n+1,_,A',some ⟨p'.at_,_,p'.b++[y]⟩,_,_,k4,by omega,rfl,by rw [hnx];rfl,lk4,k4b,w9,row9,?_,?_⟩
    ·rw [hps,PG,List.map_append];rfl
    ·rw [List.length_append] at hAl' ⊢;show _+1≤_;have:(some p').toList.length=1:=rfl;omega
  ·have hnl2:n=l.length:=by omega
   subst hnl2
   rw [List.take_length] at hkey
   conv=>whnf
   refine n_ ?_
   exact ⟨x.pcs.length - (i+1),by omega,i+1,s3,A',z',oO',oZ',k4,p.line,by omega,rfl,rfl,Hp.le_trans lk2 (Hp.le_trans lk3 lk4),k4b,w6,row6,by rw [htk,hkey],by omega⟩
 ·have hiP:i=x.pcs.length:=by omega
  subst hiP
  rw [List.take_length] at hgt
  have hK:=hk _ A z oO oZ k2 h3 n' lk2 k2b w3 row3 hgt hAl
  conv=>whnf
  exact hK
end
end Go.Proofs.YtdhkjcdneidgaaaGreatDoor
namespace Go.Proofs.YtdhkjcdneidgaaaGreatDoor
open Go Go.Mid Go.RowKit Go.Bits
attribute [local irreducible] mid
section
variable {k h:Hp} {K:FrameMode→Hp→Prop}
def im0:List Value:=[.slice none 0 0,.slice none 0 0,ux 0]
theorem sizIm:sizeT Tryz.prog 27=some 3:=by kernel_rfl
theorem sizEi:sizeT Tryz.prog 28=some 1:=by kernel_rfl
theorem aggBp:isAggT Tryz.prog 65=some false:=by kernel_rfl
theorem ibuild1_ret {a b c d:Addr} (hk:K .returning h):XD Tryz.prog 20 #[.pointer (some a),.pointer (some b),.pointer (some c),.pointer (some d)] .returning h K:=by
 refine xd_of mixed [(5,5),(23,5)] [] [] [] Tryz.func20 rfl (by kernel_rfl) (by kernel_rfl) (cw_ ?_)
 exact hk
theorem ibuild1_pan {p br a b c:Nat} {n:Int} {lz:List Value} {xl:List Value} {nv ev:Value} {e:Int} {r:List PanicEntry} (hab:a≠b) (hac:a≠c) (hbc:b≠c) (hp:h p=some (rowO 65 [.pointer (some ⟨br,0,none⟩)])) (hr:h br=some (rowO blT (.int .i64 n :: lz)))
  (ha:h a=some (rowO 27 xl)) (hb:h b=some (rowO 3 [nv])) (hc:h c=some (rowO 28 [ev])) (hxs:xl.length=3)
  (hk:∀ h',h' a=some (rowO 27 im0)→h' b=some (rowO 3 [zv n])→h' c=some (rowO 28 [zv e])→(∀ d,d≠a→d≠b→d≠c→h' d=h d)→K (.panicking ({ v:=istop e,recovered:=true } :: r)) h'):XD Tryz.prog 20 #[.pointer (some ⟨p,0,none⟩),.pointer (some ⟨a,0,none⟩),.pointer (some ⟨b,0,none⟩),.pointer (some ⟨c,0,none⟩)] (.panicking ({ v:=istop e,recovered:=false } :: r)) h K:=by
 refine xd_of mixed [(5,5),(23,5)] [] [] [] Tryz.func20 rfl (by kernel_rfl) (by kernel_rfl) (cw_ ?_)
 refine sem_ta (v:=.agg #[.int .i64 e]) Tryz.underlying71 (fun _ hh=>by cases hh) rfl rfl (cw_ ?_)
 refine ⟨_,loadC0 aggBp hp rfl,cw_ ?_⟩
 refine ⟨_,loadC0 aggIn hr rfl,cw_ ?_⟩
 refine wr_intro (by exact storeA0 sizIm ha hxs (by kernel_rfl) (by kernel_rfl)) (fun h1 at_h1 ot_h1=>cw_ ?_)
 refine ⟨trivial,cw_ ?_⟩
 have hb1:h1 b=some (rowO 3 [nv]):=(ot_h1 _ (Ne.symm hab)).trans hb
 have hc1:h1 c=some (rowO 28 [ev]):=(ot_h1 _ (Ne.symm hac)).trans hc
 conv=>whnf
 refine wr_intro (by exact storeC0 sizI6 hb1 (show (0:Nat)<1 by decide) rfl rfl) (fun h2 at_h2 ot_h2=>cw_ ?_)
 refine ⟨trivial,cw_ ?_⟩
 have hc2:h2 c=some (rowO 28 [ev]):=(ot_h2 _ (Ne.symm hbc)).trans hc1
 conv=>whnf
 refine wr_intro (by exact storeC0 sizEi hc2 (show (0:Nat)<1 by decide) rfl rfl) (fun h3 at_h3 ot_h3=>cw_ ?_)
 refine ⟨trivial,cw_ ?_⟩
 exact hk h3 ((ot_h3 _ hac).trans ((ot_h2 _ hab).trans at_h1)) ((ot_h3 _ hbc).trans at_h2) at_h3 fun d h4 h5 h6=>by rw [ot_h3 d h6,ot_h2 d h5,ot_h1 d h4]
theorem idl_ret {a b c d:Nat} {args:Array Value} {KK:FrameMode→Hp→Prop} (ea:args=#[.pointer (some ⟨a,0,none⟩),.pointer (some ⟨b,0,none⟩),.pointer (some ⟨c,0,none⟩),.pointer (some ⟨d,0,none⟩)]) (hk:KK .returning h) :
  callable Tryz.prog 20=true∧XD Tryz.prog 20 args .returning h fun u' h'=>settle u'≠.run∧KK (settle u') h' :=
 ⟨by kernel_rfl,XD.arg ea (ibuild1_ret ⟨settle_ret,hk⟩)⟩
theorem idl_pan {p br a b c:Nat} {n:Int} {lz:List Value} {xl:List Value} {nv ev:Value} {e:Int} {args:Array Value} {KK:FrameMode→Hp→Prop} (ea:args=#[.pointer (some ⟨p,0,none⟩),.pointer (some ⟨a,0,none⟩),.pointer (some ⟨b,0,none⟩),.pointer (some ⟨c,0,none⟩)]) (hab:a≠b) (hac:a≠c) (hbc:b≠c) (hp:h p=some (rowO 65 [.pointer (some ⟨br,0,none⟩)])) (hr:h br=some (rowO blT (.int .i64 n :: lz)))
  (ha:h a=some (rowO 27 xl)) (hb:h b=some (rowO 3 [nv])) (hc:h c=some (rowO 28 [ev])) (hxs:xl.length=3)
  (hk:∀ h',h' a=some (rowO 27 im0)→h' b=some (rowO 3 [zv n])→h' c=some (rowO 28 [zv e])→(∀ d,d≠a→d≠b→d≠c→h' d=h d)→KK .returning h') :
  callable Tryz.prog 20=true∧XD Tryz.prog 20 args (.panicking [{ v:=istop e,recovered:=false }]) h fun u' h'=>settle u'≠.run∧KK (settle u') h' :=
 ⟨by kernel_rfl,XD.arg ea (ibuild1_pan (r:=[]) hab hac hbc hp hr ha hb hc hxs fun h' a1 b1 c1 o1=>by
  rw [settle_rec (v:=istop e) (r:=[]) rfl]
  exact ⟨by simp,hk h' a1 b1 c1 o1⟩)⟩
end
end Go.Proofs.YtdhkjcdneidgaaaGreatDoor
