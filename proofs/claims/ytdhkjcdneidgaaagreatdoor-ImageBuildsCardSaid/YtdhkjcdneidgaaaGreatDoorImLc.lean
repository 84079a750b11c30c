/-
  Images: the laws of their arguments as data.
-/
import Derived.Test.YtdhkjcdneidgaaaGreatDoorImO
import Derived.Test.YtdhkjcdneidgaaaGreatDoorImLa
import Derived.Test.YtdhkjcdneidgaaaGreatDoorRgRegA
import Derived.Test.YtdhkjcdneidgaaaGreatDoorLinS
import Derived.LaidMore
import Derived.LaidSub
import Derived.MakeChecks
import Derived.Lib.LaidTab
import Derived.Stop.LaidErr
import Derived.Test.YtdhkjcdneidgaaaGreatDoorRows
set_option linter.unusedSimpArgs false
set_option linter.unusedVariables false
set_option maxHeartbeats 8000000
set_option maxRecDepth 10000
set_option linter.unusedSimpArgs false
set_option linter.unusedVariables false
namespace Go.Proofs.YtdhkjcdneidgaaaGreatDoor
open Go Go.Mid Go.RowKit Go.Bits
abbrev rfXImK0:Go.Mid.RF:=[(7,7),(60,7),(68,7),(78,7),(91,7),(156,7),(160,7),(164,7),(173,7),(157,7),(165,7),(10,10)]
attribute [local irreducible] mid
theorem readP_app:∀ (l m:List Str) (b:Bd) (n:Nat),readP b n (l++m)=match readP b n l with
  | .error e=>.error e
  | .ok c=>readP c (n+l.length) m
 | [],m,b,n=>rfl
 | t :: r,m,b,n=>by
  rw [List.cons_append,readP_step,readP_step]
  cases stepP b n t with
  | error e=>rfl
  | ok c=>simp only;rw [readP_app r m c (n+1),show n+1+r.length=n+(t :: r).length by rw [List.length_cons];omega]
structure RW (h:Hp) (K:Value→Hp→Prop) (r:Except (Int×Int) (List (Nat×Str)×List (Str×Nat)×Nat)):Prop where
 err:∀ n e h',r=.error (n,e)→K (.tuple #[.slice none 0 0,.slice none 0 0,ux 0,.int .i64 n,.int .i64 e]) h'
 ok:∀ o l q sP sL (P:List Pp) h',r=.ok (o,l,q)→h.le h'→Rd Tryz.prog 92 2 h' sP (P.map Pp.v)→(∀ p ∈ P,PpB h' p)→P.map Pp.key=o→P.length≤256→Rd Tryz.prog 38 2 h' sL (l.map fun x=>.agg (lbC x).toArray)→K (.tuple #[sP,sL,ux q,.int .i64 0,.int .i64 0]) h'
section
variable {h:Hp} {K:Value→Hp→Prop}
theorem infU8p:Tryz.prog.info? 5=some Tryz.prog.types[5]:=by kernel_rfl
theorem sizYp:sizeT Tryz.prog 60=some 1:=by kernel_rfl
theorem rbuild_x (s:Str) (hs:s.length≤2 ^ 13) (R:RW h K (buildP s)):X Tryz.prog 7 #[sv s] h K:=by
 obtain ⟨LS,hLS⟩:∃ L,linesA s=L:=⟨_,rfl⟩
 have hb:buildP s=match readP bd0 0 LS with
  | .error e=>.error e
  | .ok b=>match gathP b.lbs [] b.pcs with
   | .error e=>.error e
   | .ok out=>if 256<(out++entP b.T).length then .error (0,4) else .ok (out++entP b.T,b.lbs,satpP b.T):=by rw [← hLS];rfl
 rw [hb] at R
 refine fnv (args:=_) mixed rfXImK0 [] [] Tryz.func7 rfl (by kernel_rfl) (cw_ ?_)
 refine rlines_x s (by omega) fun sl h1 hOw=>?_
 rw [hLS] at hOw
 have hl1:LS.length≤s.length+1:=hLS ▸ linesA_len s
 have hl2:∀ t ∈ LS,t.length≤s.length:=hLS ▸ linesA_word s
 obtain ⟨base,cap,rfl,fS⟩:∃ base cap,sl=.slice base LS.length cap∧∀ (i:Nat) (w:Str),LS[i]? = some w→∃ a,base=some a∧loadH Tryz.prog 9 h1 (a.add (((i:Int)).toNat*1))=some (sv w):=WdR.at_ ⟨hOw.rd aggStI,by omega,fun w hw=>by have:=hl2 w hw;omega⟩
 have le1:=hOw.le
 clear hOw
 conv=>whnf
 refine loop_at [9] [7] (fun q vs cs h'=>∃ (i:Nat) (b:Bd) (sP sL sT:Value) (oP oL:Option Nat) (k:Hp),i≤LS.length∧q=LS.length - i∧vs=[.v (.int .i64 i)]∧cs=[some (rbC b sP sL sT)]∧h1.le k∧Dbo k h' b sP sL sT oP oL∧BdI i b∧readP bd0 0 (LS.take i)=.ok b) LS.length ⟨0,bd0,.slice none 0 0,.slice none 0 0,.slice none 0 0,none,none,h1,by omega,by omega,rfl,rfl,Hp.le_refl _,⟨Hp.le_refl _,Gr.nil,Gr.nil,fun c e=>(by cases e),fun c e=>(by cases e),Rd.nil⟩,BdI.zero,rfl⟩ ?_
 rintro q vs cs mm bx h2 ⟨i,b,sP,sL,sT,oP,oL,k,hi,rfl,rfl,rfl,lk,d,ib,hrd⟩
 obtain ⟨pa,pc,rfl⟩:=grSl d.gP
 obtain ⟨ta,tc,rfl⟩:=rdSl d.rT
 obtain ⟨la,lc,rfl⟩:=grSl d.gL
 conv=>whnf
 refine br_ (fun q1=>?_) fun q1=>?_
 ·obtain ⟨t,ht⟩:∃ t,LS[i]? = some t:=⟨_,List.getElem?_eq_getElem (by omega)⟩
  obtain ⟨a,rfl,lt⟩:=fS i t ht
  have htl:=hl2 t (List.mem_of_getElem? ht)
  have lt2:=loadH_le (Hp.le_trans lk d.le) lt
  have hall:readP bd0 0 LS=match stepP b i t with
   | .error e=>.error ((i+1:Nat),e)
   | .ok c=>readP c (i+1) (LS.drop (i+1)):=by
   conv=>lhs;rw [← List.take_append_drop i LS]
   rw [List.drop_eq_getElem_cons (show i<LS.length by omega),(List.getElem?_eq_some_iff.1 ht).2,readP_app,hrd]
   simp only
   rw [readP_step,List.length_take,Nat.min_eq_left hi,Nat.zero_add]
   rfl
  have htk:readP bd0 0 (LS.take (i+1))=match stepP b i t with
   | .error e=>.error ((i+1:Nat),e)
   | .ok c=>.ok c:=by
   rw [List.take_add_one,ht,readP_app,hrd]
   show readP b (0+(LS.take i).length) [t]=_
   rw [readP_step,List.length_take,Nat.min_eq_left hi,Nat.zero_add]
   cases stepP b i t <;> rfl
  conv=>whnf
  refine n_ ?_
  refine ⟨_,lt2,cw_ ?_⟩
  refine seq_intro (b:=[]) ?_
  cases t with
  | nil =>
   have SK:([]:Str)=[]∨([]:Str)[0]? = some 35:=.inl rfl
   rw [decide_eq_true rfl]
   have e1:stepP b i _=.ok b:=if_pos SK
   rw [e1] at htk
   conv=>whnf
   refine n_ ?_
   exact ⟨LS.length - (i+1),by omega,i+1,b,_,_,_,oP,oL,k,by omega,rfl,rfl,rfl,lk,d,ib.more (Nat.le_succ i),htk⟩
  | cons c t' =>
  rw [decide_eq_false (by simp)]
  have hc256:=c.toNat_lt
  conv=>whnf
  refine n_ ?_
  refine ⟨_,lt2,cw_ ?_⟩
  refine ch_intro (l:=c :: t') c (by omega) rfl (cw_ ?_)
  refine br_ (fun q2=>?_) fun q2=>?_
  ·have SK:(c :: t')=[]∨(c :: t')[0]? = some 35:=.inr (by rw [show c=35 from UInt8.toNat_inj.1 (by show c.toNat=35;omega)];rfl)
   have e1:stepP b i _=.ok b:=if_pos SK
   rw [e1] at htk
   conv=>whnf
   refine n_ ?_
   exact ⟨LS.length - (i+1),by omega,i+1,b,_,_,_,oP,oL,k,by omega,rfl,rfl,rfl,lk,d,ib.more (Nat.le_succ i),htk⟩
  have hst:stepP b i (c :: t')=oneP b (i+1:Nat) (c :: t'):=if_neg (by
   rintro (e | e)
   ·cases e
   ·simp at e;exact q2 (by subst e;rfl))
  conv=>whnf
  have hTk:TOk b.T:=fun t ht=>⟨(ib.T t ht).1,by have:=(ib.T t ht).2;omega⟩
  have hnp:=ib.np
  have hnl:=ib.nl
  refine n_ ?_
  refine ⟨_,lt2,cw_ ?_⟩
  refine n_ ?_
  rw [show (i:Int)+1=((i+1:Nat):Int) by omega]
  refine rone_x d ib.place (by omega) (by omega) hTk (c :: t') (by omega) ((i+1:Nat):Int) ⟨fun e v h' he hv=>?_,fun c2 sP sL sT oP oL k' h' hc hkk hd=>?_⟩
  ·obtain ⟨b',a1,n1,c1,a2,n2,c2,a3,n3,c3,rfl⟩:=hv
   have hen:=oneP_err he
   rw [← hst] at he
   rw [he] at hall
   rw [hall] at R
   refine ⟨trivial,cw_ ?_⟩
   refine bt_ ?_
   refine n_ ?_
   rw [show (i:Int)+1=((i+1:Nat):Int) by omega]
   exact R.err _ _ h' rfl
  ·obtain ⟨pa',pc',rfl⟩:=grSl hd.gP
   obtain ⟨ta',tc',rfl⟩:=rdSl hd.rT
   obtain ⟨la',lc',rfl⟩:=grSl hd.gL
   rw [← hst] at hc
   rw [hc] at htk
   refine ⟨trivial,cw_ ?_⟩
   refine n_ ?_
   exact ⟨LS.length - (i+1),by omega,i+1,c2,_,_,_,_,_,k',by omega,rfl,rfl,rfl,Hp.le_trans lk hkk,hd,stepP_inv ib hc,htk⟩
 have hiL:i=LS.length:=by omega
 subst hiL
 rw [List.take_length] at hrd
 rw [hrd] at R
 simp only at R
 have hnp:=ib.np
 have hnl:=ib.nl
 obtain ⟨bp,cp,ep,fp⟩:=d.gP.rdN (P:=Tryz.prog) (f:=rpC) aggRp sizRp (fun _=>rfl)
 rw [List.length_map] at ep
 cases ep
 have fp:∀ (i:Nat) (p:Pc),b.pcs[i]? = some p→∃ a,pa=some a∧loadH Tryz.prog 91 h2 (a.add (((i:Int)).toNat*13))=some (.agg (rpC p).toArray):=fun i p hp=>by rw [Int.toNat_natCast];exact fp i _ (by rw [List.getElem?_map,hp];rfl)
 have le2:=Hp.le_trans le1 (Hp.le_trans lk d.le)
 conv=>whnf
 refine loop_at [13,12] [7] (fun q vs cs h'=>∃ (i:Nat) (s2:Value) (A:List Pp) (z:Option Pp) (oO oZ:Option Nat) (k2:Hp),i≤b.pcs.length∧q=b.pcs.length - i∧vs=[.v (.int .i64 i),.v s2]∧cs=[some (rbC b (.slice pa b.pcs.length pc) (.slice la b.lbs.length lc) (.slice ta (bT b).L.length tc))]∧h2.le k2∧OutS prT k2 h' s2 A z oO oZ∧gathP b.lbs [] (b.pcs.take i)=.ok ((A++z.toList).map Pp.key)∧(A++z.toList).length≤8*i) b.pcs.length ⟨0,.slice none 0 0,[],none,none,none,h2,by omega,by omega,rfl,rfl,Hp.le_refl _,OutS.nil,rfl,by show 0≤_;omega⟩ ?_
 rintro q vs cs mm bx h3 ⟨i,s2,A,z,oO,oZ,k2,hi,rfl,rfl,rfl,lk2,w,hgt,hAl⟩
 obtain ⟨sa2,sc2,rfl⟩:=w.g.shape
 have hle3:=Hp.le_trans lk2 w.le
 conv=>whnf
 refine br_ (fun q1=>?_) fun q1=>?_
 ·obtain ⟨p,hp⟩:∃ p,b.pcs[i]? = some p:=⟨_,List.getElem?_eq_getElem (by omega)⟩
  obtain ⟨a,rfl,lp⟩:=fp i p hp
  have lp3:=loadH_le hle3 lp
  have hpo:=ib.P p (List.mem_of_getElem? hp)
  have hall:gathP b.lbs [] b.pcs=match rawP b.lbs p with
   | .error e=>.error (p.line,e)
   | .ok l=>gathP b.lbs (pushL ((A++z.toList).map Pp.key) p.at_ l) (b.pcs.drop (i+1)):=by
   conv=>lhs;rw [← List.take_append_drop i b.pcs]
   rw [List.drop_eq_getElem_cons (show i<b.pcs.length by omega),(List.getElem?_eq_some_iff.1 hp).2,gathP_app,hgt]
   rfl
  have htk:gathP b.lbs [] (b.pcs.take (i+1))=match rawP b.lbs p with
   | .error e=>.error (p.line,e)
   | .ok l=>.ok (pushL ((A++z.toList).map Pp.key) p.at_ l):=by
   rw [List.take_add_one,hp,gathP_app,hgt]
   exact gathP_one _ _ _
  conv=>whnf
  refine n_ ?_
  refine ⟨_,lp3,cw_ ?_⟩
  refine rraw_x (d.up hle3) (by omega) ib.L p hpo (fun e he=>?_) (fun l sl h4 hl hO4=>?_)
  ·have hen:=rawP_err he
   rw [he] at hall
   rw [hall] at R
   have c0:=loadH_cellOf aggRp sizRp lp3 (k:=0) (v:=.int .i64 p.line) rfl
   refine ⟨trivial,cw_ ?_⟩
   refine bt_ ?_
   refine n_ ?_
   refine ⟨_,(loadH_cell aggIn _ _).trans c0,cw_ ?_⟩
   exact R.err _ _ h3 rfl
  ·obtain ⟨lpos,lle⟩:=rawP_len hpo hl
   rw [hl] at htk
   simp only at htk
   have hpa:=hpo.at_
   obtain ⟨bl,cl,rl,rfl,hcl,rowl,nl⟩:=hO4.row lpos
   obtain ⟨lk3,w4⟩:=w.new nl hO4.le rowl
   have rk3:(k2.set bl (rowO 5 (l.map byV++rl))) bl=some (rowO 5 (l.map byV++rl)):=Hp.set_same _ _ _
   generalize k2.set bl (rowO 5 (l.map byV++rl))=k3 at *
   have pk3:loadH Tryz.prog 91 k3 (a.add (((i:Int)).toNat*13))=some (.agg (rpC p).toArray):=loadH_le (Hp.le_trans lk2 lk3) lp
   refine ⟨trivial,cw_ ?_⟩
   refine loop_at [16,12] [7] (fun q vs cs h'=>∃ (n:Nat) (s3:Value) (A':List Pp) (z':Option Pp) (oO' oZ':Option Nat) (k4:Hp),n≤l.length∧q=l.length - n∧vs=[.v (.int .i64 n),.v s3]∧cs=[some (rbC b (.slice (some a) b.pcs.length pc) (.slice la b.lbs.length lc) (.slice ta (bT b).L.length tc))]∧k3.le k4∧OutS prT k4 h' s3 A' z' oO' oZ'∧(A'++z'.toList).map Pp.key=pushL ((A++z.toList).map Pp.key) p.at_ (l.take n)∧(A'++z'.toList).length≤8*i+n) l.length ⟨0,_,A,z,oO,oZ,k3,by omega,by omega,rfl,rfl,Hp.le_refl _,w4,rfl,by omega⟩ ?_
   rintro q vs cs mm bx h5 ⟨n,s3,A',z',oO',oZ',k4,hn,rfl,rfl,rfl,lk4,w5,hkey,hAl'⟩
   have pk5:=loadH_le (Hp.le_trans lk4 w5.le) pk3
   have rk5:=Hp.le_trans lk4 w5.le _ _ rk3
   have c2:=loadH_cellOf aggRp sizRp pk5 (k:=2) (v:=ux p.at_) rfl
   conv=>whnf
   refine br_ (fun q2=>?_) fun q2=>?_
   ·obtain ⟨x,hx⟩:∃ x,l[n]? = some x:=⟨_,List.getElem?_eq_getElem (by omega)⟩
    have hps:pushL ((A++z.toList).map Pp.key) p.at_ (l.take (n+1))=pushP ((A'++z'.toList).map Pp.key) ((p.at_+n) % 2 ^ 64) x:=by
     rw [List.take_add_one,hx,hkey]
     show pushL _ _ (l.take n++[x])=_
     rw [pushL_snoc _ _ _ _ hpa,List.length_take,Nat.min_eq_left hn]
    have lx:loadH Tryz.prog 5 h5 ((⟨bl,0,none⟩:Addr).add (((n:Int)).toNat*1))=some (byV x):=loadI (j:=n) aggU8p rk5 rfl (by rw [List.getElem?_append_left (by rw [List.length_map];omega),List.getElem?_map,hx];rfl)
    conv=>whnf
    refine n_ ?_
    refine ⟨_,(loadH_cell aggU6 _ _).trans c2,cw_ ?_⟩
    refine ov_by (show IntKind.u64.wrap (n:Int)=(n:Int) from w64 (by omega)) (cw_ ?_)
    refine ov_by (show IntKind.u64.wrap ((p.at_:Int)+(n:Int))=(((p.at_+n) % 2 ^ 64:Nat):Int) by rw [toU64];omega) ?_
    obtain ⟨at9,hat9⟩:∃ a,(p.at_+n) % 2 ^ 64=a:=⟨_,rfl⟩
    have hat9l:at9<2 ^ 64:=hat9 ▸ Nat.mod_lt _ (by decide)
    rw [hat9] at hps ⊢
    cases z' with
    | none =>
     obtain ⟨_,rfl⟩:=w5.z0 rfl
     obtain ⟨sa3,sc3,rfl⟩:=w5.g.shape
     have PK:pushP (([]++(none:Option Pp).toList).map Pp.key) at9 x=([]++(none:Option Pp).toList).map Pp.key++[(at9,[x])]:=rfl
     conv=>whnf
     refine n_ ?_
     refine bt_ ?_
     refine ⟨_,lx,cw_ ?_⟩
     refine new_intro (o:=rowO 5 [byV x]) (fun z1 h6 n_z1 le_z1 at_z1 ot_z1=>cw_ ?_)
     refine new_intro (o:=rowO 92 [ux at9,.slice (some ⟨z1,0,none⟩) 1 1]) (fun y h7 n_y le_y at_y ot_y=>cw_ ?_)
     refine appOne (z:=.agg #[ux 0,.slice none 0 0]) (by kernel_rfl) infPr (by kernel_rfl) (by kernel_rfl) (by kernel_rfl) rfl (bytes:=32) (by decide) rfl rfl rfl (w5.up (Hp.le_trans le_z1 le_y)).g at_y rfl rfl (by omega) fun s8 h8 oO8 g8 t8=>?_
     obtain ⟨k6,lk6,_,w8⟩:=w5.push (x:=x) (by decide) hat9l n_z1 le_z1 at_z1 le_y t8 g8
     obtain ⟨sa8,sc8,rfl⟩:=g8.shape
     conv=>whnf
     refine n_ ?_
     refine ⟨l.length - (n+1),by omega,n+1,_,_,_,_,_,k6,by omega,rfl,rfl,rfl,Hp.le_trans lk4 lk6,w8,?_,?_⟩
     ·rw [hps,PK,List.map_append];rfl
     ·rw [List.length_append];show _+1≤_;omega
    | some p' =>
     obtain ⟨bO,capO,restO,es,eo,hcO,hrO,rO,kbO⟩:=w5.last
     subst es
     obtain ⟨gz,gpos,gat,gl⟩:=w5.gz p' rfl
     obtain ⟨ba,bc,ebs⟩:=gz.shape
     have hkk:(A'++(some p').toList).map Pp.key=A'.map Pp.key++[(p'.at_,p'.b)]:=by rw [List.map_append];rfl
     have hpl:=pushP_last (O:=A'.map Pp.key) (q:=(p'.at_,p'.b)) (a:=at9) (x:=x)
     have hAn:(A'++(some p').toList).length=A'.length+1:=by simp
     have lc5:=last_cell rO (j:=(A'.length:Int)) rfl
     rw [ebs] at lc5
     conv=>whnf
     refine n_ ?_
     rw [show ((A'.length+1:Nat):Int) - 1=(A'.length:Int) by omega]
     refine bt_ ?_
     refine ⟨_,(loadH_cell aggU6 _ _).trans lc5.1,cw_ ?_⟩
     refine n_ ?_
     refine ⟨_,(loadH_cell aggYp _ _).trans lc5.2,cw_ ?_⟩
     refine ov_by (show IntKind.u64.wrap (p'.b.length:Int)=(p'.b.length:Int) from w64 (by omega)) (cw_ ?_)
     refine ov_by (show IntKind.u64.wrap ((p'.at_:Int)+(p'.b.length:Int))=(((p'.at_+p'.b.length) % 2 ^ 64:Nat):Int) by rw [toU64];omega) ?_
     conv=>whnf
     refine br_ (fun qa=>?_) fun qa=>?_
     rotate_left
     ·have PK:pushP ((A'++(some p').toList).map Pp.key) at9 x=(A'++(some p').toList).map Pp.key++[(at9,[x])]:=by rw [hkk,hpl,if_neg (fun hh=>qa (by have:=hh.2;simp only at this;omega))]
      conv=>whnf
      refine n_ ?_
      refine ⟨_,lx,cw_ ?_⟩
      refine new_intro (o:=rowO 5 [byV x]) (fun z1 h6 n_z1 le_z1 at_z1 ot_z1=>cw_ ?_)
      refine new_intro (o:=rowO 92 [ux at9,.slice (some ⟨z1,0,none⟩) 1 1]) (fun y h7 n_y le_y at_y ot_y=>cw_ ?_)
      refine appOne (z:=.agg #[ux 0,.slice none 0 0]) (by kernel_rfl) infPr (by kernel_rfl) (by kernel_rfl) (by kernel_rfl) rfl (bytes:=32) (by decide) rfl rfl rfl (w5.up (Hp.le_trans le_z1 le_y)).g at_y rfl rfl (by omega) fun s8 h8 oO8 g8 t8=>?_
      obtain ⟨k6,lk6,_,w8⟩:=w5.push (x:=x) (by decide) hat9l n_z1 le_z1 at_z1 le_y t8 g8
      obtain ⟨sa8,sc8,rfl⟩:=g8.shape
      conv=>whnf
      refine n_ ?_
      refine ⟨l.length - (n+1),by omega,n+1,_,_,_,_,_,k6,by omega,rfl,rfl,rfl,Hp.le_trans lk4 lk6,w8,?_,?_⟩
      ·rw [hps,PK,List.map_append];rfl
      ·rw [List.length_append];show _+1≤_;omega
     conv=>whnf
     refine n_ ?_
     refine ⟨_,(loadH_cell aggYp _ _).trans lc5.2,cw_ ?_⟩
     refine br_ (fun qb=>?_) fun qb=>?_
     rotate_left
     ·have PK:pushP ((A'++(some p').toList).map Pp.key) at9 x=(A'++(some p').toList).map Pp.key++[(at9,[x])]:=by rw [hkk,hpl,if_neg (fun hh=>qb (by have:=hh.1;simp only at this;omega))]
      conv=>whnf
      refine n_ ?_
      refine ⟨_,lx,cw_ ?_⟩
      refine new_intro (o:=rowO 5 [byV x]) (fun z1 h6 n_z1 le_z1 at_z1 ot_z1=>cw_ ?_)
      refine new_intro (o:=rowO 92 [ux at9,.slice (some ⟨z1,0,none⟩) 1 1]) (fun y h7 n_y le_y at_y ot_y=>cw_ ?_)
      refine appOne (z:=.agg #[ux 0,.slice none 0 0]) (by kernel_rfl) infPr (by kernel_rfl) (by kernel_rfl) (by kernel_rfl) rfl (bytes:=32) (by decide) rfl rfl rfl (w5.up (Hp.le_trans le_z1 le_y)).g at_y rfl rfl (by omega) fun s8 h8 oO8 g8 t8=>?_
      obtain ⟨k6,lk6,_,w8⟩:=w5.push (x:=x) (by decide) hat9l n_z1 le_z1 at_z1 le_y t8 g8
      obtain ⟨sa8,sc8,rfl⟩:=g8.shape
      conv=>whnf
      refine n_ ?_
      refine ⟨l.length - (n+1),by omega,n+1,_,_,_,_,_,k6,by omega,rfl,rfl,rfl,Hp.le_trans lk4 lk6,w8,?_,?_⟩
      ·rw [hps,PK,List.map_append];rfl
      ·rw [List.length_append];show _+1≤_;omega
     have PG:pushP ((A'++(some p').toList).map Pp.key) at9 x=A'.map Pp.key++[(p'.at_,p'.b++[x])]:=by rw [hkk,hpl,if_pos ⟨by show p'.b.length<256;omega,by show (p'.at_+p'.b.length) % 2 ^ 64=at9;omega⟩]
     conv=>whnf
     refine n_ ?_
     refine ⟨_,(loadH_cell aggYp _ _).trans lc5.2,cw_ ?_⟩
     refine n_ ?_
     refine ⟨_,lx,cw_ ?_⟩
     refine new_intro (o:=rowO 5 [byV x]) (fun z1 h6 n_z1 le_z1 at_z1 ot_z1=>cw_ ?_)
     have w6:=w5.up le_z1
     have gz6:=gz.le le_z1
     have rO6:=le_z1 _ _ rO
     have gz6':=gz6
     rw [ebs] at gz6'
     refine appOne (z:=.int .u8 0) (by kernel_rfl) infU8p (by kernel_rfl) (by kernel_rfl) (by kernel_rfl) rfl (bytes:=1) (by decide) rfl rfl rfl gz6' at_z1 rfl rfl (by omega) fun s8 h8 oZ8 g8 t8=>?_
     have rO8:=(t8.keep rO6 (gz6.offR rO6 (by decide))).1
     obtain ⟨sa8,sc8,rfl⟩:=g8.shape
     refine ⟨trivial,cw_ ?_⟩
     refine n_ ?_
     refine wr_intro (by exact storeCA (k:=A'.length*2+1) (last_addr rfl) sizYp rO8 (by rw [List.length_append,csA_len];simp) last_set rfl rfl) (fun h9 at_h9 ot_h9=>cw_ ?_)
     have w9:=w6.grow (by decide) rfl eo hcO hrO (by omega) g8 t8 at_h9 ot_h9 rO6
     refine ⟨trivial,cw_ ?_⟩
     refine n_ ?_
     refine ⟨l.length - (n+1),by omega,n+1,_,A',some ⟨p'.at_,_,p'.b++[x]⟩,_,_,k4,by omega,rfl,rfl,rfl,lk4,w9,?_,?_⟩
     ·rw [hps,PG,List.map_append];rfl
     ·rw [List.length_append] at hAl' ⊢;show _+1≤_;have:(some p').toList.length=1:=rfl;omega
   ·have hnl2:n=l.length:=by omega
    subst hnl2
    rw [List.take_length] at hkey
    conv=>whnf
    refine n_ ?_
    exact ⟨b.pcs.length - (i+1),by omega,i+1,s3,A',z',oO',oZ',k4,by omega,rfl,rfl,rfl,Hp.le_trans lk2 (Hp.le_trans lk3 lk4),w5,by rw [htk,hkey],by omega⟩
 have hiP:i=b.pcs.length:=by omega
 subst hiP
 rw [List.take_length] at hgt
 rw [hgt] at R
 simp only at R
 obtain ⟨rdO,okO⟩:=w.done aggPr sizPr
 have rdL2:Rd Tryz.prog 38 2 h2 (.slice la b.lbs.length lc) (b.lbs.map fun x=>.agg (lbC x).toArray):=d.gL.rdN (P:=Tryz.prog) (f:=lbC) aggRl sizRl (fun _=>rfl)
 have rdL:=rdL2.le hle3
 have rdT:=d.rT.le (Hp.le_trans d.le hle3)
 have hT:=ib.T
 have leh3:=Hp.le_trans le2 hle3
 have hlk:((A++z.toList).map Pp.key).length=(A++z.toList).length:=List.length_map _
 clear fp d ib hrd hb hgt
 obtain ⟨place,pcs,lbs,T⟩:=b
 cases T with
 | none =>
  have e0:entP none=[]:=rfl
  rw [e0,List.append_nil,hlk] at R
  conv=>whnf
  refine br_ (fun q3=>?_) fun q3=>?_
  ·rw [if_pos (by omega)] at R
   conv=>whnf
   exact R.err 0 4 h3 rfl
  ·rw [if_neg (by omega)] at R
   conv=>whnf
   exact R.ok _ _ _ _ _ (A++z.toList) h3 rfl leh3 rdO okO rfl (by omega) rdL
 | some t =>
  obtain ⟨⟨lev,it⟩,htl⟩:=hT t rfl
  have rr:=it.r1
  conv=>whnf
  refine rpgents_x true t it (.slice ta t.L.length tc) rdT (by omega) fun s4 h4 P2 le4 rd2 hP2 hk2=>?_
  obtain ⟨b4,c4,rfl,f4⟩:=pp_load aggPr sizPr rd2
  obtain ⟨src1,src2⟩:=pp_src f4
  have w4:=w.up le4
  have hP2l:P2.length=t.L.length:=by
   have:=congrArg List.length hk2
   rw [List.length_map,List.length_map,(ents_perm t).length_eq] at this
   exact this
  conv=>whnf
  refine appMany (z:=.agg #[ux 0,.slice none 0 0]) (news:=P2.flatMap Pp.cs) (by kernel_rfl) infPr (by kernel_rfl) (by kernel_rfl) (by kernel_rfl) rfl (bytes:=32) (by decide) rfl rfl rfl w4.g (lenPp P2) src1 src2 (csP_one fun p hp=>by obtain ⟨_,_,c,cp,rs,e,_⟩:=hP2 p hp;exact ⟨_,_,_,e⟩) (by omega) fun s5 h5 o5 g5 t5=>?_
  have hle5:=t5.le w4.le w4.nO
  have okA5:∀ p ∈ A++z.toList,PpB h5 p:=fun p hp=>((okO p hp).le le4).turn (by decide) w4.g t5
  have okP5:∀ p ∈ P2,PpB h5 p:=fun p hp=>(hP2 p hp).turn (by decide) w4.g t5
  have g5':Gr h5 prT 2 s5 ((A++z.toList)++P2).length (((A++z.toList)++P2).flatMap Pp.cs) o5:=by
   rw [List.length_append,List.flatMap_append];exact g5
  have rd5:=g5'.rdN (P:=Tryz.prog) (f:=Pp.cs) aggPr sizPr (fun _=>rfl)
  obtain ⟨sa5,sc5,rfl⟩:=g5.shape
  have e0:entP (some t)=P2.map Pp.key:=hk2.symm
  rw [e0] at R
  have elen:((A++z.toList).map Pp.key++P2.map Pp.key).length=(A++z.toList).length+P2.length:=by rw [List.length_append,List.length_map,List.length_map]
  rw [elen] at R
  conv=>whnf
  refine ov_by (show IntKind.u64.wrap ((t.root:Int).tdiv 4096)=((t.root / 4096:Nat):Int) from w64 (show t.root / 4096<2 ^ 64 by omega)) (cw_ ?_)
  refine ov_by (show IntKind.u64.wrap (9223372036854775808+((t.root / 4096:Nat):Int))=((9223372036854775808+t.root / 4096:Nat):Int) by rw [toU64];omega) ?_
  conv=>whnf
  refine br_ (fun q3=>?_) fun q3=>?_
  ·rw [if_pos (by omega)] at R
   conv=>whnf
   exact R.err 0 4 h5 rfl
  ·rw [if_neg (by omega)] at R
   conv=>whnf
   refine R.ok _ _ _ _ _ ((A++z.toList)++P2) h5 rfl (Hp.le_trans le2 (Hp.le_trans lk2 hle5.1)) rd5 (fun p hp=>?_) (List.map_append ..) (by rw [List.length_append];omega) ?_
   ·rcases List.mem_append.1 hp with hp | hp
    ·exact okA5 p hp
    ·exact okP5 p hp
   ·exact rdL2.le (Hp.le_trans lk2 hle5.1)
end
end Go.Proofs.YtdhkjcdneidgaaaGreatDoor
namespace Go.Proofs.YtdhkjcdneidgaaaGreatDoor
open Go Go.Mid Go.RowKit Go.Bits
abbrev rfXImLb0:Go.Mid.RF:=[(3,3),(39,3),(45,3),(52,3),(65,3),(78,3)]
attribute [local irreducible] mid
theorem readP_inv:∀ (L:List Str) {n m:Nat} {b c:Bd},BdI n b→readP b m L=.ok c→BdI (n+L.length) c
 | [],n,m,b,c,i,h=>by cases h;exact i
 | t :: r,n,m,b,c,i,h=>by
  rw [readP_step] at h
  cases hs:stepP b m t with
  | error e=>rw [hs] at h;cases h
  | ok d =>
   rw [hs] at h
   have:=readP_inv r (stepP_inv i hs) h
   rw [List.length_cons,show n+(r.length+1)=n+1+r.length by omega]
   exact this
theorem buildP_lbs {s:Str} {o:List (Nat×Str)} {l:List (Str×Nat)} {q:Nat} (h:buildP s=.ok (o,l,q)):l.length≤s.length+1∧∀ x ∈ l,x.2<2 ^ 64:=by
 unfold buildP at h
 cases hr:readP bd0 0 (linesA s) with
 | error e=>rw [hr] at h;cases h
 | ok b =>
  rw [hr] at h
  simp only at h
  have i:=readP_inv _ BdI.zero hr
  have hl:=linesA_len s
  cases hg:gathP b.lbs [] b.pcs with
  | error e=>rw [hg] at h;cases h
  | ok out =>
   rw [hg] at h
   simp only at h
   split at h
   ·cases h
   ·cases h
    exact ⟨by have:=i.nl;omega,i.L⟩
section
variable {h:Hp} {K:Value→Hp→Prop} {E:List PanicEntry→Hp→Prop}
theorem ibuilds_x (hmx:Mx h) (her:Er h) (hpw:Pow h) (s:Str) (hk:∀ h',h.le h'→K (.bool true) h'):XE Tryz.prog 3 #[sv s] h K E:=by
 refine fnu (args:=_) mixed rfXImLb0 [] [] [(999998,[2,3,12])] Tryz.func3 rfl (by kernel_rfl) (cw_ ?_)
 have hbz:(bs s).size=s.length:=bs_size s
 rw [hbz]
 refine br_ (fun q0=>?_) fun q0=>?_
 ·conv=>whnf
  refine ilive_x hmx her hpw fun h1 le1=>(cw_ ?_)
  exact hk h1 le1
 conv=>whnf
 refine ibuild_x hmx her hpw s (by omega) (fun n e h1 he le1=>?_) (fun o l q sP sL P h1 ho le1 rdP okP hkey hPl rdL=>?_)
 ·conv=>whnf
  refine X.frame (Hp.emp_le _) (rbuild_x s (by omega) (K:=fun v g=>v=.tuple #[.slice none 0 0,.slice none 0 0,ux 0,.int .i64 n,.int .i64 e]) ⟨(fun n2 e2 g hr=>by rw [he] at hr;cases hr;rfl),fun _ _ _ _ _ _ _ hr=>by rw [he] at hr;cases hr⟩) (fun v g h2 hv u=>?_)
  subst hv
  have le2:h1.le h2:=fun b o e=>u.kept b o e rfl
  conv=>whnf
  refine bf_ ?_
  refine bf_ ?_
  refine pgparts_x [] [] _ _ Rd.nil Rd.nil (fun p hp=>(by cases hp)) (fun p hp=>(by cases hp)) (by decide) ?_
  rw [decide_eq_true rfl]
  conv=>whnf
  refine loop_at [11] [3] (fun q vs cs h'=>h2=h'∧vs=[.v (.int .i64 0)]) 0 ⟨rfl,rfl⟩ ?_
  rintro q vs cs mm bx _ ⟨rfl,rfl⟩
  conv=>whnf
  refine ilive_x (hmx.le (Hp.le_trans le1 le2)) (her.le (Hp.le_trans le1 le2)) (hpw.le (Hp.le_trans le1 le2)) fun h3 le3=>(cw_ ?_)
  exact hk h3 (Hp.le_trans (Hp.le_trans le1 le2) le3)
 obtain ⟨hll,hl64⟩:=buildP_lbs ho
 obtain ⟨bl,cl,el,fl⟩:=id rdL
 rw [List.length_map] at el
 subst el
 obtain ⟨bp,cp,ep,_⟩:=id rdP
 rw [List.length_map] at ep
 subst ep
 conv=>whnf
 refine X.frame (Hp.emp_le _) (rbuild_x s (by omega) (K:=fun v g=>∃ (sQ sM:Value) (Q:List Pp),v=.tuple #[sQ,sM,ux q,.int .i64 0,.int .i64 0]∧Rd Tryz.prog 92 2 g sQ (Q.map Pp.v)∧(∀ p ∈ Q,PpB g p)∧Q.map Pp.key=o∧Rd Tryz.prog 38 2 g sM (l.map fun x=>.agg (lbC x).toArray)) ⟨(fun n2 e2 g hr=>by rw [ho] at hr;cases hr),fun o2 l2 q2 sQ sM Q g hr _ a1 a2 a3 _ a4=>by rw [ho] at hr;cases hr;exact ⟨sQ,sM,Q,rfl,a1,a2,a3,a4⟩⟩) (fun v g h2 hv u=>?_)
 obtain ⟨sQ,sM,Q,rfl,rdQ,okQ,keyQ,rdM⟩:=hv
 have le2:h1.le h2:=fun b o e=>u.kept b o e rfl
 have rdM:=rdM.le u.le
 obtain ⟨bm,cm,em,fm⟩:=id rdM
 rw [List.length_map] at em
 subst em
 obtain ⟨bq,cq,eq,_⟩:=id rdQ
 rw [List.length_map] at eq
 subst eq
 have le02:=Hp.le_trans le1 le2
 conv=>whnf
 refine bf_ ?_
 refine pgparts_x P Q _ _ (rdP.le le2) (rdQ.le u.le) (fun p hp=>((okP p hp).le le2).ok) (fun p hp=>((okQ p hp).le u.le).ok) (by omega) ?_
 rw [decide_eq_true (hkey.trans keyQ.symm)]
 conv=>whnf
 refine bf_ ?_
 refine loop_at [11] [3] (fun r vs cs h'=>h2=h'∧∃ i:Nat,i≤l.length∧r=l.length - i∧vs=[.v (.int .i64 i)]∧cs=[some [.slice bp P.length cp,.slice bl l.length cl,ux q]]) l.length ⟨rfl,0,by omega,by omega,rfl,rfl⟩ ?_
 rintro r vs cs mm bx _ ⟨rfl,i,hi,rfl,rfl,rfl⟩
 conv=>whnf
 refine br_ (fun q1=>?_) fun q1=>?_
 ·have hil:i<l.length:=by omega
  obtain ⟨x,hx⟩:∃ x,l[i]? = some x:=⟨_,List.getElem?_eq_getElem hil⟩
  obtain ⟨a1,rfl,e1⟩:=fl i _ (by rw [List.getElem?_map,hx];rfl)
  obtain ⟨a2,rfl,e2⟩:=fm i _ (by rw [List.getElem?_map,hx];rfl)
  have c1:∀ k v,(lbC x)[k]? = some v→h2.cell? ((a1.add (((i:Int)).toNat*2)).add k)=some v:=fun k v hv=>by
   rw [Int.toNat_natCast];exact cell_le le2 (loadH_cellOf (show isAggT Tryz.prog 37=some true by kernel_rfl) (show sizeT Tryz.prog 37=some 2 by kernel_rfl) e1 (by simpa using hv))
  have c2:∀ k v,(lbC x)[k]? = some v→h2.cell? ((a2.add (((i:Int)).toNat*2)).add k)=some v:=fun k v hv=>by
   rw [Int.toNat_natCast];exact loadH_cellOf (show isAggT Tryz.prog 38=some true by kernel_rfl) (show sizeT Tryz.prog 38=some 2 by kernel_rfl) e2 (by simpa using hv)
  conv=>whnf
  refine n_ ?_
  refine ⟨_,(loadH_cell aggSt _ _).trans (c1 0 _ rfl),cw_ ?_⟩
  refine n_ ?_
  refine ⟨_,(loadH_cell aggSt _ _).trans (c2 0 _ rfl),cw_ ?_⟩
  refine seq_true (rfl) (cw_ ?_)
  refine n_ ?_
  refine ⟨_,(loadH_cell aggU6 _ _).trans (c1 1 _ rfl),cw_ ?_⟩
  refine n_ ?_
  refine ⟨_,(loadH_cell aggU6 _ _).trans (c2 1 _ rfl),cw_ ?_⟩
  refine bf_ ?_
  refine n_ ?_
  exact ⟨l.length - (i+1),by omega,rfl,i+1,by omega,rfl,rfl,rfl⟩
 conv=>whnf
 refine ilive_x (hmx.le le02) (her.le le02) (hpw.le le02) fun h3 le3=>(cw_ ?_)
 exact hk h3 (Hp.le_trans le02 le3)
end
end Go.Proofs.YtdhkjcdneidgaaaGreatDoor
namespace Go.Proofs.YtdhkjcdneidgaaaGreatDoor
open Go Go.Mid Go.RowKit
attribute [local irreducible] mid
theorem errRow (u : TypeId) (h : Tryz.prog.typeName? 3 u = some "*errors.errorString") : u = 275 :=
 typeName_ptr_named (nm := "errors.errorString") (by rw [show "*" ++ "errors.errorString" = "*errors.errorString" by decide]; kernel_rfl) (by kernel_rfl) (by decide) u (by rw [show "*" ++ "errors.errorString" = "*errors.errorString" by decide]; exact h)
theorem sent_of {w : World} {l : List (String × DataW Unit)} {n : String} {g : Nat} {text : List UInt8} (hm : laidMetH Tryz.prog l w) (hl : l.filter (fun x => x.1 == n) = [(n, .iface "*errors.errorString" (.ptr (.agg [.lit (.string text)])))]) (hg : Tryz.prog.globalNamed n = some g) (ht : (Tryz.prog.globals[g]?).map (·.type) = some 200) : ∃ p, w.var? Tryz.prog n = some #[.iface 275 p] := by
 have h1:=laidMetH.filter (fun x=>x.1==n) hm
 rw [hl,MakeChecks.laidMetH_plain _ _ _ (by rfl)] at h1
 obtain ⟨a,s,h2,_⟩:=laid_sentinel h1 hg ht Tryz.underlying200 errRow Tryz.underlying275 Tryz.underlying277 rfl rfl Tryz.underlying9 (by kernel_rfl) (by kernel_rfl)
 exact ⟨_,h2⟩
theorem pow_of {w : World} {l : List (String × DataW Unit)} (hm : laidMetH Tryz.prog l w) (hl : l.filter (fun x => x.1 == "internal/strconv.uint64pow10") = [("internal/strconv.uint64pow10", Lib.tabData .u64 Lib.pow10Tab)]) : Pow (whole w) := by
 have h1 := laidMetH.filter (fun x => x.1 == "internal/strconv.uint64pow10") hm
 rw [hl,MakeChecks.laidMetH_plain _ _ _ (by decide +kernel)] at h1
 exact Pow.of (Lib.tabIs_of_head powG (t:=(Tryz.prog.globals[5]?.map (·.type)).getD 0) (e:=25) (n:=20) (by kernel_rfl) (by kernel_rfl) (by kernel_rfl) (by kernel_rfl) (by kernel_rfl) h1)
theorem er_of {w : World} {l : List (String × DataW Unit)} (hL : laidMetH Tryz.prog l w) (h1 : l.filter (fun x => x.1 == "strconv.ErrSyntax") = [("strconv.ErrSyntax", .iface "*errors.errorString" (.ptr (.agg [.lit (.string [105, 110, 118, 97, 108, 105, 100, 32, 115, 121, 110, 116, 97, 120])])))]) (h2 : l.filter (fun x => x.1 == "strconv.ErrRange") = [("strconv.ErrRange", .iface "*errors.errorString" (.ptr (.agg [.lit (.string [118, 97, 108, 117, 101, 32, 111, 117, 116, 32, 111, 102, 32, 114, 97, 110, 103, 101])])))]) : Er (whole w) := by
 obtain ⟨e1, g1⟩ := sent_of hL (n := "strconv.ErrSyntax") (g := 3) h1 (by kernel_rfl) (by kernel_rfl)
 obtain ⟨e2, g2⟩ := sent_of hL (n := "strconv.ErrRange") (g := 4) h2 (by kernel_rfl) (by kernel_rfl)
 exact Er.of g1 g2
theorem sstr_of {h:Hp} {cs:List Value} (w:Wf h .str cs):∃ s:ByteArray,cs=[.string s]:=by
 unfold Wf at w
 obtain ⟨s,e,_⟩:=w
 exact ⟨s,e⟩
end Go.Proofs.YtdhkjcdneidgaaaGreatDoor
namespace Go.Proofs.YtdhkjcdneidgaaaGreatDoor
open Go Go.Mid Go.RowKit Go.Bits
attribute [local irreducible] mid
section
variable {h:Hp}
theorem imageBuilds_w (w:World) (hsh:w.ShapedOpen Tryz.prog) (hL:laidMetH Tryz.prog Rows.imageBuildsRow.laid w) {cs0:List Value} (w0:Wf (whole w) .str cs0) (l0:cs0.length=Sh.n .str) :
  X Tryz.prog 3 #[Sh.v .str cs0] (whole w) fun v h'=>v=.bool true∧(whole w).le h':=by
 obtain ⟨b,rfl⟩:=sstr_of w0
 exact XE.noE (ibuilds_x (E:=fun _ _=>False) (Mx.of hsh) (er_of hL (by rfl) (by rfl)) (pow_of hL (by rfl)) b.data.toList fun h' hle=>⟨rfl,hle⟩)
end
end Go.Proofs.YtdhkjcdneidgaaaGreatDoor
