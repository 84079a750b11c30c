/-
  Sorting of heats: insertion.
-/
import Derived.Test.YtdhkjcdneidgaaaGreatDoorPgK
import Derived.Test.YtdhkjcdneidgaaaGreatDoorLinS
import Derived.Sort.AssemblyPlain
set_option linter.unusedSimpArgs false
set_option linter.unusedVariables false
set_option maxHeartbeats 8000000
set_option maxRecDepth 10000
set_option linter.unusedSimpArgs false
set_option linter.unusedVariables false
namespace Go.Proofs.YtdhkjcdneidgaaaGreatDoor
open Go Go.Mid Go.RowKit Go.Bits
attribute [local irreducible] mid
abbrev prT:TypeId:=92
def keyE (r:Nat) (e:TE):Nat×Str:=(atE r e,eightN e.p 8)
theorem lenPp:∀ L:List Pp,(L.flatMap Pp.cs).length=L.length*2
 | []=>rfl
 | e :: L=>by rw [List.flatMap_cons,List.length_append,lenPp L,List.length_cons];show 2+_=_;omega
theorem pop_perm {α:Type} (L:List α) (b:Nat) (x:α) (h:L[b]? = some x):L.Perm (x :: (L.take b++L.drop (b+1))):=by
 have hb:=(List.getElem?_eq_some_iff.1 h).1
 have e:L=L.take b++x :: L.drop (b+1):=by
  conv=>lhs;rw [← List.take_append_drop b L]
  rw [List.drop_eq_getElem_cons hb,(List.getElem?_eq_some_iff.1 h).2]
 conv=>lhs;rw [e]
 exact List.perm_middle
theorem pgAlsoN {P:Program} {t:TypeId} {n:Nat} (ht:isAggT P t=some true) (hn:sizeT P t=some n) {α:Type} {f:α→List Value} (hf:∀ x,(f x).length=n) {k h h':Hp} {el size m el2:Nat} {s sx:Value} {cs:List Value} {l:List α} (w:Owns k h el size s m cs) (x:Owns h h' el2 n sx l.length (l.flatMap f)) :
  ∃ k',k.le k'∧Owns k' h' el size s m cs∧Rd P t n k' sx (l.map fun x=>.agg (f x).toArray):=by
 have hle:=x.le
 obtain ⟨ob,⟨h1,⟨_,rfl,h0⟩ | ⟨b,cap,rest,e1,rfl,hcap,hrest,hb⟩⟩,_,hno⟩:=x
 ·obtain rfl:=List.eq_nil_of_length_eq_zero h0
  exact ⟨k,Hp.le_refl _,w.up hle,Rd.nil⟩
 ·have hnb:=hno b e1
  have hkb:k b=none:=Hp.none_le w.le hnb
  refine ⟨k.set b (rowO el2 (l.flatMap f++rest)),Hp.le_set' hkb,w.new hnb hle hb,⟨_,cap,by rw [List.length_map],fun i v hv=>⟨_,rfl,?_⟩⟩⟩
  rw [List.getElem?_map] at hv
  cases hx:l[i]? with
  | none=>rw [hx] at hv;cases hv
  | some x=>rw [hx] at hv;cases hv;exact loadH_agg ht hn hf (Hp.set_same _ _ _) hx
theorem ownsCap {k h:Hp} {el size n:Nat} {a:Option Addr} {m c:Nat} {cs:List Value} (w:Owns k h el size (.slice a m c) n cs):m≤c:=by
 obtain ⟨ob,⟨h1,⟨_,e,h0⟩ | ⟨b,cap,rest,e1,e,hcap,_⟩⟩,_⟩:=w
 ·cases e;exact Nat.le_refl _
 ·cases e;exact hcap
section
variable {h:Hp} {K:Value→Hp→Prop}
theorem infPr:Tryz.prog.info? 92=some Tryz.prog.types[92]:=by kernel_rfl
theorem rpgents_x (is:Bool) (t:Tb) {lev:Nat→Nat} (i:TInv t lev) (s:Value) (hr:Rd Tryz.prog enT 4 h s (t.L.map TE.v)) (hl:t.L.length≤2 ^ 20) (hk:∀ s' h' (P:List Pp),h.le h'→Rd Tryz.prog prT 2 h' s' (P.map Pp.v)→(∀ p ∈ P,PpB h' p)→P.map Pp.key=(entsL t).map (keyE t.root)→K s' h'):X Tryz.prog 17 #[rtV is t s] h K:=by
 obtain ⟨base,cap,rfl,fE⟩:=ent_load hr
 obtain ⟨src1,src2⟩:=ent_src fE
 have lim:∀ e ∈ t.L,e.frame<2 ^ 40∧e.place<2 ^ 40:=fun e he=>by have:=i.fr e he;have:=i.pl e he;have:=i.f2;exact ⟨by omega,by omega⟩
 have r1:=i.r1
 refine fnv (args:=_) mixed [(1,1),(9,1)] [] [31,46] Tryz.func17 rfl (by kernel_rfl) (cw_ ?_)
 refine new_intro (o:=rowO 108 []) (fun z0 h4 n_z0 le_z0 at_z0 ot_z0=>cw_ ?_)
 have hO0:Owns h h4 108 4 (.slice (some ⟨z0,0,none⟩) 0 0) 0 []:=⟨some z0,⟨rfl,.inr ⟨z0,0,[],rfl,rfl,Nat.le_refl _,rfl,at_z0⟩⟩,le_z0,fun c e=>by cases e;exact n_z0⟩
 refine Owns.appN (z:=TE.v ⟨0,0,0,some 0⟩) (news:=t.L.flatMap TE.cs) (bytes:=32) (by kernel_rfl) infEn (by kernel_rfl) (by kernel_rfl) (by kernel_rfl) rfl (by decide) rfl rfl rfl hO0 (lenE _) (fun j v hj=>(src1 j v hj).imp fun a ha=>⟨ha.1,cell_le le_z0 ha.2⟩) src2 (csE_one _) (by omega) fun s3 h5 hO5=>?_
 rw [Nat.zero_add,List.nil_append] at hO5
 have hO5:Owns h h5 enT 4 s3 t.L.length (t.L.flatMap TE.cs):=hO5
 obtain ⟨sa3,sc3,rfl⟩:=hO5.shape
 conv=>whnf
 refine loop_at [4,3] [1] (fun q vs cs h'=>cs=[some [.bool is,ux t.root,.int .i64 t.frames,.slice base t.L.length cap]]∧∃ (Lf o:List TE) (P:List Pp) (k:Hp) (sl so:Value),q=Lf.length∧vs=[.v sl,.v so]∧Rd Tryz.prog enT 4 k sl (Lf.map TE.v)∧(∀ a m c,sl=.slice a m c→m≤c)∧(o++Lf).Perm t.L∧(o.Pairwise fun a b=>atE t.root a≤atE t.root b)∧(∀ x ∈ o,∀ y ∈ Lf,atE t.root x≤atE t.root y)∧h.le k∧(∀ p ∈ P,PpB k p)∧P.map Pp.key=o.map (keyE t.root)∧Owns k h' prT 2 so P.length (P.flatMap Pp.cs)) t.L.length ⟨rfl,t.L,[],[],h5,_,_,rfl,rfl,ownsE hO5,fun a m c e=>(by cases e;exact ownsCap hO5),List.Perm.refl _,List.Pairwise.nil,fun x hx=>(by cases hx),hO5.le,fun p hp=>(by cases hp),rfl,Owns.nil (Hp.le_refl _)⟩ ?_
 rintro q vs cs mm bx h6 ⟨rfl,Lf,o,P,k,sl,so,rfl,rfl,rd6,hcp,hpm,hpw,hlt,lek,hP,hkey,hO⟩
 obtain ⟨b6,c6,rfl,f6⟩:=ent_load rd6
 have lek6:=hO.le
 have hcp:=hcp _ _ _ rfl
 obtain ⟨so1,so2,rfl⟩:=hO.shape
 have hpl:P.length=o.length:=by have:=congrArg List.length hkey;simpa using this
 have hol:o.length+Lf.length=t.L.length:=by have:=hpm.length_eq;simpa using this
 have limL:∀ (j:Nat) (e:TE),Lf[j]? = some e→e ∈ t.L:=fun j e he=>hpm.mem_iff.1 (List.mem_append.2 (.inr (List.mem_of_getElem? he)))
 have ldE:∀ (j:Nat) (e:TE),Lf[j]? = some e→∃ a,b6=some a∧loadH Tryz.prog enT h6 (a.add (((j:Int)).toNat*4))=some e.v:=fun j e he=>by
  obtain ⟨b7,c7,e7,f7⟩:=rd6.le lek6
  rw [List.length_map] at e7
  cases e7
  rw [Int.toNat_natCast]
  exact f7 j e.v (by rw [List.getElem?_map,he];rfl)
 conv=>whnf
 refine br_ (fun q1=>?_) fun q1=>?_
 ·conv=>whnf
  have hb0:∀ (j:Nat) (x y:TE),j<1→Lf[j]? = some x→Lf[0]? = some y→atE t.root y≤atE t.root x:=fun j x y hj hx hy=>by
   obtain rfl:j=0:=by omega
   rw [hx] at hy;cases hy;exact Nat.le_refl _
  refine loop_at [6,5] [1] (fun q vs cs h'=>h6=h'∧cs=[some [.bool is,ux t.root,.int .i64 t.frames,.slice base t.L.length cap]]∧∃ (n b:Nat),1≤n∧n≤Lf.length∧b<n∧q=Lf.length - 1 - (n - 1)∧vs=[.v (.int .i64 n),.v (.int .i64 b)]∧∀ (j:Nat) (x y:TE),j<n→Lf[j]? = some x→Lf[b]? = some y→atE t.root y≤atE t.root x) (Lf.length - 1) ⟨rfl,rfl,1,0,by omega,by omega,by omega,by omega,rfl,hb0⟩ ?_
  rintro q vs cs mm bx _ ⟨rfl,rfl,n,b,hn1,hn2,hbn,rfl,rfl,hbest⟩
  have hbL:b<Lf.length:=by omega
  obtain ⟨y,hy⟩:∃ y,Lf[b]? = some y:=⟨_,List.getElem?_eq_getElem hbL⟩
  have hyt:=limL b y hy
  obtain ⟨ay,ey,ly⟩:=ldE b y hy
  cases ey
  conv=>whnf
  refine br_ (fun q2=>?_) fun q2=>?_
  ·obtain ⟨x,hx⟩:∃ x,Lf[n]? = some x:=⟨_,List.getElem?_eq_getElem (by omega)⟩
   have hxt:=limL n x hx
   obtain ⟨ax,ex,lx⟩:=ldE n x hx
   cases ex
   conv=>whnf
   refine ⟨fun z=>z=h6,rfl,cw_ ?_⟩
   refine n_ ?_
   refine ⟨_,lx,cw_ ?_⟩
   refine rat_x is t _ r1 x (lim x hxt).1 (lim x hxt).2 ⟨_,_,_,rfl⟩ ?_
   refine ⟨rfl,cw_ ?_⟩
   refine n_ ?_
   refine ⟨_,fun _ e=>by rw [e];exact ly,?_⟩
   conv=>whnf
   refine rat_x is t _ r1 y (lim y hyt).1 (lim y hyt).2 ⟨_,_,_,rfl⟩ ?_
   refine ⟨rfl,cw_ ?_⟩
   refine br_ (fun q3=>?_) fun q3=>?_
   ·conv=>whnf
    refine n_ ?_
    refine ⟨Lf.length - 1 - (n+1 - 1),by omega,rfl,rfl,n+1,n,by omega,by omega,by omega,by omega,rfl,fun j x2 y2 hj hx2 hy2=>?_⟩
    rw [hx] at hy2;cases hy2
    by_cases e:j=n
    ·subst e;rw [hx] at hx2;cases hx2;exact Nat.le_refl _
    ·have:=hbest j x2 y (by omega) hx2 hy
     omega
   ·conv=>whnf
    refine n_ ?_
    refine ⟨Lf.length - 1 - (n+1 - 1),by omega,rfl,rfl,n+1,b,by omega,by omega,by omega,by omega,rfl,fun j x2 y2 hj hx2 hy2=>?_⟩
    rw [hy] at hy2;cases hy2
    by_cases e:j=n
    ·subst e;rw [hx] at hx2;cases hx2;omega
    ·exact hbest j x2 y (by omega) hx2 hy
  ·have cyk:k.cell? ((ay.add (((b:Int)).toNat*4)).add 2)=some (ux y.p):=by rw [Int.toNat_natCast];obtain ⟨a',ea,ca⟩:=f6 b y hy;cases ea;exact ca 2 _ rfl
   have cy:=cell_le lek6 cyk
   conv=>whnf
   refine ⟨fun z=>z.cell? ((ay.add (((b:Int)).toNat*4)).add 2)=some (ux y.p),fun _ _ hc hle=>cell_le hle hc,cy,cw_ ?_⟩
   refine n_ ?_
   refine ⟨_,ly,cw_ ?_⟩
   refine rat_x is t _ r1 y (lim y hyt).1 (lim y hyt).2 ⟨_,_,_,rfl⟩ ?_
   refine ⟨cy,cw_ ?_⟩
   refine n_ ?_
   refine ⟨_,fun _ e=>(loadH_cell aggU6 _ _).trans e,cw_ ?_⟩
   refine reight_x y.p 8 (i.p64 y hyt) (by decide) fun s8 h8 hO8=>?_
   obtain ⟨b8,sc8,rest8,rfl,hc8,row8,n8⟩:=hO8.row (by decide)
   have kb8:k b8=none:=Hp.none_le lek6 n8
   have hOk:=hO.new n8 hO8.le row8
   have lk8:k.le (k.set b8 (rowO 5 ((eightN y.p 8).map byV++rest8))):=Hp.le_set' kb8
   have rd8:(k.set b8 (rowO 5 ((eightN y.p 8).map byV++rest8))) b8=some (rowO 5 ((eightN y.p 8).map byV++rest8)):=Hp.set_same _ _ _
   generalize k.set b8 (rowO 5 ((eightN y.p 8).map byV++rest8))=k8 at *
   refine ⟨cell_le hO8.le cy,cw_ ?_⟩
   refine new_intro (o:=rowO 92 [ux (atE t.root y),.slice (some ⟨b8,0,none⟩) 8 sc8]) (fun z9 h9 n_z9 le_z9 at_z9 ot_z9=>cw_ ?_)
   refine Owns.app1 (z:=.agg #[ux 0,.slice none 0 0]) (by kernel_rfl) infPr (by kernel_rfl) (by kernel_rfl) (by kernel_rfl) rfl (bytes:=32) (by decide) rfl rfl rfl (hOk.up le_z9) at_z9 rfl rfl (by omega) fun sA hA hOA=>?_
   obtain ⟨P2,hP2⟩:∃ P2:List Pp,P2=P++[⟨atE t.root y,.slice (some ⟨b8,0,none⟩) 8 sc8,eightN y.p 8⟩]:=⟨_,rfl⟩
   have hOA:Owns k8 hA prT 2 sA P2.length (P2.flatMap Pp.cs):=by
    rw [hP2,List.length_append,List.flatMap_append]
    exact hOA
   have lekA:k.le hA:=Hp.le_trans lk8 hOA.le
   obtain ⟨saA,scA,rfl⟩:=hOA.shape
   refine ⟨cell_le lekA cyk,?_⟩
   obtain ⟨src1,src2⟩:=ent_src f6
   have t1:∀ j v,((Lf.take b).flatMap TE.cs)[j]? = some v→∃ a,(some ay:Option Addr)=some a∧k.cell? (a.add j)=some v:=fun j v hj=>by
    refine src1 j v ?_
    have e:Lf.flatMap TE.cs=(Lf.take b).flatMap TE.cs++(Lf.drop b).flatMap TE.cs:=by rw [← List.flatMap_append,List.take_append_drop]
    rw [e,List.getElem?_append_left (List.getElem?_eq_some_iff.1 hj).1]
    exact hj
   have t2:∀ j v,((Lf.drop (b+1)).flatMap TE.cs)[j]? = some v→k.cell? (ay.add ((b+1)*4+j))=some v:=fun j v hj=>by
    have e:Lf.flatMap TE.cs=(Lf.take (b+1)).flatMap TE.cs++(Lf.drop (b+1)).flatMap TE.cs:=by rw [← List.flatMap_append,List.take_append_drop]
    have el:((Lf.take (b+1)).flatMap TE.cs).length=(b+1)*4:=by rw [lenE,List.length_take,Nat.min_eq_left (by omega)]
    obtain ⟨a,ea,ca⟩:=src1 ((b+1)*4+j) v (by rw [e,List.getElem?_append_right (by omega),el,Nat.add_sub_cancel_left];exact hj)
    cases ea
    exact ca
   clear src1 src2
   conv=>whnf
   refine new_intro (o:=rowO 108 []) (fun zB hB n_zB le_zB at_zB ot_zB=>cw_ ?_)
   have hB0:Owns hA hB 108 4 (.slice (some ⟨zB,0,none⟩) 0 0) 0 []:=⟨some zB,⟨rfl,.inr ⟨zB,0,[],rfl,rfl,Nat.le_refl _,rfl,at_zB⟩⟩,le_zB,fun c e=>by cases e;exact n_zB⟩
   conv=>whnf
   refine bt_ ?_
   refine bf_ ?_
   have lekB:=Hp.le_trans lekA le_zB
   refine Owns.appN (z:=TE.v ⟨0,0,0,some 0⟩) (news:=(Lf.take b).flatMap TE.cs) (base:=some (ay.add (0*4))) (m:=b) (bytes:=32) (by kernel_rfl) infEn (by kernel_rfl) (by kernel_rfl) (by kernel_rfl) rfl (by decide) rfl rfl rfl hB0 (by rw [lenE,List.length_take,Nat.min_eq_left (by omega)];rfl) (fun j v hj=>⟨_,rfl,by obtain ⟨a,ea,ca⟩:=t1 j v hj;cases ea;rw [add_add,Nat.zero_mul,Nat.zero_add];exact cell_le lekB ca⟩) (fun e=>by cases e) (csE_one _) (by omega) fun sC hC hOC=>?_
   rw [Nat.zero_add,List.nil_append] at hOC
   have hOC:Owns hA hC enT 4 sC b ((Lf.take b).flatMap TE.cs):=hOC
   obtain ⟨saC,scC,rfl⟩:=hOC.shape
   have lekC:=Hp.le_trans lekA hOC.le
   conv=>whnf
   refine n_ ?_
   rw [show (b:Int)+1=((b+1:Nat):Int) by omega]
   conv=>whnf
   refine bt_ ?_
   have hLn:(Lf.take b++Lf.drop (b+1)).length=b+(Lf.length - (b+1)):=by rw [List.length_append,List.length_take,List.length_drop,Nat.min_eq_left (by omega)]
   have hpop:=pop_perm Lf b y hy
   have hsub:∀ x,x ∈ Lf.take b++Lf.drop (b+1)→x ∈ Lf:=fun x hx=>hpop.mem_iff.2 (List.mem_cons_of_mem _ hx)
   have hbest2:∀ x ∈ Lf,atE t.root y≤atE t.root x:=fun x hx=>by
    obtain ⟨j,hj,e⟩:=List.getElem_of_mem hx
    exact hbest j x y (by omega) (by rw [← e];exact List.getElem?_eq_getElem hj) hy
   have hnew:∀ sD hD,Owns hA hD enT 4 sD (b+(Lf.length - (b+1))) ((Lf.take b).flatMap TE.cs++(Lf.drop (b+1)).flatMap TE.cs)→∃ (Lf' o':List TE) (P':List Pp) (k':Hp),Lf'.length<Lf.length∧Rd Tryz.prog enT 4 k' sD (Lf'.map TE.v)∧(∀ a m c,sD=.slice a m c→m≤c)∧(o'++Lf').Perm t.L∧(o'.Pairwise fun a b=>atE t.root a≤atE t.root b)∧(∀ x ∈ o',∀ y ∈ Lf',atE t.root x≤atE t.root y)∧h.le k'∧(∀ p ∈ P',PpB k' p)∧P'.map Pp.key=o'.map (keyE t.root)∧Owns k' hD prT 2 (.slice saA P2.length scA) P'.length (P'.flatMap Pp.cs):=fun sD hD hOD=>by
    have hOD:Owns hA hD enT 4 sD (Lf.take b++Lf.drop (b+1)).length ((Lf.take b++Lf.drop (b+1)).flatMap TE.cs):=by rw [hLn,List.flatMap_append];exact hOD
    obtain ⟨k',lk',hOk',rd'⟩:=pgAlsoN aggEn sizEn (f:=TE.cs) (fun _=>rfl) hOA hOD
    refine ⟨_,o++[y],P2,k',by rw [hLn];omega,rd',fun a m c e=>by subst e;exact (ownsCap hOD),?_,?_,?_,Hp.le_trans lek (Hp.le_trans lk8 lk'),?_,?_,hOk'⟩
    ·rw [List.append_assoc]
     exact (List.Perm.append_left o hpop.symm).trans hpm
    ·refine List.pairwise_append.2 ⟨hpw,by simp,fun x hx z hz=>?_⟩
     rw [List.mem_singleton.1 hz]
     exact hlt x hx y (List.mem_of_getElem? hy)
    ·intro x hx z hz
     rcases List.mem_append.1 hx with hx | hx
     ·exact hlt x hx z (hsub z hz)
     ·rw [List.mem_singleton.1 hx];exact hbest2 z (hsub z hz)
    ·intro p hp
     rw [hP2] at hp
     rcases List.mem_append.1 hp with hp | hp
     ·exact (hP p hp).le (Hp.le_trans lk8 lk')
     ·rw [List.mem_singleton.1 hp]
      refine ⟨show atE t.root y<2 ^ 64 from Nat.mod_lt _ (by decide),by show (eightN y.p 8).length≤_;rw [eight_len];decide,b8,sc8,rest8,by show _=Value.slice _ (eightN y.p 8).length _;rw [eight_len],lk' _ _ rd8⟩
    ·rw [hP2,List.map_append,List.map_append,hkey];rfl
   refine br_ (fun q9=>?_) fun q9=>?_
   ·refine Owns.appN (z:=TE.v ⟨0,0,0,some 0⟩) (news:=(Lf.drop (b+1)).flatMap TE.cs) (base:=some ay) (m:=Lf.length - (b+1)) (bytes:=32) (by kernel_rfl) infEn (by kernel_rfl) (by kernel_rfl) (by kernel_rfl) rfl (by decide) rfl rfl rfl hOC (by rw [lenE,List.length_drop];rfl) (fun j v hj=>by rw [List.drop_eq_nil_of_le (by omega)] at hj;simp at hj) (fun e=>by cases e) (csE_one _) (by omega) fun sD hD hOD=>?_
    obtain ⟨Lf',o',P',k',g1,g2,g3,g4,g5,g6,g7,g8,g9,g10⟩:=hnew sD hD hOD
    obtain ⟨sd,sd1,rfl⟩:=hOD.shape
    conv=>whnf
    exact ⟨_,g1,rfl,Lf',o',P',k',_,_,rfl,rfl,g2,g3,g4,g5,g6,g7,g8,g9,g10⟩
   ·refine Owns.appN (z:=TE.v ⟨0,0,0,some 0⟩) (news:=(Lf.drop (b+1)).flatMap TE.cs) (base:=some (ay.add ((b+1)*4))) (m:=Lf.length - (b+1)) (bytes:=32) (by kernel_rfl) infEn (by kernel_rfl) (by kernel_rfl) (by kernel_rfl) rfl (by decide) rfl rfl rfl hOC (by rw [lenE,List.length_drop];rfl) (fun j v hj=>⟨_,rfl,by rw [add_add];exact cell_le lekC (t2 j v hj)⟩) (fun e=>by cases e) (csE_one _) (by omega) fun sD hD hOD=>?_
    obtain ⟨Lf',o',P',k',g1,g2,g3,g4,g5,g6,g7,g8,g9,g10⟩:=hnew sD hD hOD
    obtain ⟨sd,sd1,rfl⟩:=hOD.shape
    conv=>whnf
    exact ⟨_,g1,rfl,Lf',o',P',k',_,_,rfl,rfl,g2,g3,g4,g5,g6,g7,g8,g9,g10⟩
 ·obtain rfl:Lf=[]:=List.eq_nil_of_length_eq_zero (by omega)
  rw [List.append_nil] at hpm
  have e:=ents_only i hl hpm hpw
  subst e
  conv=>whnf
  refine hk _ _ P (Hp.le_trans lek hO.le) ?_ (fun p hp=>(hP p hp).le hO.le) hkey
  obtain ⟨ob,g,_,_⟩:=hO
  exact g.rdN (f:=Pp.cs) aggPr sizPr (fun _=>rfl)
end
end Go.Proofs.YtdhkjcdneidgaaaGreatDoor
namespace Go.Mid
open Go Go.RowKit
open Go.Sort (swp)
section
variable {α:Type} [Inhabited α]
def RowD (el:TypeId) (enc:α→List Value) (d:Array α) (rest:List Value):Obj:=rowO el (d.toList.flatMap enc++rest)
theorem arr_at (d:Array α) {j:Nat} (hj:j<d.size):d.toList[j]? = some d[j]! := by
 rw [Array.getElem?_toList,Array.getElem?_eq_getElem hj,getElem!_pos d j hj]
theorem loadR {P:Program} {t el:TypeId} {n:Nat} {enc:α→List Value} (ht:isAggT P t=some true) (hn:sizeT P t=some n) (hf:∀ x,(enc x).length=n) {h:Hp} {b:Nat} {d:Array α} {rest:List Value} (hb:h b=some (RowD el enc d rest)) {i:Int} (j:Nat) (e:i=j) (hj:j<d.size) :
  loadH P t h ((⟨b,0,none⟩:Addr).add (i.toNat*n))=some (.agg (enc d[j]!).toArray):=by
 subst e
 rw [Int.toNat_natCast]
 exact loadH_agg ht hn hf hb (arr_at d hj)
omit [Inhabited α] in
theorem flat_split {enc:α→List Value} {n:Nat} (hf:∀ x,(enc x).length=n) (l:List α) (j:Nat) (hj:j<l.length) (x:α):∃ A y B,l.flatMap enc=A++(y++B)∧A.length=j*n∧y.length=n∧(l.set j x).flatMap enc=A++(enc x++B):=by
 refine ⟨(l.take j).flatMap enc,enc l[j],(l.drop (j+1)).flatMap enc,?_,?_,hf _,?_⟩
 ·conv=>lhs;rw [← List.take_append_drop j l,List.drop_eq_getElem_cons hj]
  rw [List.flatMap_append,List.flatMap_cons]
 ·rw [flat_length hf,List.length_take,Nat.min_eq_left (Nat.le_of_lt hj)]
 ·rw [List.set_eq_take_append_cons_drop,if_pos hj,List.flatMap_append,List.flatMap_cons]
omit [Inhabited α] in
theorem storeR {P:Program} {t el:TypeId} {n:Nat} {enc:α→List Value} (hn:sizeT P t=some n) (hf:∀ x,(enc x).length=n) (h1:∀ x,(enc x).all Value.oneCell'=true) {h:Hp} {b:Nat} {d:Array α} {rest:List Value} (hb:h b=some (RowD el enc d rest)) {i:Int} (j:Nat) (e:i=j) (hj:j<d.size) (x:α) :
  storeH P t h ((⟨b,0,none⟩:Addr).add (i.toNat*n)) (.agg (enc x).toArray)=some (b,RowD el enc (d.setIfInBounds j x) rest):=by
 subst e
 rw [Int.toNat_natCast]
 obtain ⟨A,y,B,e1,e2,e3,e4⟩:=flat_split hf d.toList j (by simpa using hj) x
 have hz:(Value.agg (enc x).toArray).cells.toList=enc x:=rfl
 have hb':h b=some (rowO el (A++(y++(B++rest)))):=by rw [hb];unfold RowD;rw [e1];simp only [List.append_assoc]
 have:=storeH_at (i:=j) (z:=.agg (enc x).toArray) hn hb' e2 e3 (by rw [hz];exact hf x) (by rw [hz];exact h1 x)
 rw [this,hz]
 unfold RowD
 rw [Array.toList_setIfInBounds,e4]
 simp only [List.append_assoc]
theorem swp_size (d:Array α) (i j:Nat):(swp d i j).size=d.size:=by simp [swp]
def CmpX (P:Program) (y:Value) (enc:α→List Value) (lt:α→α→Bool):Prop :=
 ∀ (x z:α) (h:Hp) (K:Value→Hp→Prop),(∀ c:Int,decide (c<0)=lt x z→K (.int .i64 c) h)→YV P y [.agg (enc x).toArray,.agg (enc z).toArray] h K
omit [Inhabited α] in
theorem setIf_size (d:Array α) (j:Nat) (x:α):(d.setIfInBounds j x).size=d.size:=by simp
end
end Go.Mid
namespace Go.Proofs.YtdhkjcdneidgaaaGreatDoor
open Go Go.Mid Go.RowKit
open Go.Sort (swp insInner insOuter insertionSort)
attribute [local irreducible] mid
section
variable {h:Hp} {K:Value→Hp→Prop}
variable {α:Type} [Inhabited α]
theorem aggE1:isAggT Tryz.prog 62=some true:=by kernel_rfl
theorem sizE1:sizeT Tryz.prog 62=some 2:=by kernel_rfl
structure Srt1 (enc:α→List Value) (lt:α→α→Bool) (y:Value):Prop where
 len:∀ x,(enc x).length=2
 one:∀ x,(enc x).all Value.oneCell'=true
 cmp:CmpX Tryz.prog y enc lt
variable {enc:α→List Value} {lt:α→α→Bool} {y:Value}
theorem insInner_end (a:Nat) (d:Array α):insInner lt a a d=d:=by
 cases a with
 | zero=>rfl
 | succ a=>unfold insInner;rw [if_neg (by simp)]
theorem insertionE_x (S:Srt1 enc lt y) {b cap n:Nat} {d:Array α} {rest:List Value} (lo hi:Nat) (hb:h b=some (RowD 62 enc d rest)) (hd:d.size=n) (hsz:n<2 ^ 30) (hcap:n≤cap) (hlh:lo≤hi) (hhi:hi≤n)
  (hk:∀ h',h' b=some (RowD 62 enc (insertionSort lt d lo hi) rest)→(∀ c,c≠b→h' c=h c)→K (.tuple #[]) h'):X Tryz.prog 91 #[.slice (some ⟨b,0,none⟩) n cap,.int .i64 lo,.int .i64 hi,y] h K:=by
 refine fnv (args:=_) mixed [] [] [] Tryz.func91 rfl (by kernel_rfl) (cw_ ?_)
 refine n_ ?_
 refine loop_at [8] [] (fun r vs _ h'=>∃ (i:Nat) (d':Array α),r=hi - i∧vs=[.v (.int .i64 i)]∧lo+1≤i∧d'.size=n∧insOuter lt lo hi i d'=insertionSort lt d lo hi∧h' b=some (RowD 62 enc d' rest)∧∀ c,c≠b→h' c=h c) (hi - (lo+1)) ⟨lo+1,d,rfl,rfl,by omega,hd,rfl,hb,fun _ _=>rfl⟩ ?_
 rintro r vs cs mm bx h1 ⟨i,d1,rfl,rfl,i1,s1,e1,hb1,ho1⟩
 conv=>whnf
 refine br_ (fun q1=>?_) fun q1=>?_
 ·rw [insOuter,if_pos (by omega)] at e1
  conv=>whnf
  refine loop_at [9] [] (fun r vs _ h'=>∃ (j:Nat) (d':Array α),r=j∧vs=[.v (.int .i64 j)]∧lo≤j∧j≤i∧d'.size=n∧insInner lt lo j d'=insInner lt lo i d1∧h' b=some (RowD 62 enc d' rest)∧∀ c,c≠b→h' c=h c) i ⟨i,d1,rfl,rfl,by omega,Nat.le_refl _,s1,rfl,hb1,ho1⟩ ?_
  rintro j vs cs mm2 bx2 h2 ⟨_,d2,rfl,rfl,j1,j2,s2,e2,hb2,ho2⟩
  conv=>whnf
  refine br_ (fun q2=>?_) fun q2=>?_
  ·obtain ⟨j',rfl⟩:∃ j',j=j'+1:=⟨j - 1,by omega⟩
   rw [insInner] at e2
   conv=>whnf
   refine n_ ?_
   refine ⟨_,loadR aggE1 sizE1 S.len hb2 (j'+1) (by omega) (by omega),cw_ ?_⟩
   refine n_ ?_
   refine n_ ?_
   refine ⟨_,loadR aggE1 sizE1 S.len hb2 j' (by omega) (by omega),cw_ ?_⟩
   refine aRunK_yv rfl rfl rfl (S.cmp _ _ _ _ fun c ec=>?_)
   refine ⟨trivial,cw_ ?_⟩
   refine br_ (fun q3=>?_) fun q3=>?_
   ·rw [decide_eq_true q3] at ec
    rw [if_pos (by rw [← ec];simp;omega)] at e2
    conv=>whnf
    refine n_ ?_
    refine n_ ?_
    refine n_ ?_
    refine ⟨_,loadR aggE1 sizE1 S.len hb2 j' (by omega) (by omega),cw_ ?_⟩
    refine n_ ?_
    refine ⟨_,loadR aggE1 sizE1 S.len hb2 (j'+1) (by omega) (by omega),cw_ ?_⟩
    refine n_ ?_
    refine wr_intro (by exact storeR sizE1 S.len S.one hb2 (j'+1) (by omega) (by omega) d2[j']!) (fun h3 at_h3 ot_h3=>cw_ ?_)
    refine ⟨trivial,cw_ ?_⟩
    refine n_ ?_
    refine wr_intro (by exact storeR sizE1 S.len S.one at_h3 j' (by omega) (by rw [setIf_size];omega) d2[j'+1]!) (fun h4 at_h4 ot_h4=>cw_ ?_)
    refine ⟨trivial,cw_ ?_⟩
    refine n_ ?_
    refine ⟨j',by omega,j',swp d2 (j'+1) j',rfl,?_,by omega,by omega,by rw [swp_size];exact s2,e2,at_h4,fun c hc=>by rw [ot_h4 c hc,ot_h3 c hc];exact ho2 c hc⟩
    show [MV.v (Value.int .i64 (((j'+1:Nat):Int) - 1))]=_
    rw [show ((j'+1:Nat):Int) - 1=(j':Int) by omega]
   ·rw [decide_eq_false q3] at ec
    rw [if_neg (by rw [← ec];simp)] at e2
    have hend:insInner lt lo i d1=d2:=e2.symm
    have e2:d2=d2:=rfl
    conv=>whnf
    refine n_ ?_
    exact ⟨hi - (i+1),by omega,i+1,d2,rfl,rfl,by omega,s2,by rw [← e1,← e2,hend],hb2,ho2⟩
  ·have ej:j=lo:=by omega
   rw [ej,insInner_end] at e2
   have hend:insInner lt lo i d1=d2:=e2.symm
   have e2:d2=d2:=rfl
   conv=>whnf
   refine n_ ?_
   exact ⟨hi - (i+1),by omega,i+1,d2,rfl,rfl,by omega,s2,by rw [← e1,← e2,hend],hb2,ho2⟩
 ·rw [insOuter,if_neg (by omega)] at e1
  subst e1
  conv=>whnf
  exact hk _ hb1 ho1
end
end Go.Proofs.YtdhkjcdneidgaaaGreatDoor
