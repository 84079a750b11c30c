/-
  Pages: a word's bytes, the program's.
-/
import Derived.Test.YtdhkjcdneidgaaaGreatDoorPgG
set_option linter.unusedSimpArgs false
set_option linter.unusedVariables false
set_option maxHeartbeats 8000000
set_option maxRecDepth 10000
set_option linter.unusedSimpArgs false
set_option linter.unusedVariables false
namespace Go.Proofs.YtdhkjcdneidgaaaGreatDoor
open Go Go.Mid Go.RowKit Go.Bits
abbrev rfXPgH0:Go.Mid.RF:=[(5,5),(56,5),(58,5),(60,5),(63,5),(10,10),(13,13),(80,13),(86,13),(89,13),(94,13),(99,13),(100,13),(103,13),(104,13),(108,13),(116,13),(130,13),(143,13)]
attribute [local irreducible] mid
theorem flatE_at:∀ (L:List TE) (j:Nat) (v:Value),(L.flatMap TE.cs)[j]? = some v→∃ i e k,L[i]? = some e∧e.cs[k]? = some v∧j=i*4+k
 | [],j,v,h=>by simp at h
 | e :: L,j,v,h=>by
  rw [List.flatMap_cons] at h
  rcases Nat.lt_or_ge j 4 with h1 | h1
  ·rw [List.getElem?_append_left (show j<e.cs.length from h1)] at h
   exact ⟨0,e,j,rfl,h,by omega⟩
  ·rw [List.getElem?_append_right (show e.cs.length≤j from h1)] at h
   obtain ⟨i,x,k,a,b,c⟩:=flatE_at L (j - e.cs.length) v h
   have e4:e.cs.length=4:=rfl
   exact ⟨i+1,x,k,by simpa using a,b,by omega⟩
theorem add_add (a:Addr) (m n:Nat):(a.add m).add n=a.add (m+n):=by
 unfold Addr.add
 by_cases h1:m=0
 ·subst h1;simp
 ·by_cases h2:n=0
  ·subst h2;simp
  ·rw [if_neg h1,if_neg h2,if_neg (by omega)]
   simp [Nat.add_assoc]
theorem ownsE {k h:Hp} {s:Value} {L:List TE} (w:Owns k h enT 4 s L.length (L.flatMap TE.cs)):Rd Tryz.prog enT 4 h s (L.map TE.v):=by
 obtain ⟨ob,g,_,_⟩:=w
 exact g.rdN (f:=TE.cs) aggEn sizEn (fun _=>rfl)
theorem csE_one:∀ L:List TE,(L.flatMap TE.cs).all Value.oneCell'=true
 | []=>rfl
 | e :: L=>by rw [List.flatMap_cons,List.all_append,csE_one L];rfl
theorem lenE:∀ L:List TE,(L.flatMap TE.cs).length=L.length*4
 | []=>rfl
 | e :: L=>by rw [List.flatMap_cons,List.length_append,lenE L,List.length_cons];show 4+_=_;omega
theorem idxE_lt:∀ (L:List TE) (f q j:Nat),idxE L f q=some j→j<L.length:=fun L=>by
 induction L with
 | nil=>intro f q j hh;cases hh
 | cons x L ih =>
  intro f q j hh
  unfold idxE at hh
  split at hh
  ·cases hh;simp
  ·cases hx:idxE L f q with
   | none=>rw [hx] at hh;cases hh
   | some k=>rw [hx] at hh;cases hh;have:=ih f q k hx;simp;omega
section
variable {h:Hp} {K:Value→Hp→Prop}
theorem infEn:Tryz.prog.info? 108=some Tryz.prog.types[108]:=by kernel_rfl
theorem ent_src {base:Option Addr} {L:List TE} (fE:∀ i e,L[i]? = some e→∃ a,base=some a∧∀ k v,e.cs[k]? = some v→h.cell? ((a.add (i*4)).add k)=some v):(∀ j v,(L.flatMap TE.cs)[j]? = some v→∃ a,base=some a∧h.cell? (a.add j)=some v)∧(base=none→L.length=0):=by
 refine ⟨fun j v hj=>?_,fun hb=>?_⟩
 ·obtain ⟨i,e,k,h1,h2,rfl⟩:=flatE_at L j v hj
  obtain ⟨a,h3,h4⟩:=fE i e h1
  refine ⟨a,h3,?_⟩
  have:=h4 k v h2
  rw [add_add] at this
  exact this
 ·cases L with
  | nil=>rfl
  | cons e L=>obtain ⟨a,h3,_⟩:=fE 0 e rfl;rw [hb] at h3;cases h3
theorem rpgmap_x (is:Bool) (t:Tb) {lev:Nat→Nat} (i:TInv t lev) (s:Value) (hr:Rd Tryz.prog enT 4 h s (t.L.map TE.v)) (hl:t.L.length≤2 ^ 19) (va pa:Nat) (l:Int) (fl:Nat) (h1:va<2 ^ 64) (h2:pa<2 ^ 64) (h3:fl<2 ^ 64) (hk:∀ s' h',h.le h'→Rd Tryz.prog enT 4 h' s' ((mapT t (mapP t va pa l fl)).L.map TE.v)→((∀ u,mapP t va pa l fl=.ok u→Owns h h' enT 4 s' u.L.length (u.L.flatMap TE.cs))∧∀ e,mapP t va pa l fl=.error e→s'=s)→K (.tuple #[rtV is (mapT t (mapP t va pa l fl)) s',.int .i64 (mapE (mapP t va pa l fl))]) h'):X Tryz.prog 15 #[rtV is t s,ux va,ux pa,.int .i64 l,ux fl] h K:=by
 obtain ⟨base,cap,rfl,fE⟩:=ent_load hr
 obtain ⟨src1,src2⟩:=ent_src fE
 refine fnv (args:=_) mixed rfXPgH0 [] [] Tryz.func15 rfl (by kernel_rfl) (cw_ ?_)
 refine rsize_x l ?_
 by_cases hl3:0≤l∧l≤2
 rotate_left
 ·rw [if_neg hl3]
  have NO:¬ ((0≤l∧l≤2)∧mayN va∧va % sizeN l.toNat=0∧pa % sizeN l.toNat=0∧pa / 2 ^ 56=0∧fl≤255∧kindN (makeN (pa / 4096) fl) l.toNat=2):=fun hh=>hl3 hh.1
  have e:mapP t va pa l fl=.error 1:=if_neg fun hh=>NO (of_decide_eq_true hh)
  rw [e] at hk
  conv=>whnf
  exact hk _ h (Hp.le_refl _) hr ⟨(fun u hu=>by cases hu),fun _ _=>rfl⟩
 rw [if_pos hl3]
 obtain ⟨k,rfl⟩:∃ k:Nat,l=k:=⟨l.toNat,by omega⟩
 rw [Int.toNat_natCast]
 have hz0:0<sizeN k:=Nat.pow_pos (by decide)
 have hz1:sizeN k<2 ^ 64:=Nat.pow_lt_pow_right (by decide) (by omega)
 obtain ⟨z,hz⟩:∃ z,sizeN k=z:=⟨_,rfl⟩
 rw [hz] at hz0 hz1 ⊢
 conv=>whnf
 refine bf_ ?_
 refine rmay_x va h1 ?_
 by_cases c1:mayN va
 rotate_left
 ·rw [decide_eq_false c1]
  have NO:¬ ((0≤(k:Int)∧(k:Int)≤2)∧mayN va∧va % sizeN (k:Int).toNat=0∧pa % sizeN (k:Int).toNat=0∧pa / 2 ^ 56=0∧fl≤255∧kindN (makeN (pa / 4096) fl) (k:Int).toNat=2):=fun hh=>c1 hh.2.1
  have e:mapP t va pa k fl=.error 1:=if_neg fun hh=>NO (of_decide_eq_true hh)
  rw [e] at hk
  conv=>whnf
  exact hk _ h (Hp.le_refl _) hr ⟨(fun u hu=>by cases hu),fun _ _=>rfl⟩
 rw [decide_eq_true c1]
 conv=>whnf
 refine bt_ ?_
 have tm:∀ a:Nat,((a:Int)).tmod (z:Int)=((a % z:Nat):Int):=fun a=>rfl
 have ek:(k:Int).toNat=k:=rfl
 rw [tm]
 refine br_ (fun q1=>?_) fun q1=>?_
 ·have NO:¬ ((0≤(k:Int)∧(k:Int)≤2)∧mayN va∧va % sizeN (k:Int).toNat=0∧pa % sizeN (k:Int).toNat=0∧pa / 2 ^ 56=0∧fl≤255∧kindN (makeN (pa / 4096) fl) (k:Int).toNat=2):=fun hh=>by have:=hh.2.2.1;rw [ek,hz] at this;omega
  have e:mapP t va pa k fl=.error 1:=if_neg fun hh=>NO (of_decide_eq_true hh)
  rw [e] at hk
  conv=>whnf
  exact hk _ h (Hp.le_refl _) hr ⟨(fun u hu=>by cases hu),fun _ _=>rfl⟩
 conv=>whnf
 refine bt_ ?_
 rw [tm]
 refine br_ (fun q2=>?_) fun q2=>?_
 ·have NO:¬ ((0≤(k:Int)∧(k:Int)≤2)∧mayN va∧va % sizeN (k:Int).toNat=0∧pa % sizeN (k:Int).toNat=0∧pa / 2 ^ 56=0∧fl≤255∧kindN (makeN (pa / 4096) fl) (k:Int).toNat=2):=fun hh=>by have:=hh.2.2.2.1;rw [ek,hz] at this;omega
  have e:mapP t va pa k fl=.error 1:=if_neg fun hh=>NO (of_decide_eq_true hh)
  rw [e] at hk
  conv=>whnf
  exact hk _ h (Hp.le_refl _) hr ⟨(fun u hu=>by cases hu),fun _ _=>rfl⟩
 conv=>whnf
 refine br_ (fun q3=>?_) fun q3=>?_
 ·have NO:¬ ((0≤(k:Int)∧(k:Int)≤2)∧mayN va∧va % sizeN (k:Int).toNat=0∧pa % sizeN (k:Int).toNat=0∧pa / 2 ^ 56=0∧fl≤255∧kindN (makeN (pa / 4096) fl) (k:Int).toNat=2):=fun hh=>by have:=hh.2.2.2.2.1;omega
  have e:mapP t va pa k fl=.error 1:=if_neg fun hh=>NO (of_decide_eq_true hh)
  rw [e] at hk
  conv=>whnf
  exact hk _ h (Hp.le_refl _) hr ⟨(fun u hu=>by cases hu),fun _ _=>rfl⟩
 conv=>whnf
 refine br_ (fun q4=>?_) fun q4=>?_
 ·have NO:¬ ((0≤(k:Int)∧(k:Int)≤2)∧mayN va∧va % sizeN (k:Int).toNat=0∧pa % sizeN (k:Int).toNat=0∧pa / 2 ^ 56=0∧fl≤255∧kindN (makeN (pa / 4096) fl) (k:Int).toNat=2):=fun hh=>by have:=hh.2.2.2.2.2.1;omega
  have e:mapP t va pa k fl=.error 1:=if_neg fun hh=>NO (of_decide_eq_true hh)
  rw [e] at hk
  conv=>whnf
  exact hk _ h (Hp.le_refl _) hr ⟨(fun u hu=>by cases hu),fun _ _=>rfl⟩
 conv=>whnf
 refine ov_by (show IntKind.u64.wrap ((pa:Int).tdiv 4096)=((pa / 4096:Nat):Int) from w64 (show pa / 4096<2 ^ 64 by omega)) (cw_ ?_)
 refine rpte_x (pa / 4096) fl (by omega) h3 (cw_ ?_)
 refine rpgkind_x (makeN (pa / 4096) fl) k (Nat.lt_of_lt_of_le (make_lt _ _) (by decide)) (by omega) ?_
 have hfe:kindN (makeN (pa / 4096) fl) k=2→fitsP va pa k fl=true:=fun hh=>decide_eq_true ⟨hl3,c1,by rw [ek,hz];omega,by rw [ek,hz];omega,by omega,by omega,by rw [ek];exact hh⟩
 by_cases c5:kindN (makeN (pa / 4096) fl) k=2
 rotate_left
 ·have NO:¬ ((0≤(k:Int)∧(k:Int)≤2)∧mayN va∧va % sizeN (k:Int).toNat=0∧pa % sizeN (k:Int).toNat=0∧pa / 2 ^ 56=0∧fl≤255∧kindN (makeN (pa / 4096) fl) (k:Int).toNat=2):=fun hh=>c5 hh.2.2.2.2.2.2
  generalize kindN (makeN (pa / 4096) fl) k=kk at c5 ⊢
  conv=>whnf
  refine bt_ ?_
  have e:mapP t va pa k fl=.error 1:=if_neg fun hh=>NO (of_decide_eq_true hh)
  rw [e] at hk
  conv=>whnf
  exact hk _ h (Hp.le_refl _) hr ⟨(fun u hu=>by cases hu),fun _ _=>rfl⟩
 have hf:=hfe c5
 rw [c5]
 have hmp:mapP t va pa k fl=match downP va t 0 (above k) with
  | none=>.error 8
  | some (u,f)=>if (findE u.L f (placeN va k)).isNone then .ok { u with L:=u.L++[⟨f,placeN va k,makeN (pa / 4096) fl,none⟩] } else .error 8:=if_pos hf
 rw [above_dn (show k≤2 by omega)] at hmp
 obtain ⟨R,hR⟩:∃ R,downP va t 0 (dn 2 (2 - k))=R:=⟨_,rfl⟩
 rw [hR] at hmp
 conv=>whnf
 refine new_intro (o:=rowO 108 []) (fun z0 h4 n_z0 le_z0 at_z0 ot_z0=>cw_ ?_)
 have hO0:Owns h h4 108 4 (.slice (some ⟨z0,0,none⟩) 0 0) 0 []:=⟨some z0,⟨rfl,.inr ⟨z0,0,[],rfl,rfl,Nat.le_refl _,rfl,at_z0⟩⟩,le_z0,fun c e=>by cases e;exact n_z0⟩
 refine Owns.appN (z:=TE.v ⟨0,0,0,some 0⟩) (news:=t.L.flatMap TE.cs) (bytes:=32) (by kernel_rfl) infEn (by kernel_rfl) (by kernel_rfl) (by kernel_rfl) rfl (by decide) rfl rfl rfl hO0 (lenE _) (fun j v hj=>(src1 j v hj).imp fun a ha=>⟨ha.1,cell_le le_z0 ha.2⟩) src2 (csE_one _) (by omega) fun s3 h5 hO5=>?_
 rw [Nat.zero_add,List.nil_append] at hO5
 have hO5:Owns h h5 enT 4 s3 t.L.length (t.L.flatMap TE.cs):=hO5
 obtain ⟨sa3,sc3,rfl⟩:=hO5.shape
 refine ⟨trivial,cw_ ?_⟩
 have i1:=i.f1
 refine loop_at [15,14] [5,10,13] (fun q vs cs h'=>∃ (u:Tb) (lv:Nat→Nat) (f:Nat) (su:Value),cs=[some [.bool is,ux t.root,.int .i64 t.frames,.slice base t.L.length cap],some [.bool false,ux 0,.int .i64 0,.slice none 0 0],some [.bool is,ux u.root,.int .i64 u.frames,su]]∧TInv u lv∧Owns h h' enT 4 su u.L.length (u.L.flatMap TE.cs)∧k+q≤2∧vs=[.v (.int .i64 (k+q:Nat)),.v (.int .i64 f)]∧f<u.frames∧lv f=k+q∧downP va u f (dn (k+q) q)=R∧u.L.length+q≤t.L.length+2∧u.root=t.root) (2 - k) ⟨t,lev,0,_,rfl,i,hO5,by omega,by rw [show k+(2 - k)=2 by omega];rfl,by omega,by rw [i.l0];omega,by rw [show k+(2 - k)=2 by omega];exact hR,by omega,rfl⟩ ?_
 rintro q vs cs mm bx h6 ⟨u,lv,f,su,rfl,i6,hO6,hkq,rfl,hf6,hlv,hdn,hul,hur⟩
 obtain ⟨sa6,sc6,rfl⟩:=hO6.shape
 have r1:=i6.r1
 have f2:=i6.f2
 conv=>whnf
 refine br_ (fun q5=>?_) fun q5=>?_
 ·obtain ⟨n,rfl⟩:∃ n,q=n+1:=⟨q - 1,by omega⟩
  have hdn:downP va u f ((k+(n+1)) :: dn (k+n) n)=R:=hdn
  unfold downP at hdn
  have hpl:=place_lt va (k+(n+1))
  have hix:=idxE_find u.L f (placeN va (k+(n+1)))
  have rd6:=ownsE hO6
  obtain ⟨base6,cap6,e6,fE6⟩:=ent_load rd6
  cases e6
  conv=>whnf
  refine rplace_x va (k+(n+1)) h1 (by omega) ?_
  refine ⟨trivial,cw_ ?_⟩
  refine rpgfind_x is u _ rd6 (by omega) f (placeN va (k+(n+1))) (by omega) (by omega) ?_
  cases hid:idxE u.L f (placeN va (k+(n+1))) with
  | none =>
   rw [hid] at hix
   have hix:findE u.L f (placeN va (k+(n+1)))=none:=hix
   rw [hix] at hdn
   simp only at hdn
   refine ⟨trivial,cw_ ?_⟩
   refine rplace_x va (k+(n+1)) h1 (by omega) ?_
   refine ⟨trivial,cw_ ?_⟩
   refine ov_by (show IntKind.u64.wrap ((u.root:Int).tdiv 4096)=((u.root / 4096:Nat):Int) from w64 (show u.root / 4096<2 ^ 64 by omega)) (cw_ ?_)
   refine ov_by (show IntKind.u64.wrap (u.frames:Int)=(u.frames:Int) from w64 (by omega)) (cw_ ?_)
   refine ov_by (show IntKind.u64.wrap (((u.root / 4096:Nat):Int)+(u.frames:Int))=((u.root / 4096+u.frames:Nat):Int) by rw [← Int.natCast_add];exact w64 (by omega)) ?_
   conv=>whnf
   refine rpte_x (u.root / 4096+u.frames) 1 (by omega) (by decide) ?_
   refine ⟨trivial,cw_ ?_⟩
   refine new_intro (o:=rowO 108 (TE.cs ⟨f,placeN va (k+(n+1)),makeN (u.root / 4096+u.frames) 1,some u.frames⟩)) (fun z1 h7 n_z1 le_z1 at_z1 ot_z1=>cw_ ?_)
   refine Owns.app1 (z:=TE.v ⟨0,0,0,some 0⟩) (by kernel_rfl) infEn (by kernel_rfl) (by kernel_rfl) (by kernel_rfl) rfl (bytes:=32) (by decide) rfl rfl rfl (hO6.up le_z1) at_z1 rfl rfl (by omega) fun s7 h8 hO8=>?_
   obtain ⟨e8,he8⟩:∃ e:TE,e=⟨f,placeN va (k+(n+1)),makeN (u.root / 4096+u.frames) 1,some u.frames⟩:=⟨_,rfl⟩
   have hO8:Owns h h8 enT 4 s7 (u.L++[e8]).length ((u.L++[e8]).flatMap TE.cs):=by
    rw [List.length_append,List.flatMap_append,he8]
    exact hO8
   have i8:=i6.down hf6 (by omega) (place_lt va (k+(n+1))) hix
   rw [← he8] at i8 hdn
   obtain ⟨sa8,sc8,rfl⟩:=hO8.shape
   have l8:(u.L++[e8]).length=u.L.length+1:=by rw [List.length_append];rfl
   obtain ⟨base8,cap8,ee8,fE8⟩:=ent_load (ownsE hO8)
   cases ee8
   obtain ⟨a8,rfl,ce8⟩:=fE8 u.L.length e8 (by rw [List.getElem?_append_right (Nat.le_refl _),Nat.sub_self];rfl)
   have c3:h8.cell? ((a8.add (((u.L.length:Int)).toNat*4)).add 3)=some (.int .i64 u.frames):=by rw [Int.toNat_natCast];exact ce8 3 _ (by rw [he8];rfl)
   refine ⟨trivial,cw_ ?_⟩
   refine n_ ?_
   refine n_ ?_
   rw [l8,show ((u.L.length+1:Nat):Int) - 1=(u.L.length:Int) by omega]
   refine bt_ ?_
   refine ⟨_,(loadH_cell aggIn _ _).trans c3,cw_ ?_⟩
   refine n_ ?_
   refine ⟨_,(loadH_cell aggIn _ _).trans c3,cw_ ?_⟩
   refine n_ ?_
   exact ⟨n,by omega,{ u with frames:=u.frames+1,L:=u.L++[e8] },_,u.frames,_,rfl,i8,(by show Owns h h8 enT 4 (.slice (some a8) (u.L.length+1) sc8) (u.L++[e8]).length _;rw [← l8];exact hO8),by omega,pgmvI (by omega) _,Nat.lt_succ_self _,by show (if u.frames=u.frames then lv f - 1 else lv u.frames)=k+n;rw [if_pos rfl];omega,hdn,by show (u.L++[e8]).length+n≤_;rw [l8];omega,hur⟩
  | some j =>
   rw [hid] at hix
   have hix:findE u.L f (placeN va (k+(n+1)))=u.L[j]? := hix
   have hjl:=idxE_lt _ _ _ _ hid
   obtain ⟨e,he⟩:∃ e,u.L[j]? = some e:=⟨_,List.getElem?_eq_getElem hjl⟩
   rw [he] at hix
   rw [hix] at hdn
   simp only at hdn
   obtain ⟨hm2,hef,_⟩:=findE_some hix
   obtain ⟨a,rfl,ce⟩:=fE6 j e he
   have c3:h6.cell? ((a.add (((j:Int)).toNat*4)).add 3)=some (.int .i64 (toI e.to)):=by rw [Int.toNat_natCast];exact ce 3 _ rfl
   rw [show toI (some j)=(j:Int) from rfl]
   refine ⟨trivial,cw_ ?_⟩
   refine bt_ ?_
   refine ⟨_,(loadH_cell aggIn _ _).trans c3,cw_ ?_⟩
   cases ht:e.to with
   | none =>
    rw [ht] at hdn
    have hdn:none=R:=hdn
    have em:mapP t va pa k fl=.error 8:=by rw [hmp,← hdn]
    rw [em] at hk
    conv=>whnf
    exact hk _ _ hO6.le (hr.le hO6.le) ⟨(fun u hu=>by cases hu),fun _ _=>rfl⟩
   | some j2 =>
    rw [ht] at hdn
    simp only at hdn
    obtain ⟨k1,k2,k3,k4⟩:=i6.lead e hm2 j2 ht
    rw [hef,hlv] at k2 k3
    rw [ht] at c3
    conv=>whnf
    refine n_ ?_
    refine ⟨_,(loadH_cell aggIn _ _).trans c3,cw_ ?_⟩
    refine n_ ?_
    exact ⟨n,by omega,u,lv,j2,_,rfl,i6,hO6,by omega,pgmvI (by omega) _,k1,by omega,hdn,by omega,hur⟩
 ·obtain rfl:q=0:=by omega
  have hdn:some (u,f)=R:=hdn
  rw [← hdn] at hmp
  simp only at hmp
  have hpl:=place_lt va k
  have hix:=idxE_find u.L f (placeN va k)
  have rd6:=ownsE hO6
  obtain ⟨base6,cap6,e6,fE6⟩:=ent_load rd6
  cases e6
  conv=>whnf
  refine rplace_x va k h1 (by omega) ?_
  refine ⟨trivial,cw_ ?_⟩
  refine rpgfind_x is u _ rd6 (by omega) f (placeN va k) (by omega) (by omega) ?_
  cases hid:idxE u.L f (placeN va k) with
  | some j =>
   rw [hid] at hix
   have hix:findE u.L f (placeN va k)=u.L[j]? := hix
   have hjl:=idxE_lt _ _ _ _ hid
   rw [List.getElem?_eq_getElem hjl] at hix
   have hmp:=hmp.trans (if_neg (by rw [hix];simp))
   rw [hmp] at hk
   rw [show toI (some j)=(j:Int) from rfl]
   refine ⟨trivial,cw_ ?_⟩
   exact hk _ _ hO6.le (hr.le hO6.le) ⟨(fun u hu=>by cases hu),fun _ _=>rfl⟩
  | none =>
   rw [hid] at hix
   have hix:findE u.L f (placeN va k)=none:=hix
   have hmp:=hmp.trans (if_pos (by rw [hix];rfl))
   rw [hmp] at hk
   refine ⟨trivial,cw_ ?_⟩
   refine rplace_x va k h1 (by omega) ?_
   refine ⟨trivial,cw_ ?_⟩
   refine ov_by (show IntKind.u64.wrap ((pa:Int).tdiv 4096)=((pa / 4096:Nat):Int) from w64 (show pa / 4096<2 ^ 64 by omega)) (cw_ ?_)
   refine rpte_x (pa / 4096) fl (by omega) h3 ?_
   refine ⟨trivial,cw_ ?_⟩
   refine new_intro (o:=rowO 108 (TE.cs ⟨f,placeN va k,makeN (pa / 4096) fl,none⟩)) (fun z1 h7 n_z1 le_z1 at_z1 ot_z1=>cw_ ?_)
   refine Owns.app1 (z:=TE.v ⟨0,0,0,some 0⟩) (by kernel_rfl) infEn (by kernel_rfl) (by kernel_rfl) (by kernel_rfl) rfl (bytes:=32) (by decide) rfl rfl rfl (hO6.up le_z1) at_z1 rfl rfl (by omega) fun s7 h8 hO8=>?_
   obtain ⟨e8,he8⟩:∃ e:TE,e=⟨f,placeN va k,makeN (pa / 4096) fl,none⟩:=⟨_,rfl⟩
   have hO8:Owns h h8 enT 4 s7 (u.L++[e8]).length ((u.L++[e8]).flatMap TE.cs):=by
    rw [List.length_append,List.flatMap_append,he8]
    exact hO8
   rw [← he8] at hk
   obtain ⟨sa8,sc8,rfl⟩:=hO8.shape
   refine ⟨trivial,cw_ ?_⟩
   exact hk _ _ hO8.le (ownsE hO8) ⟨(fun u hu=>by cases hu;exact hO8),(fun e he=>by cases he)⟩
end
end Go.Proofs.YtdhkjcdneidgaaaGreatDoor
namespace Go.Proofs.YtdhkjcdneidgaaaGreatDoor
open Go Go.Mid Go.RowKit Go.Bits
attribute [local irreducible] mid
structure Pp where
 at_:Nat
 sl:Value
 b:Str
abbrev Pp.v (p:Pp):Value:=.agg #[ux p.at_,p.sl]
def Pp.cs (p:Pp):List Value:=[ux p.at_,p.sl]
def Pp.key (p:Pp):Nat×Str:=(p.at_,p.b)
section
variable {h:Hp} {K:Value→Hp→Prop}
theorem aggU8p:isAggT Tryz.prog 5=some false:=by kernel_rfl
theorem aggYp:isAggT Tryz.prog 60=some false:=by kernel_rfl
theorem aggPp:isAggT Tryz.prog 62=some true:=by kernel_rfl
theorem sizPp:sizeT Tryz.prog 62=some 2:=by kernel_rfl
theorem aggPr:isAggT Tryz.prog 92=some true:=by kernel_rfl
theorem sizPr:sizeT Tryz.prog 92=some 2:=by kernel_rfl
structure Pp.ok (h:Hp) (p:Pp):Prop where
 at_:p.at_<2 ^ 64
 len:p.b.length≤9223372036854775807
 rd:Rd Tryz.prog 5 1 h p.sl (p.b.map byV)
theorem Pp.ok.le {h h':Hp} {p:Pp} (o:p.ok h) (hle:h.le h'):p.ok h':=⟨o.at_,o.len,o.rd.le hle⟩
theorem Pp.ok.shape {p:Pp} (o:p.ok h):∃ base cap,p.sl=.slice base p.b.length cap∧∀ i x,p.b[i]? = some x→∃ a,base=some a∧h.cell? (a.add i)=some (byV x):=by
 obtain ⟨base,cap,e,f⟩:=o.rd
 refine ⟨base,cap,by rw [e];simp,fun i x hx=>?_⟩
 obtain ⟨a,ea,hl⟩:=f i (byV x) (by rw [List.getElem?_map,hx];rfl)
 refine ⟨a,ea,?_⟩
 rw [loadH_cell aggU8p,Nat.mul_one] at hl
 exact hl
def PpB (h:Hp) (p:Pp):Prop:=p.at_<2 ^ 64∧p.b.length≤2 ^ 40∧∃ c cap rest,p.sl=.slice (some ⟨c,0,none⟩) p.b.length cap∧h c=some (rowO 5 (p.b.map byV++rest))
theorem PpB.le {h h':Hp} {p:Pp} (i:PpB h p) (hle:h.le h'):PpB h' p:=by
 obtain ⟨h1,h2,c,cap,rest,e,hc⟩:=i
 exact ⟨h1,h2,c,cap,rest,e,hle _ _ hc⟩
theorem PpB.ok {h:Hp} {p:Pp} (i:PpB h p):p.ok h:=by
 obtain ⟨h1,h2,c,cap,rest,e,hc⟩:=i
 refine ⟨h1,Nat.le_trans h2 (by decide),?_⟩
 rw [e]
 have:=Rd.row (P:=Tryz.prog) (t:=5) (l:=p.b.map byV) (r:=rest) (cap:=cap) aggU8p hc
 rw [List.length_map] at this
 exact this
theorem pp_load {T:TypeId} (ht:isAggT Tryz.prog T=some true) (hn:sizeT Tryz.prog T=some 2) {s:Value} {L:List Pp} (hr:Rd Tryz.prog T 2 h s (L.map Pp.v)):∃ base cap,s=.slice base L.length cap∧∀ i p,L[i]? = some p→∃ a,base=some a∧∀ k v,p.cs[k]? = some v→h.cell? ((a.add (i*2)).add k)=some v:=by
 obtain ⟨base,cap,e,f⟩:=hr
 refine ⟨base,cap,by rw [e];simp,fun i x hx=>?_⟩
 obtain ⟨a,ea,hl⟩:=f i x.v (by rw [List.getElem?_map,hx];rfl)
 exact ⟨a,ea,fun k v hv=>loadH_cellOf ht hn hl (show (#[ux x.at_,x.sl]:Array Value)[k]? = some v by simpa [Pp.cs] using hv)⟩
theorem pgbEq_x (b1 b2:Option Addr) (c1 c2:Nat) (x y:Str) (hx:x.length≤9223372036854775807) (h1:∀ i z,x[i]? = some z→∃ a,b1=some a∧h.cell? (a.add i)=some (byV z)) (h2:∀ i z,y[i]? = some z→∃ a,b2=some a∧h.cell? (a.add i)=some (byV z)) (hk:K (.bool (decide (x=y))) h):X Tryz.prog 18 #[.slice b1 x.length c1,.slice b2 y.length c2] h K:=by
 refine fnv (args:=_) mixed [] [] [] Tryz.func18 rfl (by kernel_rfl) (cw_ ?_)
 refine br_ (fun q1=>?_) fun q1=>?_
 ·rw [decide_eq_false (fun hh=>by subst hh;omega)] at hk
  conv=>whnf
  exact hk
 conv=>whnf
 refine loop_at [5] [] (fun r vs cs h'=>h=h'∧∃ i:Nat,i≤x.length∧r=x.length - i∧vs=[.v (.int .i64 i)]∧∀ j,j<i→x[j]? = y[j]?) x.length ⟨rfl,0,by omega,by omega,rfl,fun j hj=>by omega⟩ ?_
 rintro r vs cs mm bx _ ⟨rfl,i,hi,rfl,rfl,hg⟩
 conv=>whnf
 refine br_ (fun q5=>?_) fun q5=>?_
 ·have hix:i<x.length:=by omega
  obtain ⟨z,hz⟩:∃ z,x[i]? = some z:=⟨_,List.getElem?_eq_getElem hix⟩
  obtain ⟨w,hw⟩:∃ w,y[i]? = some w:=⟨_,List.getElem?_eq_getElem (by omega)⟩
  obtain ⟨a1,rfl,e1⟩:=h1 i z hz
  obtain ⟨a2,rfl,e2⟩:=h2 i w hw
  have e1':h.cell? (a1.add (((i:Int)).toNat*1))=some (byV z):=by rw [show ((i:Int)).toNat=i by omega,Nat.mul_one];exact e1
  have e2':h.cell? (a2.add (((i:Int)).toNat*1))=some (byV w):=by rw [show ((i:Int)).toNat=i by omega,Nat.mul_one];exact e2
  conv=>whnf
  refine n_ ?_
  refine ⟨_,(loadH_cell aggU8p _ _).trans e1',cw_ ?_⟩
  refine n_ ?_
  refine ⟨_,(loadH_cell aggU8p _ _).trans e2',cw_ ?_⟩
  refine br_ (fun q6=>?_) fun q6=>?_
  ·rw [decide_eq_false (fun hh=>by subst hh;rw [hz] at hw;cases hw;omega)] at hk
   conv=>whnf
   exact hk
  ·have hzw:z=w:=by
    apply UInt8.toNat_inj.1
    omega
   conv=>whnf
   refine n_ ?_
   refine ⟨x.length - (i+1),by omega,rfl,i+1,by omega,rfl,rfl,fun j hj=>?_⟩
   by_cases e:j=i
   ·subst e;rw [hz,hw,hzw]
   ·exact hg j (by omega)
 ·rw [decide_eq_true (List.ext_getElem? fun j=>by
   by_cases hj:j<i
   ·exact hg j hj
   ·rw [List.getElem?_eq_none (by omega),List.getElem?_eq_none (by omega)])] at hk
  conv=>whnf
  exact hk
theorem pgparts_x (A B:List Pp) (sa sb:Value) (hA:Rd Tryz.prog 62 2 h sa (A.map Pp.v)) (hB:Rd Tryz.prog 92 2 h sb (B.map Pp.v)) (oA:∀ p ∈ A,p.ok h) (oB:∀ p ∈ B,p.ok h) (hl:A.length≤2 ^ 40) (hk:K (.bool (decide (A.map Pp.key=B.map Pp.key))) h):X Tryz.prog 8 #[sa,sb] h K:=by
 obtain ⟨b1,c1,rfl,f1⟩:=pp_load aggPp sizPp hA
 obtain ⟨b2,c2,rfl,f2⟩:=pp_load aggPr sizPr hB
 refine fnv (args:=_) mixed [] [] [] Tryz.func8 rfl (by kernel_rfl) (cw_ ?_)
 refine br_ (fun q0=>?_) fun q0=>?_
 ·rw [decide_eq_false (fun hh=>by have:=congrArg List.length hh;simp at this;omega)] at hk
  conv=>whnf
  exact hk
 conv=>whnf
 refine loop_at [5] [] (fun r vs cs h'=>h=h'∧∃ i:Nat,i≤B.length∧r=B.length - i∧vs=[.v (.int .i64 i)]∧∀ j,j<i→(A.map Pp.key)[j]? = (B.map Pp.key)[j]?) B.length ⟨rfl,0,by omega,by omega,rfl,fun j hj=>by omega⟩ ?_
 rintro r vs cs mm bx _ ⟨rfl,i,hi,rfl,rfl,hg⟩
 conv=>whnf
 refine br_ (fun q5=>?_) fun q5=>?_
 ·have hix:i<B.length:=by omega
  obtain ⟨p,hp⟩:∃ p,A[i]? = some p:=⟨_,List.getElem?_eq_getElem (by omega)⟩
  obtain ⟨q,hq⟩:∃ q,B[i]? = some q:=⟨_,List.getElem?_eq_getElem hix⟩
  have hkp:(A.map Pp.key)[i]? = some p.key:=by rw [List.getElem?_map,hp];rfl
  have hkq:(B.map Pp.key)[i]? = some q.key:=by rw [List.getElem?_map,hq];rfl
  obtain ⟨a1,rfl,e1⟩:=f1 i p hp
  obtain ⟨a2,rfl,e2⟩:=f2 i q hq
  have hpo:=oA p (List.mem_of_getElem? hp)
  have hqo:=oB q (List.mem_of_getElem? hq)
  obtain ⟨b1,c1,x1,y1⟩:=hpo.shape
  obtain ⟨b2,c3,x2,y2⟩:=hqo.shape
  have a10:h.cell? ((a1.add (((i:Int)).toNat*2)).add 0)=some (ux p.at_):=by rw [show ((i:Int)).toNat=i by omega];exact e1 0 _ rfl
  have a11:h.cell? ((a1.add (((i:Int)).toNat*2)).add 1)=some (.slice b1 p.b.length c1):=by rw [show ((i:Int)).toNat=i by omega,← x1];exact e1 1 _ rfl
  have a20:h.cell? ((a2.add (((i:Int)).toNat*2)).add 0)=some (ux q.at_):=by rw [show ((i:Int)).toNat=i by omega];exact e2 0 _ rfl
  have a21:h.cell? ((a2.add (((i:Int)).toNat*2)).add 1)=some (.slice b2 q.b.length c3):=by rw [show ((i:Int)).toNat=i by omega,← x2];exact e2 1 _ rfl
  conv=>whnf
  refine n_ ?_
  refine ⟨_,(loadH_cell aggU6 _ _).trans a10,cw_ ?_⟩
  refine n_ ?_
  refine ⟨_,(loadH_cell aggU6 _ _).trans a20,cw_ ?_⟩
  refine br_ (fun q6=>?_) fun q6=>?_
  ·have hne:q.key≠p.key:=fun hh=>by unfold Pp.key at hh;injection hh with h1 h2;omega
   rw [decide_eq_false (fun hh=>by rw [hh,hkq] at hkp;exact hne (Option.some.inj hkp))] at hk
   conv=>whnf
   exact hk
  conv=>whnf
  refine n_ ?_
  refine ⟨_,(loadH_cell aggYp _ _).trans a11,cw_ ?_⟩
  refine n_ ?_
  refine ⟨_,(loadH_cell aggYp _ _).trans a21,cw_ ?_⟩
  refine pgbEq_x b1 b2 c1 c3 p.b q.b hpo.len y1 y2 ?_
  refine ⟨trivial,cw_ ?_⟩
  refine bsel_intro (fun q7=>?_) (fun q7=>?_)
  ·have q7:p.b≠q.b:=by simpa using q7
   have hne:q.key≠p.key:=fun hh=>by unfold Pp.key at hh;injection hh with h1 h2;exact q7 h2.symm
   rw [decide_eq_false (fun hh=>by rw [hh,hkq] at hkp;exact hne (Option.some.inj hkp))] at hk
   conv=>whnf
   exact hk
  ·have q7:p.b=q.b:=by simpa using q7
   have heq:p.key=q.key:=by unfold Pp.key;rw [q7,show p.at_=q.at_ by omega]
   conv=>whnf
   refine n_ ?_
   refine ⟨B.length - (i+1),by omega,rfl,i+1,by omega,rfl,rfl,fun j hj=>?_⟩
   by_cases e:j=i
   ·subst e;rw [hkp,hkq,heq]
   ·exact hg j (by omega)
 ·rw [decide_eq_true (List.ext_getElem? fun j=>by
   by_cases hj:j<i
   ·exact hg j hj
   ·rw [List.getElem?_eq_none (by simp;omega),List.getElem?_eq_none (by simp;omega)])] at hk
  conv=>whnf
  exact hk
end
end Go.Proofs.YtdhkjcdneidgaaaGreatDoor
namespace Go.Proofs.YtdhkjcdneidgaaaGreatDoor
open Go Go.Mid Go.RowKit Go.Bits
attribute [local irreducible] mid
theorem w8m (n:Nat):IntKind.u8.wrap (n:Int)=((n % 256:Nat):Int):=by
 rw [show IntKind.u8.wrap (n:Int)=(n:Int) % 256 by unfold IntKind.wrap;simp [IntKind.signed,IntKind.bits]]
 omega
theorem eight_set (w n i:Nat) (z:Value) (h:i<n):((eightN w i).map byV++List.replicate (n - i) z).set i (byV (UInt8.ofNat (w / 2 ^ (8*i) % 256)))=(eightN w (i+1)).map byV++List.replicate (n - (i+1)) z:=by
 rw [show n - i=(n - (i+1))+1 by omega,List.replicate_succ,eight_succ,List.map_append,List.append_assoc]
 rw [List.set_append_right _ _ (by rw [List.length_map,eight_len];exact Nat.le_refl _),List.length_map,eight_len,Nat.sub_self]
 rfl
section
variable {h:Hp} {K:Value→Hp→Prop}
theorem sizU8p:sizeT Tryz.prog 5=some 1:=by kernel_rfl
theorem pgeight_x (w n:Nat) (hw:w<2 ^ 64) (hn:n=1∨n=2∨n=4∨n=8) (hk:∀ b h',h b=none→h.le h'→(∀ c,c≠b→h' c=h c)→h' b=some (rowO 5 ((eightN w n).map byV))→K (.slice (some ⟨b,0,none⟩) n n) h'):X Tryz.prog 35 #[ux w,.int .i64 n] h K:=by
 rcases hn with rfl | rfl | rfl | rfl
 ·refine fnv (args:=_) mixed [] [] [] Tryz.func35 rfl (by kernel_rfl) (cw_ ?_)
  refine new_intro (o:=rowO 5 (List.replicate 1 (.int .u8 0))) (fun b h2 n_b le_b at_b ot_b=>cw_ ?_)
  refine loop_at [11] [] (fun q vs _ h'=>∃ i:Nat,i≤1∧q=1 - i∧vs=[.v (.int .i64 i)]∧h' b=some (rowO 5 ((eightN w i).map byV++List.replicate (1 - i) (.int .u8 0)))∧∀ c,c≠b→h' c=h c) 1 ⟨0,by omega,by omega,rfl,at_b,ot_b⟩ ?_
  rintro q vs cs mm bx h3 ⟨i,hi,rfl,rfl,at3,ot3⟩
  have hlt:w / 2 ^ (8*i)<2 ^ 64:=Nat.lt_of_le_of_lt (Nat.div_le_self _ _) hw
  conv=>whnf
  refine br_ (fun q1=>?_) fun q1=>?_
  ·conv=>whnf
   refine n_ ?_
   refine n_ ?_
   refine val_by (shr64 w (8*i) (by omega)) (cw_ ?_)
   refine ov_by (show IntKind.u8.wrap ((w / 2 ^ (8*i):Nat):Int)=((UInt8.ofNat (w / 2 ^ (8*i) % 256)).toNat:Int) by rw [UInt8.toNat_ofNat',w8m];omega) ?_
   conv=>whnf
   refine n_ ?_
   refine wr_intro (by exact storeI (j:=i) (z:=byV (UInt8.ofNat (w / 2 ^ (8*i) % 256))) sizU8p at3 rfl (by simp [eight_len];omega) rfl rfl) (fun h4 at_h4 ot_h4=>cw_ ?_)
   rw [eight_set w 1 i _ (by omega)] at at_h4
   conv=>whnf
   refine n_ ?_
   exact ⟨1 - (i+1),by omega,i+1,by omega,rfl,rfl,at_h4,fun c hc=>by rw [ot_h4 c hc];exact ot3 c hc⟩
  ·obtain rfl:i=1:=by omega
   rw [Nat.sub_self,List.replicate_zero,List.append_nil] at at3
   exact hk b _ n_b (fun c o e=>by rw [ot3 c (by rintro rfl;rw [n_b] at e;cases e)];exact e) ot3 at3
 ·refine fnv (args:=_) mixed [] [] [] Tryz.func35 rfl (by kernel_rfl) (cw_ ?_)
  refine new_intro (o:=rowO 5 (List.replicate 2 (.int .u8 0))) (fun b h2 n_b le_b at_b ot_b=>cw_ ?_)
  refine loop_at [11] [] (fun q vs _ h'=>∃ i:Nat,i≤2∧q=2 - i∧vs=[.v (.int .i64 i)]∧h' b=some (rowO 5 ((eightN w i).map byV++List.replicate (2 - i) (.int .u8 0)))∧∀ c,c≠b→h' c=h c) 2 ⟨0,by omega,by omega,rfl,at_b,ot_b⟩ ?_
  rintro q vs cs mm bx h3 ⟨i,hi,rfl,rfl,at3,ot3⟩
  have hlt:w / 2 ^ (8*i)<2 ^ 64:=Nat.lt_of_le_of_lt (Nat.div_le_self _ _) hw
  conv=>whnf
  refine br_ (fun q1=>?_) fun q1=>?_
  ·conv=>whnf
   refine n_ ?_
   refine n_ ?_
   refine val_by (shr64 w (8*i) (by omega)) (cw_ ?_)
   refine ov_by (show IntKind.u8.wrap ((w / 2 ^ (8*i):Nat):Int)=((UInt8.ofNat (w / 2 ^ (8*i) % 256)).toNat:Int) by rw [UInt8.toNat_ofNat',w8m];omega) ?_
   conv=>whnf
   refine n_ ?_
   refine wr_intro (by exact storeI (j:=i) (z:=byV (UInt8.ofNat (w / 2 ^ (8*i) % 256))) sizU8p at3 rfl (by simp [eight_len];omega) rfl rfl) (fun h4 at_h4 ot_h4=>cw_ ?_)
   rw [eight_set w 2 i _ (by omega)] at at_h4
   conv=>whnf
   refine n_ ?_
   exact ⟨2 - (i+1),by omega,i+1,by omega,rfl,rfl,at_h4,fun c hc=>by rw [ot_h4 c hc];exact ot3 c hc⟩
  ·obtain rfl:i=2:=by omega
   rw [Nat.sub_self,List.replicate_zero,List.append_nil] at at3
   exact hk b _ n_b (fun c o e=>by rw [ot3 c (by rintro rfl;rw [n_b] at e;cases e)];exact e) ot3 at3
 ·refine fnv (args:=_) mixed [] [] [] Tryz.func35 rfl (by kernel_rfl) (cw_ ?_)
  refine new_intro (o:=rowO 5 (List.replicate 4 (.int .u8 0))) (fun b h2 n_b le_b at_b ot_b=>cw_ ?_)
  refine loop_at [11] [] (fun q vs _ h'=>∃ i:Nat,i≤4∧q=4 - i∧vs=[.v (.int .i64 i)]∧h' b=some (rowO 5 ((eightN w i).map byV++List.replicate (4 - i) (.int .u8 0)))∧∀ c,c≠b→h' c=h c) 4 ⟨0,by omega,by omega,rfl,at_b,ot_b⟩ ?_
  rintro q vs cs mm bx h3 ⟨i,hi,rfl,rfl,at3,ot3⟩
  have hlt:w / 2 ^ (8*i)<2 ^ 64:=Nat.lt_of_le_of_lt (Nat.div_le_self _ _) hw
  conv=>whnf
  refine br_ (fun q1=>?_) fun q1=>?_
  ·conv=>whnf
   refine n_ ?_
   refine n_ ?_
   refine val_by (shr64 w (8*i) (by omega)) (cw_ ?_)
   refine ov_by (show IntKind.u8.wrap ((w / 2 ^ (8*i):Nat):Int)=((UInt8.ofNat (w / 2 ^ (8*i) % 256)).toNat:Int) by rw [UInt8.toNat_ofNat',w8m];omega) ?_
   conv=>whnf
   refine n_ ?_
   refine wr_intro (by exact storeI (j:=i) (z:=byV (UInt8.ofNat (w / 2 ^ (8*i) % 256))) sizU8p at3 rfl (by simp [eight_len];omega) rfl rfl) (fun h4 at_h4 ot_h4=>cw_ ?_)
   rw [eight_set w 4 i _ (by omega)] at at_h4
   conv=>whnf
   refine n_ ?_
   exact ⟨4 - (i+1),by omega,i+1,by omega,rfl,rfl,at_h4,fun c hc=>by rw [ot_h4 c hc];exact ot3 c hc⟩
  ·obtain rfl:i=4:=by omega
   rw [Nat.sub_self,List.replicate_zero,List.append_nil] at at3
   exact hk b _ n_b (fun c o e=>by rw [ot3 c (by rintro rfl;rw [n_b] at e;cases e)];exact e) ot3 at3
 ·refine fnv (args:=_) mixed [] [] [] Tryz.func35 rfl (by kernel_rfl) (cw_ ?_)
  refine new_intro (o:=rowO 5 (List.replicate 8 (.int .u8 0))) (fun b h2 n_b le_b at_b ot_b=>cw_ ?_)
  refine loop_at [11] [] (fun q vs _ h'=>∃ i:Nat,i≤8∧q=8 - i∧vs=[.v (.int .i64 i)]∧h' b=some (rowO 5 ((eightN w i).map byV++List.replicate (8 - i) (.int .u8 0)))∧∀ c,c≠b→h' c=h c) 8 ⟨0,by omega,by omega,rfl,at_b,ot_b⟩ ?_
  rintro q vs cs mm bx h3 ⟨i,hi,rfl,rfl,at3,ot3⟩
  have hlt:w / 2 ^ (8*i)<2 ^ 64:=Nat.lt_of_le_of_lt (Nat.div_le_self _ _) hw
  conv=>whnf
  refine br_ (fun q1=>?_) fun q1=>?_
  ·conv=>whnf
   refine n_ ?_
   refine n_ ?_
   refine val_by (shr64 w (8*i) (by omega)) (cw_ ?_)
   refine ov_by (show IntKind.u8.wrap ((w / 2 ^ (8*i):Nat):Int)=((UInt8.ofNat (w / 2 ^ (8*i) % 256)).toNat:Int) by rw [UInt8.toNat_ofNat',w8m];omega) ?_
   conv=>whnf
   refine n_ ?_
   refine wr_intro (by exact storeI (j:=i) (z:=byV (UInt8.ofNat (w / 2 ^ (8*i) % 256))) sizU8p at3 rfl (by simp [eight_len];omega) rfl rfl) (fun h4 at_h4 ot_h4=>cw_ ?_)
   rw [eight_set w 8 i _ (by omega)] at at_h4
   conv=>whnf
   refine n_ ?_
   exact ⟨8 - (i+1),by omega,i+1,by omega,rfl,rfl,at_h4,fun c hc=>by rw [ot_h4 c hc];exact ot3 c hc⟩
  ·obtain rfl:i=8:=by omega
   rw [Nat.sub_self,List.replicate_zero,List.append_nil] at at3
   exact hk b _ n_b (fun c o e=>by rw [ot3 c (by rintro rfl;rw [n_b] at e;cases e)];exact e) ot3 at3
end
end Go.Proofs.YtdhkjcdneidgaaaGreatDoor
