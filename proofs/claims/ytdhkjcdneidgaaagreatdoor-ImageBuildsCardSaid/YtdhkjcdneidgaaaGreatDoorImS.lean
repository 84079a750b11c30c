/-
  Images: labels, data, roots, pages, the program's.
-/
import Derived.Test.YtdhkjcdneidgaaaGreatDoorImN
set_option linter.unusedSimpArgs false
set_option linter.unusedVariables false
set_option maxHeartbeats 8000000
set_option maxRecDepth 10000
set_option linter.unusedSimpArgs false
set_option linter.unusedVariables false
namespace Go.Proofs.YtdhkjcdneidgaaaGreatDoor
open Go Go.Mid Go.RowKit Go.Bits
abbrev rfXImD0:Go.Mid.RF:=[(3,3),(9,3),(12,3),(17,3),(18,3),(24,3),(4,4),(8,4),(11,4),(20,4),(6,6)]
attribute [local irreducible] mid
abbrev rpT:TypeId:=91
abbrev rlT:TypeId:=38
def bT (b:Bd):Tb:=b.T.getD ⟨0,0,[]⟩
def rpC (p:Pc):List Value:=[.int .i64 p.line,.int .i64 p.n,ux p.at_,ux (u64N p.num),.int .i64 p.x.op,.int .i64 p.x.a,.int .i64 p.x.b,.int .i64 p.x.c,.int .i64 p.x.m,.int .i64 p.x.s,.bool p.x.aq,.bool p.x.rl,sv p.nm]
def lbC (l:Str×Nat):List Value:=[sv l.1,ux l.2]
abbrev rbC (b:Bd) (sP sL sT:Value):List Value:=[ux b.place,sP,sL,.bool b.T.isSome,ux (bT b).root,.int .i64 (bT b).frames,sT]
abbrev rbV (b:Bd) (sP sL sT:Value):Value:=.agg #[ux b.place,sP,sL,.bool b.T.isSome,ux (bT b).root,.int .i64 (bT b).frames,sT]
theorem rowNe {h:Hp} {c d:Nat} {el el':TypeId} {l l':List Value} (hc:h c=some (rowO el l)) (hd:h d=some (rowO el' l')) (hne:el≠el'):c≠d:=fun e=>by
 subst e
 rw [hc] at hd
 injection hd with hd
 unfold rowO at hd
 injection hd with _ h2 _
 exact hne h2
structure Dbo (k h:Hp) (b:Bd) (sP sL sT:Value) (oP oL:Option Nat):Prop where
 le:k.le h
 gP:Gr h rpT 13 sP b.pcs.length (b.pcs.flatMap rpC) oP
 gL:Gr h rlT 2 sL b.lbs.length (b.lbs.flatMap lbC) oL
 nP:∀ c,oP=some c→k c=none
 nL:∀ c,oL=some c→k c=none
 rT:Rd Tryz.prog enT 4 k sT ((bT b).L.map TE.v)
theorem Dbo.up {k h h':Hp} {b:Bd} {sP sL sT:Value} {oP oL:Option Nat} (w:Dbo k h b sP sL sT oP oL) (hle:h.le h'):Dbo k h' b sP sL sT oP oL :=
 ⟨Hp.le_trans w.le hle,w.gP.le hle,w.gL.le hle,w.nP,w.nL,w.rT⟩
theorem gr_keep {h h1:Hp} {e1 e2 n1 n2 l1 l2:Nat} {s1 s2:Value} {c1 c2:List Value} {o1 o2 o1':Option Nat} (g1:Gr h e1 n1 s1 l1 c1 o1) (g2:Gr h e2 n2 s2 l2 c2 o2) (hne:e1≠e2) (t:Turn h h1 o1 o1'):Gr h1 e2 n2 s2 l2 c2 o2:=by
 refine g2.agree fun c hc=>?_
 obtain ⟨_,⟨e,_⟩ | ⟨y,cap,rest,e,_,_,_,hy⟩⟩:=id g2
 ·rw [e] at hc;cases hc
 ·rw [e] at hc;cases hc
  have h2:=t.keep hy (g1.offR hy hne)
  exact h2.1.trans hy.symm
theorem Dbo.appP {k h h1:Hp} {b c:Bd} {sP sL sT s':Value} {oP oL oP':Option Nat} {p:Pc} (w:Dbo k h b sP sL sT oP oL) (g:Gr h1 rpT 13 s' (b.pcs.length+1) (b.pcs.flatMap rpC++rpC p) oP') (t:Turn h h1 oP oP') (e1:c.pcs=b.pcs++[p]) (e2:c.lbs=b.lbs) (e3:c.T=b.T):Dbo k h1 c s' sL sT oP' oL:=by
 have hle:=t.le w.le w.nP
 refine ⟨hle.1,?_,?_,hle.2,w.nL,?_⟩
 ·rw [e1,List.length_append,List.flatMap_append]
  show Gr h1 rpT 13 s' (b.pcs.length+1) (b.pcs.flatMap rpC++(rpC p++[])) oP'
  rw [List.append_nil];exact g
 ·rw [e2];exact gr_keep w.gP w.gL (by decide) t
 ·unfold bT;rw [e3];exact w.rT
theorem Dbo.appL {k h h1:Hp} {b c:Bd} {sP sL sT s':Value} {oP oL oL':Option Nat} {p:Str×Nat} (w:Dbo k h b sP sL sT oP oL) (g:Gr h1 rlT 2 s' (b.lbs.length+1) (b.lbs.flatMap lbC++lbC p) oL') (t:Turn h h1 oL oL') (e1:c.lbs=b.lbs++[p]) (e2:c.pcs=b.pcs) (e3:c.T=b.T):Dbo k h1 c sP s' sT oP oL':=by
 have hle:=t.le w.le w.nL
 refine ⟨hle.1,?_,?_,w.nP,hle.2,?_⟩
 ·rw [e2];exact gr_keep w.gL w.gP (by decide) t
 ·rw [e1,List.length_append,List.flatMap_append]
  show Gr h1 rlT 2 s' (b.lbs.length+1) (b.lbs.flatMap lbC++(lbC p++[])) oL'
  rw [List.append_nil];exact g
 ·unfold bT;rw [e3];exact w.rT
theorem Dbo.newT {k h h':Hp} {b c:Bd} {sP sL sT s':Value} {oP oL:Option Nat} {u:Tb} (w:Dbo k h b sP sL sT oP oL) (x:Owns h h' enT 4 s' u.L.length (u.L.flatMap TE.cs)) (e1:c.pcs=b.pcs) (e2:c.lbs=b.lbs) (e3:c.T=some u):∃ k',k.le k'∧Dbo k' h' c sP sL s' oP oL:=by
 have hle:=x.le
 have eT:bT c=u:=by unfold bT;rw [e3];rfl
 have rd:=ownsE x
 obtain ⟨ob,⟨h1,⟨_,rfl,h0⟩ | ⟨b0,cap,rest,e0,rfl,hcap,hrest,hb⟩⟩,_,hno⟩:=x
 ·refine ⟨k,Hp.le_refl _,Hp.le_trans w.le hle,by rw [e1];exact w.gP.le hle,by rw [e2];exact w.gL.le hle,w.nP,w.nL,?_⟩
  rw [eT,List.eq_nil_of_length_eq_zero h0];exact Rd.nil
 ·have hnb:=hno b0 e0
  have hkb:k b0=none:=Hp.none_le w.le hnb
  have offP:∀ o,(∃ el n s l cs,Gr h el n s l cs o)→∀ c,o=some c→c≠b0:=fun o hg c hc e=>by
   subst e
   obtain ⟨_,_,_,_,_,_,⟨e,_⟩ | ⟨y,_,_,e,_,_,_,hy⟩⟩:=hg
   ·rw [e] at hc;cases hc
   ·rw [e] at hc;cases hc;rw [hy] at hnb;cases hnb
  refine ⟨k.set b0 (rowO enT (u.L.flatMap TE.cs++rest)),Hp.le_set' hkb,Hp.set_le (Hp.le_trans w.le hle) hb,by rw [e1];exact w.gP.le hle,by rw [e2];exact w.gL.le hle,fun c hc=>?_,fun c hc=>?_,?_⟩
  ·rw [Hp.set_other _ _ (offP oP ⟨_,_,_,_,_,w.gP⟩ c hc)];exact w.nP c hc
  ·rw [Hp.set_other _ _ (offP oL ⟨_,_,_,_,_,w.gL⟩ c hc)];exact w.nL c hc
  ·rw [eT]
   refine ⟨_,cap,by rw [List.length_map],fun i v hv=>⟨_,rfl,?_⟩⟩
   rw [List.getElem?_map] at hv
   cases hx:u.L[i]? with
   | none=>rw [hx] at hv;cases hv
   | some x=>rw [hx] at hv;cases hv;exact loadH_agg (f:=TE.cs) aggEn sizEn (fun _=>rfl) (Hp.set_same _ _ _) hx
theorem grSl {h:Hp} {el n l:Nat} {s:Value} {cs:List Value} {o:Option Nat} (g:Gr h el n s l cs o):∃ a c,s=.slice a l c:=g.shape
theorem rdSl {h:Hp} {s:Value} {L:List TE} (r:Rd Tryz.prog enT 4 h s (L.map TE.v)):∃ a c,s=.slice a L.length c:=by
 obtain ⟨base,cap,e,_⟩:=r
 exact ⟨base,cap,by rw [e,List.length_map]⟩
def idxL:List (Str×Nat)→Str→Option Nat
 | [],_=>none
 | p :: r,w=>if p.1=w then some 0 else (idxL r w).map (·+1)
theorem idxL_find:∀ (l:List (Str×Nat)) (w:Str),findL l w=(idxL l w).bind fun i=>(l[i]?).map (·.2)
 | [],_=>rfl
 | p :: r,w=>by
  unfold findL idxL
  split
  ·rfl
  ·rw [idxL_find r w]
   cases idxL r w <;> rfl
theorem idxL_at:∀ (l:List (Str×Nat)) (w:Str) (i:Nat) (e:Str×Nat),l[i]? = some e→e.1=w→(∀ (j:Nat) (x:Str×Nat),j<i→l[j]? = some x→¬ x.1=w)→idxL l w=some i
 | [],_,_,_,h,_,_=>by simp at h
 | x :: L,w,0,e,h,he,_=>by
  simp at h;subst h
  unfold idxL;rw [if_pos he]
 | x :: L,w,i+1,e,h,he,hno=>by
  unfold idxL
  rw [if_neg (hno 0 x (by omega) rfl),idxL_at L w i e (by simpa using h) he fun j y hj hy=>hno (j+1) y (by omega) (by simpa using hy)]
  rfl
theorem idxL_none:∀ (l:List (Str×Nat)) (w:Str),(∀ (j:Nat) (x:Str×Nat),l[j]? = some x→¬ x.1=w)→idxL l w=none
 | [],_,_=>rfl
 | x :: L,w,hno=>by
  unfold idxL
  rw [if_neg (hno 0 x rfl),idxL_none L w fun j y hy=>hno (j+1) y (by simpa using hy)]
  rfl
theorem idxL_lt:∀ (l:List (Str×Nat)) (w:Str) (j:Nat),idxL l w=some j→j<l.length:=fun l=>by
 induction l with
 | nil=>intro w j hh;cases hh
 | cons x L ih =>
  intro w j hh
  unfold idxL at hh
  split at hh
  ·cases hh;simp
  ·cases hx:idxL L w with
   | none=>rw [hx] at hh;cases hh
   | some k=>rw [hx] at hh;cases hh;have:=ih w k hx;simp;omega
section
variable {h:Hp} {K:Value→Hp→Prop}
theorem aggRp:isAggT Tryz.prog 91=some true:=by kernel_rfl
theorem sizRp:sizeT Tryz.prog 91=some 13:=by kernel_rfl
theorem infRp:Tryz.prog.info? 91=some Tryz.prog.types[91]:=by kernel_rfl
theorem aggRl:isAggT Tryz.prog 38=some true:=by kernel_rfl
theorem sizRl:sizeT Tryz.prog 38=some 2:=by kernel_rfl
theorem infRl:Tryz.prog.info? 38=some Tryz.prog.types[38]:=by kernel_rfl
theorem lb_load {el:TypeId} {s:Value} {L:List (Str×Nat)} {o:Option Nat} (g:Gr h el 2 s L.length (L.flatMap lbC) o):∃ base cap,s=.slice base L.length cap∧∀ (i:Nat) (e:Str×Nat),L[i]? = some e→∃ a,base=some a∧∀ k v,(lbC e)[k]? = some v→h.cell? ((a.add (((i:Int)).toNat*2)).add k)=some v:=by
 obtain ⟨base,cap,e,f⟩:=g.rdN (P:=Tryz.prog) (f:=lbC) aggRl sizRl (fun _=>rfl)
 refine ⟨base,cap,by rw [e];simp,fun i x hx=>?_⟩
 obtain ⟨a,ea,hl⟩:=f i (.agg (lbC x).toArray) (by rw [List.getElem?_map,hx];rfl)
 rw [Int.toNat_natCast]
 exact ⟨a,ea,fun k v hv=>loadH_cellOf aggRl sizRl hl (by simpa using hv)⟩
theorem rlabel_x {k:Hp} {b:Bd} {sP sL sT:Value} {oP oL:Option Nat} (d:Dbo k h b sP sL sT oP oL) (hl:b.lbs.length≤2 ^ 20) (w:Str) (hk:K (.int .i64 (toI (idxL b.lbs w))) h):X Tryz.prog 50 #[rbV b sP sL sT,sv w] h K:=by
 obtain ⟨pa,pc,rfl⟩:=grSl d.gP
 obtain ⟨ta,tc,rfl⟩:=rdSl d.rT
 obtain ⟨la,lc,rfl,fL⟩:=lb_load d.gL
 refine fnv (args:=_) mixed [(2,2),(7,2),(13,2)] [] [] Tryz.func50 rfl (by kernel_rfl) (cw_ ?_)
 refine loop_at [5] [2] (fun q vs cs h'=>h=h'∧cs=[some (rbC b (.slice pa b.pcs.length pc) (.slice la b.lbs.length lc) (.slice ta (bT b).L.length tc))]∧∃ i:Nat,i≤b.lbs.length∧q=b.lbs.length - i∧vs=[.v (.int .i64 i)]∧∀ (j:Nat) (x:Str×Nat),j<i→b.lbs[j]? = some x→¬ x.1=w) b.lbs.length ⟨rfl,rfl,0,by omega,by omega,rfl,fun j x hj=>by omega⟩ ?_
 rintro q vs cs mm bx _ ⟨rfl,rfl,i,hi,rfl,rfl,hno⟩
 conv=>whnf
 refine br_ (fun q1=>?_) fun q1=>?_
 ·obtain ⟨e,he⟩:∃ e,b.lbs[i]? = some e:=⟨_,List.getElem?_eq_getElem (by omega)⟩
  obtain ⟨a,rfl,ca⟩:=fL i e he
  conv=>whnf
  refine n_ ?_
  refine ⟨_,(loadH_cell aggStI _ _).trans (ca 0 _ rfl),cw_ ?_⟩
  by_cases q2:e.1=w
  ·refine seq_true q2 ?_
   have ei:=idxL_at b.lbs w i e he q2 hno
   rw [ei] at hk
   conv=>whnf
   exact hk
  ·refine seq_false q2 (cw_ ?_)
   refine n_ ?_
   refine ⟨b.lbs.length - (i+1),by omega,rfl,rfl,i+1,by omega,rfl,rfl,fun j x hj hx=>?_⟩
   by_cases e2:j=i
   ·subst e2;rw [he] at hx;cases hx;exact q2
   ·exact hno j x (by omega) hx
 ·have ei:=idxL_none b.lbs w fun j x hx=>hno j x (by have:=(List.getElem?_eq_some_iff.1 hx).1;omega) hx
  rw [ei] at hk
  conv=>whnf
  exact hk
theorem rimlay_x {k:Hp} {b:Bd} {sP sL sT:Value} {oP oL:Option Nat} (d:Dbo k h b sP sL sT oP oL) (hb:b.place<2 ^ 64) (hl:b.pcs.length≤2 ^ 20) (p:Pc) (ln:Int) (hn:p.n≤100) (hk:∀ sP' oP' h',Dbo k h' (layPc b ln p.n p.num p.x p.nm) sP' sL sT oP' oL→K (rbV (layPc b ln p.n p.num p.x p.nm) sP' sL sT) h'):X Tryz.prog 84 #[rbV b sP sL sT,.agg (rpC p).toArray,.int .i64 ln] h K:=by
 obtain ⟨pa,pc,rfl⟩:=grSl d.gP
 obtain ⟨ta,tc,rfl⟩:=rdSl d.rT
 obtain ⟨la,lc,rfl⟩:=grSl d.gL
 refine fnv (args:=_) mixed rfXImD0 [] [] Tryz.func84 rfl (by kernel_rfl) (cw_ ?_)
 refine new_intro (o:=rowO 91 (rpC ⟨ln,b.place,p.n,p.num,p.x,p.nm⟩)) (fun z h2 n_z le_z at_z ot_z=>cw_ ?_)
 have d2:=d.up le_z
 refine appOne (z:=.agg (rpC ⟨0,0,0,0,in0,[]⟩).toArray) (by kernel_rfl) infRp (by kernel_rfl) (by kernel_rfl) (by kernel_rfl) rfl (bytes:=104) (by decide) rfl rfl rfl d2.gP at_z rfl rfl (by omega) fun s' h3 oP' g3 t3=>?_
 have e0:u64N p.num=u64N p.num:=rfl
 obtain ⟨sa,sc,rfl⟩:=g3.shape
 have d3:=d2.appP (c:=layPc b ln p.n p.num p.x p.nm) (p:=⟨ln,b.place,p.n,p.num,p.x,p.nm⟩) g3 t3 rfl rfl rfl
 conv=>whnf
 refine ov_by (show IntKind.u64.wrap (p.n:Int)=(p.n:Int) from w64 (by omega)) (cw_ ?_)
 refine ov_by (show IntKind.u64.wrap ((b.place:Int)+(p.n:Int))=(((b.place+p.n) % 2 ^ 64:Nat):Int) by rw [toU64];omega) ?_
 exact hk _ _ _ d3
end
end Go.Proofs.YtdhkjcdneidgaaaGreatDoor
namespace Go.Proofs.YtdhkjcdneidgaaaGreatDoor
open Go Go.Mid Go.RowKit Go.Bits
attribute [local irreducible] mid
abbrev blT:TypeId:=69
abbrev ipT:TypeId:=113
abbrev ilT:TypeId:=37
def ipC (p:Pc):List Value:=[.int .i64 p.line,ux p.at_,.int .i64 p.n,.int .i64 p.num,.int .i64 p.x.op,.int .i64 p.x.a,.int .i64 p.x.b,.int .i64 p.x.c,.int .i64 p.x.m,.int .i64 p.x.s,.bool p.x.aq,.bool p.x.rl,sv p.nm]
def labF (l:List (Str×Nat)) (w:Str):Option Value:=(findL l w).map fun a=>.agg #[sv w,ux a]
def tpV (T:Option Tb) (tb:Nat):Value:=match T with
 | none=>.pointer none
 | some _=>.pointer (some ⟨tb,0,none⟩)
def blC (x:Bd) (n:Int) (m tb:Nat) (sP sL:Value):List Value:=[.int .i64 n,ux x.place,sP,.map (some m),sL,tpV x.T tb]
structure Bob (k h:Hp) (b m tb tm:Nat) (x:Bd) (ls:List (Str×Nat)) (n:Int) (sP sL:Value) (oP oL:Option Nat):Prop where
 le:k.le h
 row:h b=some (rowO blT (blC x n m tb sP sL))
 kb:k b=none
 gP:Gr h ipT 13 sP x.pcs.length (x.pcs.flatMap ipC) oP
 gL:Gr h ilT 2 sL x.lbs.length (x.lbs.flatMap lbC) oL
 nP:∀ c,oP=some c→k c=none
 nL:∀ c,oL=some c→k c=none
 mp:∃ o c,h m=some o∧MapB sv (labF ls) c o
 km:k m=none
 T:∀ t,x.T=some t→TbO h tb tm t∧k tb=none∧k tm=none∧tm≠m
theorem mapNe {α:Type} [DecidableEq α] {enc:α→Value} {f:α→Option Value} {c m n:Nat} {h:Hp} {el:TypeId} {l:List Value} {o:Obj} (hc:h c=some (rowO el l)) (hm:h m=some o) (hM:MapB enc f n o):c≠m:=fun e=>by
 subst e
 obtain ⟨_,_,rfl,_⟩:=hM
 rw [hc] at hm
 injection hm with hm
 unfold rowO at hm
 cases hm
theorem grNe {α:Type} [DecidableEq α] {enc:α→Value} {f:α→Option Value} {m c:Nat} {h:Hp} {el n l:Nat} {s:Value} {cs:List Value} {o:Option Nat} {ob:Obj} (g:Gr h el n s l cs o) (hm:h m=some ob) (hM:MapB enc f c ob):∀ x,o=some x→x≠m:=fun x hx=>by
 obtain ⟨_,⟨e,_⟩ | ⟨y,cap,rest,e,_,_,_,hy⟩⟩:=g
 ·rw [e] at hx;cases hx
 ·rw [e] at hx;cases hx
  exact mapNe hy hm hM
section
theorem svT:KeyT Tryz.prog 9 sv where
 under:=Option.isSome_iff_exists.1 (by kernel_rfl)
 key:=fun a=>by kernel_rfl
 equal:=fun a b=>by
  have e:eqV Tryz.prog 10000 9 (sv a) (sv b)=some ((bs a).toList==(bs b).toList):=by kernel_rfl
  rw [e,bs_eq]
 same:=fun a=>by
  show (bs a==bs a)=true
  have e2:(bs a==bs a)=(a.toArray==a.toArray):=rfl
  rw [e2]
  simp
end
theorem Bob.appP {k h h1 h':Hp} {b m tb tm:Nat} {ls:List (Str×Nat)} {x y:Bd} {n:Int} {sP sL s':Value} {oP oL oP':Option Nat} {p:Pc} (w:Bob k h b m tb tm x ls n sP sL oP oL) (g:Gr h1 ipT 13 s' (x.pcs.length+1) (x.pcs.flatMap ipC++ipC p) oP') (t:Turn h h1 oP oP') (a:h' b=some (rowO blT (blC y n m tb s' sL))) (o:∀ c,c≠b→h' c=h1 c) (e1:y.pcs=x.pcs++[p]) (e2:y.lbs=x.lbs) (e3:y.T=x.T):Bob k h' b m tb tm y ls n s' sL oP' oL:=by
 have hb:=t.keep w.row (w.gP.offR w.row (by decide))
 have hle:=t.le w.le w.nP
 obtain ⟨ob,cm,hm,hM⟩:=w.mp
 have hm1:=t.keep hm (grNe w.gP hm hM)
 have keep:∀ c z,h c=some z→(∀ q,oP=some q→q≠c)→c≠b→h' c=some z:=fun c z hc hn hcb=>by rw [o c hcb];exact (t.keep hc hn).1
 refine ⟨fun c y hc=>?_,a,w.kb,?_,?_,hle.2,w.nL,⟨ob,cm,keep m ob hm (grNe w.gP hm hM) (Ne.symm (mapNe w.row hm hM)),hM⟩,w.km,fun q hq=>?_⟩
 ·rw [o c fun e=>by subst e;rw [w.kb] at hc;cases hc];exact hle.1 _ _ hc
 ·rw [e1,List.length_append,List.flatMap_append]
  show Gr h' ipT 13 s' (x.pcs.length+1) (x.pcs.flatMap ipC++(ipC p++[])) oP'
  rw [List.append_nil]
  exact g.agree fun c hc=>o c (g.offR hb.1 (by decide) c hc)
 ·rw [e2]
  refine (gr_keep w.gP w.gL (by decide) t).agree fun c hc=>o c ?_
  exact (gr_keep w.gP w.gL (by decide) t).offR hb.1 (by decide) c hc
 ·rw [e3] at hq
  obtain ⟨i,h1',h2',h3'⟩:=w.T q hq
  obtain ⟨ot,ct,g1,g2,g3⟩:=i.map
  exact ⟨⟨keep tb _ i.row (w.gP.offR i.row (by decide)) (rowNe i.row w.row (by decide)),ot,ct,keep tm _ g1 (grNe w.gP g1 g2) (Ne.symm (mapNe w.row g1 g2)),g2,g3⟩,h1',h2',h3'⟩
theorem Bob.st {k h h':Hp} {b m tb tm:Nat} {ls:List (Str×Nat)} {x y:Bd} {n n':Int} {sP sL:Value} {oP oL:Option Nat} (w:Bob k h b m tb tm x ls n sP sL oP oL) (a:h' b=some (rowO blT (blC y n' m tb sP sL))) (o:∀ c,c≠b→h' c=h c) (e1:y.pcs=x.pcs) (e2:y.lbs=x.lbs) (e3:y.T=x.T):Bob k h' b m tb tm y ls n' sP sL oP oL:=by
 obtain ⟨ob,cm,hm,hM⟩:=w.mp
 refine ⟨fun c y hc=>?_,a,w.kb,?_,?_,w.nP,w.nL,⟨ob,cm,(o m (Ne.symm (mapNe w.row hm hM))).trans hm,hM⟩,w.km,fun q hq=>?_⟩
 ·rw [o c fun e=>by subst e;rw [w.kb] at hc;cases hc];exact w.le _ _ hc
 ·rw [e1];exact w.gP.agree fun c hc=>o c (w.gP.offR w.row (by decide) c hc)
 ·rw [e2];exact w.gL.agree fun c hc=>o c (w.gL.offR w.row (by decide) c hc)
 ·rw [e3] at hq
  obtain ⟨i,h1',h2',h3'⟩:=w.T q hq
  obtain ⟨ot,ct,g1,g2,g3⟩:=i.map
  exact ⟨⟨(o tb (rowNe i.row w.row (by decide))).trans i.row,ot,ct,(o tm (Ne.symm (mapNe w.row g1 g2))).trans g1,g2,g3⟩,h1',h2',h3'⟩
theorem Bob.up {k h h':Hp} {b m tb tm:Nat} {ls:List (Str×Nat)} {x:Bd} {n:Int} {sP sL:Value} {oP oL:Option Nat} (w:Bob k h b m tb tm x ls n sP sL oP oL) (hle:h.le h'):Bob k h' b m tb tm x ls n sP sL oP oL:=by
 obtain ⟨ob,cm,hm,hM⟩:=w.mp
 exact ⟨Hp.le_trans w.le hle,hle _ _ w.row,w.kb,w.gP.le hle,w.gL.le hle,w.nP,w.nL,⟨ob,cm,hle _ _ hm,hM⟩,w.km,fun q hq=>⟨(w.T q hq).1.le hle,(w.T q hq).2⟩⟩
theorem Bob.mapU {k h h':Hp} {b m tb tm:Nat} {ls ls':List (Str×Nat)} {x:Bd} {n:Int} {sP sL:Value} {oP oL:Option Nat} {c':Nat} {o':Obj} (w:Bob k h b m tb tm x ls n sP sL oP oL) (hM':MapB sv (labF ls') c' o') (a:h' m=some o') (o:∀ c,c≠m→h' c=h c):Bob k h' b m tb tm x ls' n sP sL oP oL:=by
 obtain ⟨ob,cm,hm,hM⟩:=w.mp
 refine ⟨fun c y hc=>?_,(o b (mapNe w.row hm hM)).trans w.row,w.kb,?_,?_,w.nP,w.nL,⟨o',c',a,hM'⟩,w.km,fun q hq=>?_⟩
 ·rw [o c fun e=>by subst e;rw [w.km] at hc;cases hc];exact w.le _ _ hc
 ·exact w.gP.agree fun c hc=>o c (grNe w.gP hm hM c hc)
 ·exact w.gL.agree fun c hc=>o c (grNe w.gL hm hM c hc)
 ·obtain ⟨i,h1',h2',h3'⟩:=w.T q hq
  obtain ⟨ot,ct,g1,g2,g3⟩:=i.map
  exact ⟨⟨(o tb (mapNe i.row hm hM)).trans i.row,ot,ct,(o tm h3').trans g1,g2,g3⟩,h1',h2',h3'⟩
theorem Bob.appL {k h h1 h':Hp} {b m tb tm:Nat} {ls:List (Str×Nat)} {x y:Bd} {n:Int} {sP sL s':Value} {oP oL oL':Option Nat} {p:Str×Nat} (w:Bob k h b m tb tm x ls n sP sL oP oL) (g:Gr h1 ilT 2 s' (x.lbs.length+1) (x.lbs.flatMap lbC++lbC p) oL') (t:Turn h h1 oL oL') (a:h' b=some (rowO blT (blC y n m tb sP s'))) (o:∀ c,c≠b→h' c=h1 c) (e1:y.pcs=x.pcs) (e2:y.lbs=x.lbs++[p]) (e3:y.T=x.T):Bob k h' b m tb tm y ls n sP s' oP oL':=by
 have hb:=t.keep w.row (w.gL.offR w.row (by decide))
 have hle:=t.le w.le w.nL
 obtain ⟨ob,cm,hm,hM⟩:=w.mp
 have keep:∀ c z,h c=some z→(∀ q,oL=some q→q≠c)→c≠b→h' c=some z:=fun c z hc hn hcb=>by rw [o c hcb];exact (t.keep hc hn).1
 refine ⟨fun c y hc=>?_,a,w.kb,?_,?_,w.nP,hle.2,⟨ob,cm,keep m ob hm (grNe w.gL hm hM) (Ne.symm (mapNe w.row hm hM)),hM⟩,w.km,fun q hq=>?_⟩
 ·rw [o c fun e=>by subst e;rw [w.kb] at hc;cases hc];exact hle.1 _ _ hc
 ·rw [e1]
  have gk:=gr_keep w.gL w.gP (by decide) t
  exact gk.agree fun c hc=>o c (gk.offR hb.1 (by decide) c hc)
 ·rw [e2,List.length_append,List.flatMap_append]
  show Gr h' ilT 2 s' (x.lbs.length+1) (x.lbs.flatMap lbC++(lbC p++[])) oL'
  rw [List.append_nil]
  exact g.agree fun c hc=>o c (g.offR hb.1 (by decide) c hc)
 ·rw [e3] at hq
  obtain ⟨i,h1',h2',h3'⟩:=w.T q hq
  obtain ⟨ot,ct,g1,g2,g3⟩:=i.map
  exact ⟨⟨keep tb _ i.row (w.gL.offR i.row (by decide)) (rowNe i.row w.row (by decide)),ot,ct,keep tm _ g1 (grNe w.gL g1 g2) (Ne.symm (mapNe w.row g1 g2)),g2,g3⟩,h1',h2',h3'⟩
theorem labF_snoc {l:List (Str×Nat)} {t:Str} {a:Nat} (hn:findL l t=none):putF (labF l) t (some (.agg #[sv t,ux a]))=labF (l++[(t,a)]):=by
 have app:∀ (l:List (Str×Nat)) (w:Str),findL (l++[(t,a)]) w=match findL l w with
  | some v=>some v
  | none=>if t=w then some a else none:=by
  intro l w
  induction l with
  | nil=>rfl
  | cons p l ih =>
   show (if p.1=w then some p.2 else findL (l++[(t,a)]) w)=(match (if p.1=w then some p.2 else findL l w) with
    | some v=>some v
    | none=>if t=w then some a else none)
   split
   ·rfl
   ·exact ih
 funext w
 unfold putF labF
 rw [app]
 by_cases e:w=t
 ·subst e
  rw [if_pos rfl,hn]
  simp
 ·rw [if_neg e]
  cases findL l w with
  | some v=>rfl
  | none=>simp [Ne.symm e]
end Go.Proofs.YtdhkjcdneidgaaaGreatDoor
namespace Go.Proofs.YtdhkjcdneidgaaaGreatDoor
open Go Go.Mid Go.RowKit Go.Bits
attribute [local irreducible] mid
section
variable {k h:Hp} {K:Value→Hp→Prop} {E:List PanicEntry→Hp→Prop}
theorem aggIpS:isAggT Tryz.prog 67=some false:=by kernel_rfl
theorem sizIpS:sizeT Tryz.prog 67=some 1:=by kernel_rfl
theorem sizU6:sizeT Tryz.prog 25=some 1:=by kernel_rfl
theorem infIp:Tryz.prog.info? 113=some Tryz.prog.types[113]:=by kernel_rfl
theorem ilay_x {b m tb tm:Nat} {ls:List (Str×Nat)} {x:Bd} {n:Int} {sP sL:Value} {oP oL:Option Nat} (w:Bob k h b m tb tm x ls n sP sL oP oL) (hb:x.place<2 ^ 64) (hl:x.pcs.length≤2 ^ 20) (p:Pc) (hn:p.n≤100) (hk:∀ sP' oP' h',Bob k h' b m tb tm (layPc x n p.n p.num p.x p.nm) ls n sP' sL oP' oL→K (.tuple #[]) h'):X Tryz.prog 109 #[.pointer (some ⟨b,0,none⟩),.agg (ipC p).toArray] h K:=by
 obtain ⟨pa,pc,rfl⟩:=w.gP.shape
 obtain ⟨la,lc,rfl⟩:=w.gL.shape
 refine fnv (args:=_) mixed [(3,3),(12,3),(13,3),(28,3)] [] [] Tryz.func109 rfl (by kernel_rfl) (cw_ ?_)
 refine ⟨_,loadC0 aggIn w.row rfl,cw_ ?_⟩
 refine ⟨_,loadC (i:=1) aggU6 w.row rfl,cw_ ?_⟩
 refine ⟨_,loadC (i:=2) aggIpS w.row rfl,cw_ ?_⟩
 refine new_intro (o:=rowO 113 (ipC ⟨n,x.place,p.n,p.num,p.x,p.nm⟩)) (fun z h2 n_z le_z at_z ot_z=>cw_ ?_)
 have w2:=w.up le_z
 refine appOne (z:=.agg (ipC ⟨0,0,0,0,in0,[]⟩).toArray) (by kernel_rfl) infIp (by kernel_rfl) (by kernel_rfl) (by kernel_rfl) rfl (bytes:=104) (by decide) rfl rfl rfl w2.gP at_z rfl rfl (by omega) fun s' h3 oP' g3 t3=>?_
 have r3:=(t3.keep w2.row (w2.gP.offR w2.row (by decide))).1
 obtain ⟨sa,sc,rfl⟩:=g3.shape
 refine ⟨trivial,cw_ ?_⟩
 refine wr_intro (by exact storeC (i:=2) sizIpS r3 (show 2<6 by decide) rfl rfl) (fun h4 at_h4 ot_h4=>cw_ ?_)
 have w4:=w2.appP (y:={ x with pcs:=x.pcs++[⟨n,x.place,p.n,p.num,p.x,p.nm⟩] }) (p:=⟨n,x.place,p.n,p.num,p.x,p.nm⟩) g3 t3 at_h4 ot_h4 rfl rfl rfl
 refine ⟨trivial,cw_ ?_⟩
 refine ⟨_,loadC (i:=1) aggU6 w4.row rfl,cw_ ?_⟩
 refine ov_by (show IntKind.u64.wrap (p.n:Int)=(p.n:Int) from w64 (by omega)) (cw_ ?_)
 refine ov_by (show IntKind.u64.wrap ((x.place:Int)+(p.n:Int))=(((x.place+p.n) % 2 ^ 64:Nat):Int) by rw [toU64];omega) ?_
 conv=>whnf
 refine wr_intro (by exact storeC (i:=1) sizU6 w4.row (show 1<6 by decide) rfl rfl) (fun h5 at_h5 ot_h5=>cw_ ?_)
 have w5:=w4.st (y:=layPc x n p.n p.num p.x p.nm) (n':=n) at_h5 ot_h5 rfl rfl rfl
 refine ⟨trivial,cw_ ?_⟩
 exact hk _ _ _ w5
end
end Go.Proofs.YtdhkjcdneidgaaaGreatDoor
namespace Go.Proofs.YtdhkjcdneidgaaaGreatDoor
open Go Go.Mid Go.RowKit Go.Bits
attribute [local irreducible] mid
structure IB (k:Hp) (b m:Nat) (n:Int) (K:Value→Hp→Prop) (E:List PanicEntry→Hp→Prop) (r:Except Int Bd):Prop where
 err:∀ e h',r=.error e→k.le h'→(∃ l,h' b=some (rowO blT (.int .i64 n :: l)))→E [{ v:=istop e,recovered:=false }] h'
 ok:∀ c sP sL oP oL tb tm k' h',r=.ok c→k.le k'→Bob k' h' b m tb tm c c.lbs n sP sL oP oL→K (.tuple #[]) h'
theorem Bob.rowE {k h:Hp} {b m tb tm:Nat} {ls:List (Str×Nat)} {x:Bd} {n:Int} {sP sL:Value} {oP oL:Option Nat} (w:Bob k h b m tb tm x ls n sP sL oP oL):∃ l,h b=some (rowO blT (.int .i64 n :: l)):=⟨_,w.row⟩
theorem dataP_len' {b:Bd} {ln:Int} {n:Nat} {r:List Str} (h:r.length≠1):dataP b ln n r=.error 2:=by
 match r,h with
 | [],_=>rfl
 | [_],h=>exact absurd rfl h
 | _ :: _ :: _,_=>rfl
section
variable {k h:Hp} {K:Value→Hp→Prop} {E:List PanicEntry→Hp→Prop}
theorem mapLb:Tryz.prog.underlying 66=some (.map 9 37):=by kernel_rfl
theorem lbZ:zeroT Tryz.prog 37=some (.agg #[sv [],ux 0]):=by kernel_rfl
theorem aggLM:isAggT Tryz.prog 66=some false:=by kernel_rfl
theorem aggLS:isAggT Tryz.prog 24=some false:=by kernel_rfl
theorem sizLS:sizeT Tryz.prog 24=some 1:=by kernel_rfl
theorem infIl:Tryz.prog.info? 37=some Tryz.prog.types[37]:=by kernel_rfl
theorem ilabel_x {b m tb tm:Nat} {x:Bd} {n:Int} {sP sL:Value} {oP oL:Option Nat} (w:Bob k h b m tb tm x x.lbs n sP sL oP oL) (hl:x.lbs.length≤2 ^ 20) (t:Str) (ht:t.length≤2 ^ 20) (R:IB k b m n K E (labelP x t)):XE Tryz.prog 76 #[.pointer (some ⟨b,0,none⟩),sv t] h K E:=by
 obtain ⟨pa,pc,rfl⟩:=w.gP.shape
 obtain ⟨la,lc,rfl⟩:=w.gL.shape
 obtain ⟨om,cm,hm,hM⟩:=w.mp
 unfold labelP at R
 refine fnu (args:=_) mixed [(4,4),(6,6)] [] [] [(999998,[0,2])] Tryz.func76 rfl (by kernel_rfl) (cw_ ?_)
 refine X.toE (iname_x t ht ?_)
 conv=>whnf
 refine imust_x _ 9 (fun hq=>?_) (fun hq=>?_)
 rotate_left
 ·rw [if_neg (by rw [hq];simp)] at R
  exact R.err 9 h rfl w.le w.rowE
 rw [if_pos hq] at R
 have lk:=MapB.look mapLb lbZ svT hm hM t true
 conv=>whnf
 refine ⟨_,loadC (i:=3) aggLM w.row rfl,cw_ ?_⟩
 unfold labF at lk
 cases hf:findL x.lbs t with
 | some a =>
  rw [hf] at lk R
  simp only at R
  refine ⟨_,lk,cw_ ?_⟩
  refine imust_x _ 8 (fun hh=>(by cases hh)) (fun _=>?_)
  exact R.err 8 h rfl w.le w.rowE
 | none =>
  rw [hf] at lk R
  simp only at R
  refine ⟨_,lk,cw_ ?_⟩
  refine imust_x _ 8 (fun _=>?_) (fun hh=>(by cases hh))
  conv=>whnf
  refine ⟨_,loadC (i:=1) aggU6 w.row rfl,cw_ ?_⟩
  refine ⟨_,loadC (i:=3) aggLM w.row rfl,cw_ ?_⟩
  have hob_:=MapB.upd mapLb svT hm hM t (.agg #[sv t,ux x.place])
  obtain ⟨o',hup,hM'⟩:=hob_
  refine wr_intro (by exact hup) (fun h2 at_h2 ot_h2=>cw_ ?_)
  rw [labF_snoc hf] at hM'
  have w2:=w.mapU hM' at_h2 ot_h2
  refine ⟨trivial,cw_ ?_⟩
  refine ⟨_,loadC (i:=4) aggLS w2.row rfl,cw_ ?_⟩
  refine new_intro (o:=rowO 37 (lbC (t,x.place))) (fun z h3 n_z le_z at_z ot_z=>cw_ ?_)
  have w3:=w2.up le_z
  refine appOne (z:=.agg #[sv [],ux 0]) (by kernel_rfl) infIl (by kernel_rfl) (by kernel_rfl) (by kernel_rfl) rfl (bytes:=24) (by decide) rfl rfl rfl w3.gL at_z rfl rfl (by omega) fun s' h4 oL' g4 t4=>?_
  have r4:=(t4.keep w3.row (w3.gL.offR w3.row (by decide))).1
  obtain ⟨sa,sc,rfl⟩:=g4.shape
  refine ⟨trivial,cw_ ?_⟩
  refine wr_intro (by exact storeC (i:=4) sizLS r4 (show 4<6 by decide) rfl rfl) (fun h5 at_h5 ot_h5=>cw_ ?_)
  have w5:=w3.appL (y:={ x with lbs:=x.lbs++[(t,x.place)] }) (p:=(t,x.place)) g4 t4 at_h5 ot_h5 rfl rfl rfl
  refine ⟨trivial,cw_ ?_⟩
  exact R.ok { x with lbs:=x.lbs++[(t,x.place)] } _ _ _ _ _ _ k _ rfl (Hp.le_refl _) w5
theorem idata_x (her:Er h) (hpw:Pow h) {b m tb tm:Nat} {x:Bd} {n:Int} {sP sL sl:Value} {oP oL:Option Nat} (w:Bob k h b m tb tm x x.lbs n sP sL oP oL) (hb:x.place<2 ^ 64) (hl:x.pcs.length≤2 ^ 20) {w0:Str} {r:List Str} (rw_:WdR h sl (w0 :: r)) (z:Nat) (hz:z=4∨z=8) (R:IB k b m n K E (dataP x n z r)):XE Tryz.prog 78 #[.pointer (some ⟨b,0,none⟩),sl,.int .i64 z] h K E:=by
 obtain ⟨base,cap,rfl,fW⟩:=rw_.at_
 have hn20:=rw_.n
 have hwl:=rw_.l
 obtain ⟨pa,pc,rfl⟩:=w.gP.shape
 obtain ⟨la,lc,rfl⟩:=w.gL.shape
 obtain ⟨a0,rfl,l0⟩:=fW 0 w0 rfl
 have hlen:(w0 :: r).length=r.length+1:=rfl
 refine fnu (args:=_) mixed [] [] [] [(999998,[0,3,6,7])] Tryz.func78 rfl (by kernel_rfl) (cw_ ?_)
 refine imust_x _ 2 (fun hq=>?_) (fun hq=>?_)
 rotate_left
 ·have hq:=of_decide_eq_false hq
  exact R.err 2 h (dataP_len' (by omega)) w.le w.rowE
 have hq:=of_decide_eq_true hq
 obtain ⟨v,rfl⟩:=List.length_eq_one_iff.1 (show r.length=1 by omega)
 have hvl:v.length≤2 ^ 20:=hwl v (by simp)
 obtain ⟨a1,ea1,l1⟩:=fW 1 v rfl
 cases ea1
 conv=>whnf
 refine ⟨_,l1,cw_ ?_⟩
 refine icutP_x v 64 (by omega) ?_
 have e1:dataP x n z [v]=if v[0]? = some 64 then (if nameB (v.drop 1)=true then .ok (layPc x n z 0 in0 (v.drop 1)) else .error 2) else match numA v with
  | none=>.error 2
  | some k=>if z=8∨(-2147483648≤k∧k<4294967296) then .ok (layPc x n z k in0 []) else .error 3:=rfl
 rw [e1] at R
 clear e1
 by_cases hv0:v[0]? = some 64
 ·rw [if_pos hv0,decide_eq_true hv0]
  rw [if_pos hv0] at R
  generalize hnm:v.drop 1=nm at R ⊢
  have hnl:nm.length≤2 ^ 20:=by rw [← hnm,List.length_drop];omega
  conv=>whnf
  refine X.toE (iname_x nm hnl ?_)
  conv=>whnf
  refine imust_x _ 2 (fun hq=>?_) (fun hq=>?_)
  rotate_left
  ·rw [if_neg (by rw [hq];simp)] at R
   exact R.err 2 h rfl w.le w.rowE
  rw [if_pos hq] at R
  conv=>whnf
  refine ilay_x w hb hl ⟨0,0,z,0,in0,nm⟩ (show z≤100 by omega) fun sP' oP' h' w'=>(cw_ ?_)
  exact R.ok _ _ _ _ _ _ _ k _ rfl (Hp.le_refl _) w'
 rw [if_neg hv0,decide_eq_false hv0]
 rw [if_neg hv0] at R
 conv=>whnf
 refine ⟨_,l1,cw_ ?_⟩
 refine anumber_x her hpw v (by omega) ?_
 cases hnA:numA v with
 | none =>
  rw [hnA] at R
  conv=>whnf
  refine imust_x _ 2 (fun hh=>(by cases hh)) (fun _=>?_)
  exact R.err 2 h rfl w.le w.rowE
 | some kk =>
  rw [hnA] at R
  simp only at R
  have hv:=numA_rng hnA
  rw [show okV (some kk)=.tuple #[.int .i64 kk,.bool true] from rfl]
  conv=>whnf
  refine imust_x _ 2 (fun _=>?_) (fun hh=>(by cases hh))
  conv=>whnf
  refine br_ (fun q5=>?_) fun q5=>?_
  ·rw [if_pos (.inl (by omega))] at R
   conv=>whnf
   refine imust_x _ 3 (fun _=>?_) (fun hh=>(by cases hh))
   conv=>whnf
   refine ilay_x w hb hl ⟨0,0,z,kk,in0,[]⟩ (show z≤100 by omega) fun sP' oP' h' w'=>(cw_ ?_)
   exact R.ok _ _ _ _ _ _ _ k _ rfl (Hp.le_refl _) w'
  have hz4:z≠8:=by omega
  conv=>whnf
  refine br_ (fun q6=>?_) fun q6=>?_
  ·conv=>whnf
   refine imust_x _ 3 (fun hq=>?_) (fun hq=>?_)
   rotate_left
   ·have hq:=of_decide_eq_false hq
    rw [if_neg (by omega)] at R
    exact R.err 3 h rfl w.le w.rowE
   have hq:=of_decide_eq_true hq
   rw [if_pos (.inr (by omega))] at R
   conv=>whnf
   refine ilay_x w hb hl ⟨0,0,z,kk,in0,[]⟩ (show z≤100 by omega) fun sP' oP' h' w'=>(cw_ ?_)
   exact R.ok _ _ _ _ _ _ _ k _ rfl (Hp.le_refl _) w'
  ·conv=>whnf
   refine imust_x _ 3 (fun hh=>(by cases hh)) (fun _=>?_)
   rw [if_neg (by omega)] at R
   exact R.err 3 h rfl w.le w.rowE
end
end Go.Proofs.YtdhkjcdneidgaaaGreatDoor
