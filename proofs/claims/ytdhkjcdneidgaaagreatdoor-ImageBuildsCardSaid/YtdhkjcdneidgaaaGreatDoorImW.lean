/-
  Images: a source's lines, the program's.
-/
import Derived.Test.YtdhkjcdneidgaaaGreatDoorImS
import Derived.Test.YtdhkjcdneidgaaaGreatDoorInsP
import Derived.Test.YtdhkjcdneidgaaaGreatDoorAsH
import Derived.Test.YtdhkjcdneidgaaaGreatDoorRgRegA
import Derived.Test.YtdhkjcdneidgaaaGreatDoorImP
set_option linter.unusedSimpArgs false
set_option linter.unusedVariables false
set_option maxHeartbeats 8000000
set_option maxRecDepth 10000
set_option linter.unusedSimpArgs false
set_option linter.unusedVariables false
namespace Go.Proofs.YtdhkjcdneidgaaaGreatDoor
open Go Go.Mid Go.RowKit Go.Bits
attribute [local irreducible] mid
theorem Bob.setT {k h h':Hp} {b m tb tm tb' tm':Nat} {ls:List (Str×Nat)} {x:Bd} {n:Int} {sP sL:Value} {oP oL:Option Nat} {t:Tb} (w:Bob k h b m tb tm x ls n sP sL oP oL) (i:TbO h tb' tm' t) (h1:k tb'=none) (h2:k tm'=none) (h3:tm'≠m) (a:h' b=some (rowO blT (blC { x with T:=some t } n m tb' sP sL))) (o:∀ c,c≠b→h' c=h c):Bob k h' b m tb' tm' { x with T:=some t } ls n sP sL oP oL:=by
 obtain ⟨ob,cm,hm,hM⟩:=w.mp
 refine ⟨fun c y hc=>?_,a,w.kb,?_,?_,w.nP,w.nL,⟨ob,cm,(o m (Ne.symm (mapNe w.row hm hM))).trans hm,hM⟩,w.km,fun q hq=>?_⟩
 ·rw [o c fun e=>by subst e;rw [w.kb] at hc;cases hc];exact w.le _ _ hc
 ·exact w.gP.agree fun c hc=>o c (w.gP.offR w.row (by decide) c hc)
 ·exact w.gL.agree fun c hc=>o c (w.gL.offR w.row (by decide) c hc)
 ·cases hq
  obtain ⟨ot,ct,g1,g2,g3⟩:=i.map
  exact ⟨⟨(o tb' (rowNe i.row w.row (by decide))).trans i.row,ot,ct,(o tm' (Ne.symm (mapNe w.row g1 g2))).trans g1,g2,g3⟩,h1,h2,h3⟩
theorem Bob.tabs {k h h':Hp} {b m tb tm:Nat} {ls:List (Str×Nat)} {x:Bd} {n:Int} {sP sL:Value} {oP oL:Option Nat} {t u:Tb} (w:Bob k h b m tb tm x ls n sP sL oP oL) (hT:x.T=some t) (i:TbO h' tb tm u) (o:∀ c,c≠tb→c≠tm→h' c=h c):Bob k h' b m tb tm { x with T:=some u } ls n sP sL oP oL:=by
 obtain ⟨ob,cm,hm,hM⟩:=w.mp
 obtain ⟨j,h1,h2,h3⟩:=w.T t hT
 obtain ⟨ot,ct,g1,g2,g3⟩:=j.map
 have row:=w.row
 have e:blC { x with T:=some u } n m tb sP sL=blC x n m tb sP sL:=by unfold blC tpV;rw [hT]
 refine ⟨fun c y hc=>?_,?_,w.kb,?_,?_,w.nP,w.nL,⟨ob,cm,(o m (Ne.symm (mapNe j.row hm hM)) (Ne.symm h3)).trans hm,hM⟩,w.km,fun q hq=>?_⟩
 ·rw [o c (fun e=>by subst e;rw [h1] at hc;cases hc) (fun e=>by subst e;rw [h2] at hc;cases hc)];exact w.le _ _ hc
 ·rw [e,o b (rowNe row j.row (by decide)) (mapNe row g1 g2)];exact row
 ·exact w.gP.agree fun c hc=>o c (w.gP.offR j.row (by decide) c hc) (grNe w.gP g1 g2 c hc)
 ·exact w.gL.agree fun c hc=>o c (w.gL.offR j.row (by decide) c hc) (grNe w.gL g1 g2 c hc)
 ·cases hq
  exact ⟨i,h1,h2,h3⟩
theorem mapP_high {t:Tb} {va pa fl:Nat} {l:Int} (h:2<l):mapP t va pa l fl=.error 1:=if_neg fun hh=>by have:=(of_decide_eq_true hh).1;omega
theorem mapP_err {t:Tb} {va pa fl:Nat} {l:Int} {e:Int} (h:mapP t va pa l fl=.error e):e≠0:=by
 unfold mapP at h
 repeat' split at h
 all_goals first | (cases h;done) | (cases h;decide)
def TOk' (T:Option Tb):Prop:=∀ t,T=some t→(∃ lev,TInv t lev)∧t.L.length≤2 ^ 19
section
variable {k h:Hp} {K:Value→Hp→Prop} {E:List PanicEntry→Hp→Prop}
theorem aggTp:isAggT Tryz.prog 41=some false:=by kernel_rfl
theorem sizTp:sizeT Tryz.prog 41=some 1:=by kernel_rfl
theorem rootP_no' {b:Bd} {r:List Str} (h:∀ o,numsI r=some o→o.length≠1):rootP b r=.error 2:=by
 unfold rootP
 split
 ·rename_i k hk;exact absurd rfl (h _ hk)
 ·rfl
theorem pageP_no' {b:Bd} {r:List Str} (h:∀ o,numsI r=some o→o.length≠4):pageP b r=.error 2:=by
 unfold pageP
 split
 ·rename_i hk;exact absurd rfl (h _ hk)
 ·rfl
theorem iroot_x (her:Er h) (hpw:Pow h) {b m tb tm:Nat} {x:Bd} {n:Int} {sP sL sl:Value} {oP oL:Option Nat} (w:Bob k h b m tb tm x x.lbs n sP sL oP oL) {w0:Str} {r:List Str} (rw_:WdR h sl (w0 :: r)) (hcp:∀ a n c,sl=.slice a n c→n≤c) (R:IB k b m n K E (rootP x r)):XE Tryz.prog 79 #[.pointer (some ⟨b,0,none⟩),sl] h K E:=by
 obtain ⟨base,cap,rfl,_⟩:=rw_.at_
 obtain ⟨pa,pc,rfl⟩:=w.gP.shape
 obtain ⟨la,lc,rfl⟩:=w.gL.shape
 refine fnu (args:=_) mixed [] [] [] [(999998,[0,1,3])] Tryz.func79 rfl (by kernel_rfl) (cw_ ?_)
 refine inums_x her hpw rw_ hcp 1 (by decide) (fun o s h2 hno ho hO=>?_) (fun h2 le2 hno=>?_)
 rotate_left
 ·exact R.err 2 h2 (rootP_no' hno) (Hp.le_trans w.le le2) (w.up le2).rowE
 obtain ⟨so,sc,rfl⟩:=hO.shape
 obtain ⟨k0,rfl⟩:=List.length_eq_one_iff.1 ho
 have hk0:=(numsI_some _ _ hno).2 k0 (by simp)
 have e1:rootP x r=match x.T with
  | some _=>.error 8
  | none=>if k0 % 4096=0 then .ok { x with T:=some ⟨k0,1,[]⟩ } else .error 1:=by unfold rootP;rw [hno];rfl
 have w2:=w.up hO.le
 obtain ⟨ob,ocap,orest,oe,_,orow,_⟩:=hO.row (Nat.succ_pos _)
 cases oe
 obtain ⟨place,pcs,lbs,T⟩:=x
 cases T with
 | some t =>
  conv=>whnf
  refine ⟨_,loadC (i:=5) aggTp w2.row rfl,cw_ ?_⟩
  refine imust_x _ 8 (fun hh=>(by cases hh)) (fun _=>?_)
  exact R.err 8 h2 e1 w2.le w2.rowE
 | none =>
  conv=>whnf
  refine ⟨_,loadC (i:=5) aggTp w2.row rfl,cw_ ?_⟩
  refine imust_x _ 8 (fun _=>?_) (fun hh=>(by cases hh))
  conv=>whnf
  refine ⟨_,loadI (j:=0) aggU6 orow rfl rfl,cw_ ?_⟩
  refine pgnewTables_x k0 (by omega) (fun hz=>?_) (fun hz tb' tm' h3 n1 n2 le3 it=>?_)
  ·conv=>whnf
   refine imust_x _ 1 (fun hh=>(by cases hh)) (fun _=>?_)
   exact R.err 1 h2 (e1.trans (if_neg hz)) w2.le w2.rowE
  ·have w3:=w2.up le3
   obtain ⟨om,cm,hm,hM⟩:=w2.mp
   conv=>whnf
   refine imust_x _ 0 (fun _=>?_) (fun hh=>(by cases hh))
   conv=>whnf
   refine wr_intro (by exact storeC (i:=5) sizTp w3.row (show 5<6 by decide) rfl rfl) (fun h4 at_h4 ot_h4=>cw_ ?_)
   have w4:=w3.setT (t:=⟨k0,1,[]⟩) it (Hp.none_le w2.le n1) (Hp.none_le w2.le n2) (fun e=>by subst e;rw [hm] at n2;cases n2) at_h4 ot_h4
   conv=>whnf
   exact R.ok ⟨place,pcs,lbs,some ⟨k0,1,[]⟩⟩ _ _ _ _ _ _ k _ (e1.trans (if_pos hz)) (Hp.le_refl _) w4
theorem ipage_x (her:Er h) (hpw:Pow h) {b m tb tm:Nat} {x:Bd} {n:Int} {sP sL sl:Value} {oP oL:Option Nat} (w:Bob k h b m tb tm x x.lbs n sP sL oP oL) (hT:TOk' x.T) {w0:Str} {r:List Str} (rw_:WdR h sl (w0 :: r)) (hcp:∀ a n c,sl=.slice a n c→n≤c) (R:IB k b m n K E (pageP x r)):XE Tryz.prog 80 #[.pointer (some ⟨b,0,none⟩),sl] h K E:=by
 obtain ⟨base,cap,rfl,_⟩:=rw_.at_
 obtain ⟨pa,pc,rfl⟩:=w.gP.shape
 obtain ⟨la,lc,rfl⟩:=w.gL.shape
 refine fnu (args:=_) mixed [] [] [] [(999998,[0,1,3])] Tryz.func80 rfl (by kernel_rfl) (cw_ ?_)
 refine inums_x her hpw rw_ hcp 4 (by decide) (fun o s h2 hno ho hO=>?_) (fun h2 le2 hno=>?_)
 rotate_left
 ·exact R.err 2 h2 (pageP_no' hno) (Hp.le_trans w.le le2) (w.up le2).rowE
 obtain ⟨so,sc,rfl⟩:=hO.shape
 obtain ⟨k0,k1,k2,k3,rfl⟩:∃ k0 k1 k2 k3,o=[k0,k1,k2,k3]:=by
  match o,ho with
  | [a,b,c,d],_=>exact ⟨a,b,c,d,rfl⟩
 have hkn:=(numsI_some _ _ hno).2
 have hk0:=hkn k0 (by simp)
 have hk1:=hkn k1 (by simp)
 have hk2:=hkn k2 (by simp)
 have hk3:=hkn k3 (by simp)
 have e1:pageP x r=match x.T with
  | none=>.error 8
  | some t=>match mapP t k0 k1 k2 k3 with
   | .error e=>.error e
   | .ok u=>.ok { x with T:=some u }:=by unfold pageP;rw [hno];rfl
 have w2:=w.up hO.le
 obtain ⟨ob,ocap,orest,oe,_,orow,_⟩:=hO.row (Nat.succ_pos _)
 cases oe
 obtain ⟨place,pcs,lbs,T⟩:=x
 cases T with
 | none =>
  conv=>whnf
  refine ⟨_,loadC (i:=5) aggTp w2.row rfl,cw_ ?_⟩
  refine imust_x _ 8 (fun hh=>(by cases hh)) (fun _=>?_)
  exact R.err 8 h2 e1 w2.le w2.rowE
 | some t =>
  obtain ⟨⟨lev,it⟩,htl⟩:=hT t rfl
  obtain ⟨iT,kt1,kt2,kt3⟩:=w2.T t rfl
  obtain ⟨lq,hlq,hlq2⟩:∃ lq:Nat,(if 2147483648<(k2:Int) then 2147483648 else (k2:Int))=(lq:Int)∧mapP t k0 k1 (lq:Int) k3=mapP t k0 k1 (k2:Int) k3:=by
   by_cases h2:k2≤2147483648
   ·exact ⟨k2,if_neg (by omega),rfl⟩
   ·exact ⟨2147483648,if_pos (by omega),by rw [mapP_high (by omega),mapP_high (by omega)]⟩
  have dbm:tb≠tm:=by
   obtain ⟨ot,ct,g1,g2,_⟩:=iT.map
   exact mapNe iT.row g1 g2
  conv=>whnf
  refine ⟨_,loadC (i:=5) aggTp w2.row rfl,cw_ ?_⟩
  refine imust_x _ 8 (fun _=>?_) (fun hh=>(by cases hh))
  conv=>whnf
  refine ⟨_,loadC (i:=5) aggTp w2.row rfl,cw_ ?_⟩
  refine ⟨_,loadI (j:=0) aggU6 orow rfl rfl,cw_ ?_⟩
  refine ⟨_,loadI (j:=1) aggU6 orow rfl rfl,cw_ ?_⟩
  refine ⟨_,loadI (j:=2) aggU6 orow rfl rfl,cw_ ?_⟩
  rw [hlq]
  have hlqb:lq≤2147483648:=by
   have:¬ (2147483648:Int)<(lq:Int):=by rw [← hlq];split <;> omega
   omega
  refine n_ ?_
  refine ⟨_,loadI (j:=3) aggU6 orow rfl rfl,cw_ ?_⟩
  refine pgmap_x iT dbm it htl k0 k1 (lq:Int) k3 (by omega) (by omega) (by omega) fun h3 i3 o3=>?_
  rw [hlq2] at i3 ⊢
  have w3:=w2.tabs rfl i3 o3
  cases hm:mapP t k0 k1 (k2:Int) k3 with
  | error e =>
   have hen:=mapP_err hm
   have hE:mapE (.error e:Except Int Tb)=e:=rfl
   rw [hE]
   refine ⟨trivial,cw_ ?_⟩
   refine imust_x _ e (fun hh=>absurd (of_decide_eq_true hh) hen) (fun _=>?_)
   exact R.err e h3 (by rw [e1];simp only;rw [hm]) w3.le w3.rowE
  | ok u =>
   rw [hm] at w3
   have hE:mapE (.ok u:Except Int Tb)=0:=rfl
   rw [hE]
   refine ⟨trivial,cw_ ?_⟩
   refine imust_x _ 0 (fun _=>?_) (fun hh=>(by cases hh))
   conv=>whnf
   exact R.ok ⟨place,pcs,lbs,some u⟩ _ _ _ _ _ _ k _ (by rw [e1];simp only;rw [hm]) (Hp.le_refl _) w3
end
end Go.Proofs.YtdhkjcdneidgaaaGreatDoor
namespace Go.Proofs.YtdhkjcdneidgaaaGreatDoor
open Go Go.Mid Go.RowKit Go.Bits
attribute [local irreducible] mid
theorem insP_at' {b:Bd} {ln:Int} {t l:Str} {c:UInt8} (h:c=64):insP b ln t (c :: l)=if nameB l=true then (match parseA (t.take (t.length - (l.length+1))++[48]) with
   | .error e=>.error e
   | .ok x=>if fmtN x.op=4∨fmtN x.op=6 then .ok (layPc b ln 4 0 x l) else .error 2) else .error 9:=by
 subst h
 rfl
theorem insP_no' {b:Bd} {ln:Int} {t l:Str} {c:UInt8} (h:c≠64):insP b ln t (c :: l)=match parseA t with
  | .error e=>.error e
  | .ok x=>.ok (layPc b ln 4 0 x []):=by
 exact if_neg (by simpa using h)
section
variable {k h:Hp} {K:Value→Hp→Prop} {E:List PanicEntry→Hp→Prop}
theorem iinsn_x (hmx:Mx h) (her:Er h) (hpw:Pow h) {b m tb tm:Nat} {x:Bd} {n:Int} {sP sL sl:Value} {oP oL:Option Nat} (w:Bob k h b m tb tm x x.lbs n sP sL oP oL) (hb:x.place<2 ^ 64) (hl:x.pcs.length≤2 ^ 20) {W:List Str} {t:Str} (rw_:WdR h sl W) (hWl:0<W.length) {c:UInt8} {l:Str} (hlast:W[W.length - 1]? = some (c :: l)) (ht:t.length≤200) (hsuf:sufB t (c :: l)=true) (R:IB k b m n K E (insP x n t (c :: l))):XE Tryz.prog 81 #[.pointer (some ⟨b,0,none⟩),sv t,sl] h K E:=by
 obtain ⟨base,cap,rfl,fW⟩:=rw_.at_
 have hn20:=rw_.n
 obtain ⟨pa,pc,rfl⟩:=w.gP.shape
 obtain ⟨la,lc,rfl⟩:=w.gL.shape
 obtain ⟨a0,rfl,l0⟩:=fW (W.length - 1) (c :: l) hlast
 have hlt:(c :: l).length≤t.length:=(of_decide_eq_true hsuf).1
 have ecl:(c :: l).length=l.length+1:=rfl
 refine fnu (args:=_) mixed [(9,9),(40,9)] [] [] [(999998,[3,5,6,8])] Tryz.func81 rfl (by kernel_rfl) (cw_ ?_)
 refine n_ ?_
 rw [show (W.length:Int) - 1=((W.length - 1:Nat):Int) by omega]
 refine n_ ?_
 refine ⟨_,l0,cw_ ?_⟩
 refine icutP_x (c :: l) 64 (by omega) ?_
 by_cases c64:c=64
 rotate_left
 ·rw [if_neg (by simpa using c64),decide_eq_false (by simpa using c64)]
  rw [insP_no' c64] at R
  conv=>whnf
  refine parse_x hmx her hpw t (by omega) fun h2 le2=>?_
  have w2:=w.up le2
  cases hp:parseA t with
  | error e =>
   have he:=im_parse_err hp
   rw [hp] at R
   rw [show parsedV (.error e)=.tuple #[.agg in0.cs.toArray,.int .i64 e] from rfl]
   conv=>whnf
   refine imust_x _ e (fun hh=>absurd (of_decide_eq_true hh) he) (fun _=>?_)
   exact R.err e h2 rfl w2.le w2.rowE
  | ok y =>
   rw [hp] at R
   rw [show parsedV (.ok y)=.tuple #[.agg y.cs.toArray,.int .i64 0] from rfl]
   conv=>whnf
   refine imust_x _ 0 (fun _=>?_) (fun hh=>(by cases hh))
   conv=>whnf
   refine fmt_x y.op (cw_ ?_)
   refine imust_x _ 2 (fun _=>?_) (fun hh=>(by cases hh))
   conv=>whnf
   refine ilay_x w2 hb hl ⟨0,0,4,0,y,[]⟩ (show 4≤100 by decide) fun sP' oP' h' w'=>(cw_ ?_)
   exact R.ok _ _ _ _ _ _ _ k _ rfl (Hp.le_refl _) w'
 rw [if_pos (by simpa using c64),decide_eq_true (by simpa using c64)]
 rw [insP_at' c64] at R
 rw [show (c :: l).drop 1=l from rfl]
 conv=>whnf
 refine X.toE (iname_x l (by omega) ?_)
 conv=>whnf
 refine imust_x _ 9 (fun hq=>?_) (fun hq=>?_)
 rotate_left
 ·rw [if_neg (by rw [hq];simp)] at R
  exact R.err 9 h rfl w.le w.rowE
 rw [if_pos hq] at R
 conv=>whnf
 refine itrimS_x t (c :: l) (by omega) (by omega) ?_
 rw [hsuf,if_pos rfl,ecl]
 conv=>whnf
 refine cat_intro (b:=[48]) (by rw [List.length_take];simp;omega) (cw_ ?_)
 refine parse_x hmx her hpw (t.take (t.length - (l.length+1))++[48]) (by rw [List.length_append,List.length_take];simp;omega) fun h2 le2=>?_
 have w2:=w.up le2
 cases hp:parseA (t.take (t.length - (l.length+1))++[48]) with
 | error e =>
  have he:=im_parse_err hp
  rw [hp] at R
  rw [show parsedV (.error e)=.tuple #[.agg in0.cs.toArray,.int .i64 e] from rfl]
  conv=>whnf
  refine imust_x _ e (fun hh=>absurd (of_decide_eq_true hh) he) (fun _=>?_)
  exact R.err e h2 rfl w2.le w2.rowE
 | ok y =>
  rw [hp] at R
  simp only at R
  rw [show parsedV (.ok y)=.tuple #[.agg y.cs.toArray,.int .i64 0] from rfl]
  conv=>whnf
  refine imust_x _ 0 (fun _=>?_) (fun hh=>(by cases hh))
  conv=>whnf
  refine fmt_x y.op ?_
  generalize hfm:fmtN y.op=fm at R
  conv=>whnf
  refine br_ (fun q4=>?_) fun q4=>?_
  ·rw [if_pos (.inl (by omega))] at R
   conv=>whnf
   refine imust_x _ 2 (fun _=>?_) (fun hh=>(by cases hh))
   conv=>whnf
   refine ilay_x w2 hb hl ⟨0,0,4,0,y,l⟩ (show 4≤100 by decide) fun sP' oP' h' w'=>(cw_ ?_)
   exact R.ok _ _ _ _ _ _ _ k _ rfl (Hp.le_refl _) w'
  ·conv=>whnf
   refine imust_x _ 2 (fun hh=>?_) (fun hh=>?_)
   ·have hh:=of_decide_eq_true hh
    rw [if_pos (.inr (by omega))] at R
    conv=>whnf
    refine ilay_x w2 hb hl ⟨0,0,4,0,y,l⟩ (show 4≤100 by decide) fun sP' oP' h' w'=>(cw_ ?_)
    exact R.ok _ _ _ _ _ _ _ k _ rfl (Hp.le_refl _) w'
   ·have hh:=of_decide_eq_false hh
    rw [if_neg (fun hx=>hx.elim (fun h4=>q4 (by omega)) (fun h6=>hh (by omega)))] at R
    exact R.err 2 h2 rfl w2.le w2.rowE
end
end Go.Proofs.YtdhkjcdneidgaaaGreatDoor
namespace Go.Proofs.YtdhkjcdneidgaaaGreatDoor
open Go Go.Mid Go.RowKit Go.Bits
attribute [local irreducible] mid
theorem oneP_long' {b:Bd} {ln:Int} {t:Str} (h:200<t.length):oneP b ln t=.error 4:=if_pos h
theorem oneP_empty' {b:Bd} {ln:Int} {t:Str} (h:¬ 200<t.length) (h2:(sp [32] t).any (·.isEmpty)=true):oneP b ln t=.error 2:=by
 unfold oneP
 rw [if_neg h,if_pos h2]
theorem oneP_go' {b:Bd} {ln:Int} {t w:Str} {r:List Str} (h:¬ 200<t.length) (h2:¬ (sp [32] t).any (·.isEmpty)=true) (e:sp [32] t=w :: r):oneP b ln t=if r=[]∧t.getLast? = some 58 then labelP b t.dropLast
   else if w=sOrg then orgP b r else if w=sWord then dataP b ln 4 r else if w=sDword then dataP b ln 8 r else if w=sRoot then rootP b r else if w=sPage then pageP b r
   else insP b ln t ((w :: r).getLastD []):=by
 unfold oneP
 rw [if_neg h,if_neg h2,e]
theorem any_at' {W:List Str} {i:Nat} {w:Str} (h:W[i]? = some w) (hw:w=[]):W.any (·.isEmpty)=true:=by
 rw [List.any_eq_true]
 exact ⟨w,List.mem_of_getElem? h,by rw [hw];rfl⟩
theorem orgP_no' {b:Bd} {r:List Str} (h:∀ o,numsI r=some o→o.length≠1):orgP b r=.error 2:=by
 unfold orgP
 split
 ·rename_i k hk;exact absurd rfl (h _ hk)
 ·rfl
theorem lastD' {w:Str} {r:List Str}:(w :: r)[(w :: r).length - 1]? = some ((w :: r).getLastD []):=by
 rw [← List.getLast?_eq_getElem?,List.getLast?_eq_some_getLast (List.cons_ne_nil w r),List.getLastD_eq_getLast?,List.getLast?_eq_some_getLast (List.cons_ne_nil w r)]
 rfl
section
variable {k h:Hp} {K:Value→Hp→Prop} {E:List PanicEntry→Hp→Prop}
theorem icutC_x (t:Str) (ht:t.length≤2 ^ 40) (hk:sufB t [58]=true→K (.tuple #[sv t.dropLast,.bool true]) h) (hk2:sufB t [58]=false→K (.tuple #[sv t,.bool false]) h):X Tryz.prog 75 #[sv t,sv [58]] h K:=by
 refine icutS_x t [58] ht (by decide) ?_
 cases hs:sufB t [58] with
 | true =>
  have:=hk hs
  rw [List.dropLast_eq_take] at this
  exact this
 | false=>exact hk2 hs
theorem iline_x (hmx:Mx k) (her:Er k) (hpw:Pow k) {b m tb tm:Nat} {x:Bd} {n:Int} {sP sL:Value} {oP oL:Option Nat} (w:Bob k h b m tb tm x x.lbs n sP sL oP oL) (hb:x.place<2 ^ 64) (hl:x.pcs.length≤2 ^ 19) (hll:x.lbs.length≤2 ^ 19) (hT:TOk' x.T) (t:Str) (ht:t.length≤2 ^ 20) (R:IB k b m n K E (oneP x n t)):XE Tryz.prog 46 #[.pointer (some ⟨b,0,none⟩),sv t] h K E:=by
 refine fnu (args:=_) mixed [] [] [] [(999998,[0,5,9,11,13,15,17,19,21])] Tryz.func46 rfl (by kernel_rfl) (cw_ ?_)
 refine imust_x _ 4 (fun hq=>?_) (fun hq=>?_)
 rotate_left
 ·have hq:=of_decide_eq_false hq
  rw [bs_size] at hq
  exact R.err 4 h (oneP_long' (by omega)) w.le w.rowE
 have hq:=of_decide_eq_true hq
 rw [bs_size] at hq
 have hlen:¬ 200<t.length:=by omega
 conv=>whnf
 refine split_x (hmx.le w.le) t [32] (by omega) (by simp) fun bw h1 nbw e1=>?_
 have le1:h.le h1:=e1 ▸ Hp.le_set nbw
 have hrow:h1 bw=some (rowO 9 ((sp [32] t).map sv)):=by rw [e1];exact Hp.set_same _ _ _
 clear e1
 have w1:=w.up le1
 have hne:sp [32] t≠[]:=sp_ne _ _
 have hspl:=sp_length [32] t (by simp)
 have hsw:=fun w hw=>sp_word [32] (by simp) t.length t (Nat.le_refl _) w hw
 have hsuf:=sp_suf t.length t (Nat.le_refl _)
 have eE:=oneP_empty' (b:=x) (ln:=n) hlen
 have eG:=fun w r h2=>oneP_go' (b:=x) (ln:=n) (w:=w) (r:=r) hlen h2
 obtain ⟨W,hW⟩:∃ W,sp [32] t=W:=⟨_,rfl⟩
 rw [hW] at hne hspl hsw hrow eE eG hsuf
 have rW:WdR h1 (.slice (some ⟨bw,0,none⟩) W.length W.length) W:=⟨by
  have:=Rd.row (P:=Tryz.prog) (t:=9) (l:=W.map sv) (r:=[]) (cap:=W.length) aggStI (by rw [List.append_nil];exact hrow)
  rw [List.length_map] at this
  exact this,by omega,fun w hw=>Nat.le_trans (hsw w hw) (by omega)⟩
 rw [hW]
 conv=>whnf
 refine loop_at [17] [] (fun q vs _ h'=>h1=h'∧∃ i:Nat,i≤W.length∧q=W.length - i∧vs=[.v (.int .i64 i)]∧∀ (j:Nat) (x:Str),j<i→W[j]? = some x→x≠[]) W.length ⟨rfl,0,by omega,by omega,rfl,fun j x hj=>by omega⟩ ?_
 rintro q vs cs mm bx _ ⟨rfl,i,hi,rfl,rfl,hg⟩
 have mx1:=hmx.le w1.le
 have er1:=her.le w1.le
 have pw1:=hpw.le w1.le
 conv=>whnf
 refine br_ (fun q2=>?_) fun q2=>?_
 ·obtain ⟨v,hv⟩:∃ v,W[i]? = some v:=⟨_,List.getElem?_eq_getElem (by omega)⟩
  have lv:loadH Tryz.prog 9 h1 ((⟨bw,0,none⟩:Addr).add (((i:Int)).toNat*1))=some (sv v):=loadI (j:=i) aggStI hrow rfl (by rw [List.getElem?_map,hv];rfl)
  conv=>whnf
  refine n_ ?_
  refine ⟨_,lv,cw_ ?_⟩
  refine seq_intro (b:=[]) ?_
  by_cases q3:v=[]
  ·rw [decide_eq_true q3]
   refine imust_x _ 2 (fun hh=>(by cases hh)) (fun _=>?_)
   exact R.err 2 h1 (eE (any_at' hv q3)) w1.le w1.rowE
  ·rw [decide_eq_false q3]
   refine imust_x _ 2 (fun _=>?_) (fun hh=>(by cases hh))
   conv=>whnf
   refine n_ ?_
   refine ⟨W.length - (i+1),by omega,rfl,i+1,by omega,rfl,rfl,fun j x hj hx=>?_⟩
   by_cases e:j=i
   ·subst e;rw [hv] at hx;cases hx;exact q3
   ·exact hg j x (by omega) hx
 have hiW:i=W.length:=by omega
 subst hiW
 have hwne:∀ x ∈ W,x≠[]:=fun x hx=>by
  obtain ⟨j,hj,e⟩:=List.getElem_of_mem hx
  exact hg j x hj (by rw [← e];exact List.getElem?_eq_getElem hj)
 have hany:¬ W.any (·.isEmpty)=true:=fun hh=>by
  obtain ⟨x,hx,hxe⟩:=List.any_eq_true.1 hh
  have:=hwne x hx
  cases x <;> simp_all
 obtain ⟨v,r,rfl⟩:=List.exists_cons_of_ne_nil hne
 have eG:=eG v r hany rfl
 rw [eG] at R
 clear eE eG hany hg
 obtain ⟨cc,ll,hlst⟩:∃ c l,(v :: r).getLastD []=c :: l:=List.exists_cons_of_ne_nil (hwne _ (List.mem_of_getElem? lastD'))
 have hlastA:(v :: r)[(v :: r).length - 1]? = some (cc :: ll):=by rw [lastD',hlst]
 have hsufB:sufB t (cc :: ll)=true:=by
  rw [hlst] at hsuf
  exact decide_eq_true ⟨hsuf.length_le,(List.suffix_iff_eq_drop.1 hsuf).symm⟩
 have hWlen:(v :: r).length=r.length+1:=rfl
 have l0:loadH Tryz.prog 9 h1 ((⟨bw,0,none⟩:Addr).add 0)=some (sv v):=loadC (i:=0) aggStI hrow rfl
 have hcp:∀ a n c,Value.slice (some ⟨bw,0,none⟩) (v :: r).length (v :: r).length=.slice a n c→n≤c:=fun a n c e=>by cases e;exact Nat.le_refl _
 conv=>whnf
 refine icutC_x t (by omega) (fun hs=>?_) (fun hs=>?_)
 ·have hgl:=sufB_one.1 hs
  conv=>whnf
  refine br_ (fun q4=>?_) fun q4=>?_
  ·have hr0:r=[]:=List.eq_nil_of_length_eq_zero (by omega)
   rw [if_pos ⟨hr0,hgl⟩] at R
   conv=>whnf
   refine ilabel_x w1 (by omega) t.dropLast (by rw [List.length_dropLast];omega) ⟨fun e h' he hk hr=>?_,fun c sP sL oP oL tb tm k' h' hc hkk hw=>?_⟩
   ·exact R.err e h' he hk hr
   ·conv=>whnf
    exact R.ok c _ _ _ _ _ _ k' h' hc hkk hw
  ·have hno:¬ (r=[]∧t.getLast? = some 58):=fun hh=>q4 (by rw [hh.1];rfl)
   rw [if_neg hno] at R
   conv=>whnf
   refine bt_ ?_ (by first | (simp;done) | (simp;omega))
   refine ⟨_,l0,cw_ ?_⟩
   by_cases o1:v=sOrg
   ·rw [if_pos o1] at R
    refine seq_true o1 (cw_ ?_)
    refine inums_x er1 pw1 rW hcp 1 (by decide) (fun o s h2 hno ho hO=>?_) (fun h2 le2 hno=>?_)
    rotate_left
    ·exact R.err 2 h2 (orgP_no' hno) (Hp.le_trans w1.le le2) (w1.up le2).rowE
    obtain ⟨so,sc,rfl⟩:=hO.shape
    obtain ⟨k0,rfl⟩:=List.length_eq_one_iff.1 ho
    obtain ⟨ob,ocap,orest,oe,_,orow,_⟩:=hO.row (Nat.succ_pos _)
    cases oe
    have w2:=w1.up hO.le
    obtain ⟨pa,pc,rfl⟩:=w2.gP.shape
    obtain ⟨la,lc,rfl⟩:=w2.gL.shape
    conv=>whnf
    refine ⟨_,loadI (j:=0) aggU6 orow rfl rfl,cw_ ?_⟩
    refine wr_intro (by exact storeC (i:=1) sizU6 w2.row (show 1<6 by decide) rfl rfl) (fun h3 at_h3 ot_h3=>cw_ ?_)
    have w3:=w2.st (y:={ x with place:=k0 }) (n':=n) at_h3 ot_h3 rfl rfl rfl
    conv=>whnf
    exact R.ok { x with place:=k0 } _ _ _ _ _ _ k _ (by unfold orgP;rw [hno]) (Hp.le_refl _) w3
   rw [if_neg o1] at R
   refine seq_false o1 (cw_ ?_)
   by_cases o2:v=sWord
   ·rw [if_pos o2] at R
    refine seq_true o2 (cw_ ?_)
    refine idata_x er1 pw1 w1 hb (by omega) rW 4 (.inl rfl) ⟨fun e h' he hk hr=>?_,fun c sP sL oP oL tb tm k' h' hc hkk hw=>?_⟩
    ·exact R.err e h' he hk hr
    ·conv=>whnf
     exact R.ok c _ _ _ _ _ _ k' h' hc hkk hw
   rw [if_neg o2] at R
   refine seq_false o2 (cw_ ?_)
   by_cases o3:v=sDword
   ·rw [if_pos o3] at R
    refine seq_true o3 (cw_ ?_)
    refine idata_x er1 pw1 w1 hb (by omega) rW 8 (.inr rfl) ⟨fun e h' he hk hr=>?_,fun c sP sL oP oL tb tm k' h' hc hkk hw=>?_⟩
    ·exact R.err e h' he hk hr
    ·conv=>whnf
     exact R.ok c _ _ _ _ _ _ k' h' hc hkk hw
   rw [if_neg o3] at R
   refine seq_false o3 (cw_ ?_)
   by_cases o4:v=sRoot
   ·rw [if_pos o4] at R
    refine seq_true o4 (cw_ ?_)
    refine iroot_x er1 pw1 w1 rW hcp ⟨fun e h' he hk hr=>?_,fun c sP sL oP oL tb tm k' h' hc hkk hw=>?_⟩
    ·exact R.err e h' he hk hr
    ·conv=>whnf
     exact R.ok c _ _ _ _ _ _ k' h' hc hkk hw
   rw [if_neg o4] at R
   refine seq_false o4 (cw_ ?_)
   by_cases o5:v=sPage
   ·rw [if_pos o5] at R
    refine seq_true o5 (cw_ ?_)
    refine ipage_x er1 pw1 w1 hT rW hcp ⟨fun e h' he hk hr=>?_,fun c sP sL oP oL tb tm k' h' hc hkk hw=>?_⟩
    ·exact R.err e h' he hk hr
    ·conv=>whnf
     exact R.ok c _ _ _ _ _ _ k' h' hc hkk hw
   rw [if_neg o5,hlst] at R
   refine seq_false o5 (cw_ ?_)
   refine iinsn_x mx1 er1 pw1 w1 hb (by omega) rW (by omega) hlastA (by omega) hsufB ⟨fun e h' he hk hr=>?_,fun c sP sL oP oL tb tm k' h' hc hkk hw=>?_⟩
   ·exact R.err e h' he hk hr
   ·conv=>whnf
    exact R.ok c _ _ _ _ _ _ k' h' hc hkk hw
 ·have hno:¬ (r=[]∧t.getLast? = some 58):=fun hh=>by rw [sufB_one.2 hh.2] at hs;cases hs
  rw [if_neg hno] at R
  conv=>whnf
  refine bt_ ?_ (by first | (simp;done) | (simp;omega))
  refine ⟨_,l0,cw_ ?_⟩
  by_cases o1:v=sOrg
  ·rw [if_pos o1] at R
   refine seq_true o1 (cw_ ?_)
   refine inums_x er1 pw1 rW hcp 1 (by decide) (fun o s h2 hno ho hO=>?_) (fun h2 le2 hno=>?_)
   rotate_left
   ·exact R.err 2 h2 (orgP_no' hno) (Hp.le_trans w1.le le2) (w1.up le2).rowE
   obtain ⟨so,sc,rfl⟩:=hO.shape
   obtain ⟨k0,rfl⟩:=List.length_eq_one_iff.1 ho
   obtain ⟨ob,ocap,orest,oe,_,orow,_⟩:=hO.row (Nat.succ_pos _)
   cases oe
   have w2:=w1.up hO.le
   obtain ⟨pa,pc,rfl⟩:=w2.gP.shape
   obtain ⟨la,lc,rfl⟩:=w2.gL.shape
   conv=>whnf
   refine ⟨_,loadI (j:=0) aggU6 orow rfl rfl,cw_ ?_⟩
   refine wr_intro (by exact storeC (i:=1) sizU6 w2.row (show 1<6 by decide) rfl rfl) (fun h3 at_h3 ot_h3=>cw_ ?_)
   have w3:=w2.st (y:={ x with place:=k0 }) (n':=n) at_h3 ot_h3 rfl rfl rfl
   conv=>whnf
   exact R.ok { x with place:=k0 } _ _ _ _ _ _ k _ (by unfold orgP;rw [hno]) (Hp.le_refl _) w3
  rw [if_neg o1] at R
  refine seq_false o1 (cw_ ?_)
  by_cases o2:v=sWord
  ·rw [if_pos o2] at R
   refine seq_true o2 (cw_ ?_)
   refine idata_x er1 pw1 w1 hb (by omega) rW 4 (.inl rfl) ⟨fun e h' he hk hr=>?_,fun c sP sL oP oL tb tm k' h' hc hkk hw=>?_⟩
   ·exact R.err e h' he hk hr
   ·conv=>whnf
    exact R.ok c _ _ _ _ _ _ k' h' hc hkk hw
  rw [if_neg o2] at R
  refine seq_false o2 (cw_ ?_)
  by_cases o3:v=sDword
  ·rw [if_pos o3] at R
   refine seq_true o3 (cw_ ?_)
   refine idata_x er1 pw1 w1 hb (by omega) rW 8 (.inr rfl) ⟨fun e h' he hk hr=>?_,fun c sP sL oP oL tb tm k' h' hc hkk hw=>?_⟩
   ·exact R.err e h' he hk hr
   ·conv=>whnf
    exact R.ok c _ _ _ _ _ _ k' h' hc hkk hw
  rw [if_neg o3] at R
  refine seq_false o3 (cw_ ?_)
  by_cases o4:v=sRoot
  ·rw [if_pos o4] at R
   refine seq_true o4 (cw_ ?_)
   refine iroot_x er1 pw1 w1 rW hcp ⟨fun e h' he hk hr=>?_,fun c sP sL oP oL tb tm k' h' hc hkk hw=>?_⟩
   ·exact R.err e h' he hk hr
   ·conv=>whnf
    exact R.ok c _ _ _ _ _ _ k' h' hc hkk hw
  rw [if_neg o4] at R
  refine seq_false o4 (cw_ ?_)
  by_cases o5:v=sPage
  ·rw [if_pos o5] at R
   refine seq_true o5 (cw_ ?_)
   refine ipage_x er1 pw1 w1 hT rW hcp ⟨fun e h' he hk hr=>?_,fun c sP sL oP oL tb tm k' h' hc hkk hw=>?_⟩
   ·exact R.err e h' he hk hr
   ·conv=>whnf
    exact R.ok c _ _ _ _ _ _ k' h' hc hkk hw
  rw [if_neg o5,hlst] at R
  refine seq_false o5 (cw_ ?_)
  refine iinsn_x mx1 er1 pw1 w1 hb (by omega) rW (by omega) hlastA (by omega) hsufB ⟨fun e h' he hk hr=>?_,fun c sP sL oP oL tb tm k' h' hc hkk hw=>?_⟩
  ·exact R.err e h' he hk hr
  ·conv=>whnf
   exact R.ok c _ _ _ _ _ _ k' h' hc hkk hw
end
end Go.Proofs.YtdhkjcdneidgaaaGreatDoor
namespace Go.Proofs.YtdhkjcdneidgaaaGreatDoor
open Go Go.Mid Go.RowKit Go.Bits
attribute [local irreducible] mid
section
variable {k h:Hp} {K:Value→Hp→Prop} {E:List PanicEntry→Hp→Prop}
theorem iread_x (hmx:Mx k) (her:Er k) (hpw:Pow k) {b m tb tm:Nat} {sP sL:Value} {oP oL:Option Nat} (w:Bob k h b m tb tm bd0 bd0.lbs 0 sP sL oP oL) (s:Str) (hs:s.length≤2 ^ 14)
  (hk:∀ c n sP sL oP oL tb tm k' h',readP bd0 0 (linesA s)=.ok c→k.le k'→BdI (s.length+1) c→Bob k' h' b m tb tm c c.lbs n sP sL oP oL→K (.tuple #[]) h')
  (he:∀ n e h',readP bd0 0 (linesA s)=.error (n,e)→k.le h'→(∃ l,h' b=some (rowO blT (.int .i64 n :: l)))→E [{ v:=istop e,recovered:=false }] h'):XE Tryz.prog 21 #[.pointer (some ⟨b,0,none⟩),sv s] h K E:=by
 have hall:=linesA_len s
 refine fnu (args:=_) mixed [] [] [] [(999998,[5])] Tryz.func21 rfl (by kernel_rfl) (cw_ ?_)
 refine loop_at [1] [] (fun q vs _ h'=>∃ (rest:Str) (d:Nat) (x:Bd) (sP sL:Value) (oP oL:Option Nat) (tb tm:Nat) (k':Hp),q=rest.length∧vs=[.v (sv rest)]∧k.le k'∧BdI d x∧Bob k' h' b m tb tm x x.lbs d sP sL oP oL∧readP bd0 0 (linesA s)=readP x d (linesA rest)∧rest.length≤s.length∧d+(linesA rest).length≤s.length+1) s.length ⟨s,0,bd0,sP,sL,oP,oL,tb,tm,k,rfl,rfl,Hp.le_refl _,BdI.zero,w,rfl,Nat.le_refl _,by omega⟩ ?_
 rintro q vs cs mm bx h1 ⟨rest,d,x,sP,sL,oP,oL,tb,tm,k',rfl,rfl,lk,ib,w1,hrd,hrl,hdl⟩
 obtain ⟨pa,pc,rfl⟩:=w1.gP.shape
 obtain ⟨la,lc,rfl⟩:=w1.gL.shape
 conv=>whnf
 refine seq_intro (b:=[]) ?_
 by_cases hr0:rest=[]
 ·rw [decide_eq_true hr0]
  subst hr0
  rw [linesA_nil] at hrd
  conv=>whnf
  exact hk x d _ _ _ _ _ _ k' h1 hrd lk (ib.more (by omega)) w1
 rw [decide_eq_false hr0]
 obtain ⟨e1,e2,e3⟩:=linesA_step hr0
 rw [e1] at hrd hdl
 rw [readP_step] at hrd
 rw [List.length_cons] at hdl
 conv=>whnf
 refine cut_x ((hmx.le lk).le w1.le) rest [10] (by omega) ?_
 obtain ⟨t,ht⟩:∃ t,(Lib.cut rest [10]).1=t:=⟨_,rfl⟩
 obtain ⟨u,hu⟩:∃ u,(Lib.cut rest [10]).2.1=u:=⟨_,rfl⟩
 rw [ht] at hrd e3 ⊢
 rw [hu] at hrd e2 hdl ⊢
 conv=>whnf
 refine ⟨_,loadC0 aggIn w1.row rfl,cw_ ?_⟩
 refine n_ ?_
 rw [show (d:Int)+1=((d+1:Nat):Int) by omega]
 refine wr_intro (by exact storeC (i:=0) sizI6 w1.row (show 0<6 by decide) rfl rfl) (fun h2 at_h2 ot_h2=>cw_ ?_)
 have w2:=w1.st (y:=x) (n':=((d+1:Nat):Int)) at_h2 ot_h2 rfl rfl rfl
 conv=>whnf
 refine seq_intro (b:=[]) ?_
 cases t with
 | nil =>
  have SK:([]:Str)=[]∨([]:Str)[0]? = some 35:=.inl rfl
  rw [decide_eq_true rfl]
  have e1:stepP x d _=.ok x:=if_pos SK
  rw [e1] at hrd
  conv=>whnf
  exact ⟨u.length,by omega,u,d+1,x,_,_,oP,oL,tb,tm,k',rfl,rfl,lk,ib.more (Nat.le_succ d),w2,hrd,by omega,by omega⟩
 | cons c t' =>
  rw [decide_eq_false (by simp)]
  have hc256:=c.toNat_lt
  conv=>whnf
  refine ch_intro (l:=c :: t') c (by omega) rfl (cw_ ?_)
  refine br_ (fun q2=>?_) fun q2=>?_
  rotate_left
  ·have SK:(c :: t')=[]∨(c :: t')[0]? = some 35:=.inr (by rw [show c=35 from UInt8.toNat_inj.1 (by show c.toNat=35;omega)];rfl)
   have e1:stepP x d _=.ok x:=if_pos SK
   rw [e1] at hrd
   conv=>whnf
   exact ⟨u.length,by omega,u,d+1,x,_,_,oP,oL,tb,tm,k',rfl,rfl,lk,ib.more (Nat.le_succ d),w2,hrd,by omega,by omega⟩
  have hst:stepP x d (c :: t')=oneP x (d+1:Nat) (c :: t'):=if_neg (by
   rintro (e | e)
   ·cases e
   ·simp at e;exact q2 (by subst e;rfl))
  have hTk:TOk' x.T:=fun t ht=>⟨(ib.T t ht).1,by have:=(ib.T t ht).2;omega⟩
  have hnp:=ib.np
  have hnl:=ib.nl
  conv=>whnf
  refine iline_x (hmx.le lk) (her.le lk) (hpw.le lk) w2 ib.place (by omega) (by omega) hTk (c :: t') (by omega) ⟨fun e h' hee hle hr=>?_,fun c2 sP sL oP oL tb tm k2 h' hc hkk hw=>?_⟩
  ·rw [← hst] at hee
   rw [hee] at hrd
   exact he _ _ h' hrd (Hp.le_trans lk hle) hr
  ·rw [← hst] at hc
   rw [hc] at hrd
   conv=>whnf
   exact ⟨u.length,by omega,u,d+1,c2,_,_,_,_,_,_,k2,rfl,rfl,Hp.le_trans lk hkk,stepP_inv ib hc,hw,hrd,by omega,by omega⟩
end
end Go.Proofs.YtdhkjcdneidgaaaGreatDoor
