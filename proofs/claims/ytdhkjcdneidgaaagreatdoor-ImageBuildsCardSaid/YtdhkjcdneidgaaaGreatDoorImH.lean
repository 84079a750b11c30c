/-
  Images: a line, the document's.
-/
import Derived.Test.YtdhkjcdneidgaaaGreatDoorImS
import Derived.Test.YtdhkjcdneidgaaaGreatDoorImP
import Derived.Test.YtdhkjcdneidgaaaGreatDoorAsQ
set_option linter.unusedSimpArgs false
set_option linter.unusedVariables false
set_option maxHeartbeats 8000000
set_option maxRecDepth 10000
set_option linter.unusedSimpArgs false
set_option linter.unusedVariables false
namespace Go.Proofs.YtdhkjcdneidgaaaGreatDoor
open Go Go.Mid Go.RowKit Go.Bits
attribute [local irreducible] mid
def Bv (v:Value):Prop:=∃ (b:Bd) (a1:Option Addr) (n1 c1:Nat) (a2:Option Addr) (n2 c2:Nat) (a3:Option Addr) (n3 c3:Nat),v=rbV b (.slice a1 n1 c1) (.slice a2 n2 c2) (.slice a3 n3 c3)
structure RB (k:Hp) (K:Value→Hp→Prop) (r:Except Int Bd):Prop where
 err:∀ e v h',r=.error e→Bv v→K (.tuple #[v,.int .i64 e]) h'
 ok:∀ c sP sL sT oP oL k' h',r=.ok c→k.le k'→Dbo k' h' c sP sL sT oP oL→K (.tuple #[rbV c sP sL sT,.int .i64 0]) h'
theorem dataP_len {b:Bd} {ln:Int} {n:Nat} {r:List Str} (h:r.length≠1):dataP b ln n r=.error 2:=by
 match r,h with
 | [],_=>rfl
 | [_],h=>exact absurd rfl h
 | _ :: _ :: _,_=>rfl
theorem dataP_at {b:Bd} {ln:Int} {n:Nat} {c:UInt8} {w:Str} (h:c=64):dataP b ln n [c :: w]=if nameB w=true then .ok (layPc b ln n 0 in0 w) else .error 2:=by
 subst h
 rfl
theorem dataP_no {b:Bd} {ln:Int} {n:Nat} {c:UInt8} {w:Str} (h:c≠64):dataP b ln n [c :: w]=match numA (c :: w) with
  | none=>.error 2
  | some k=>if n=8∨(-2147483648≤k∧k<4294967296) then .ok (layPc b ln n k in0 []) else .error 3:=by
 exact if_neg (by simpa using h)
section
variable {h:Hp} {K:Value→Hp→Prop}
theorem rdata_x {k:Hp} {b:Bd} {sP sL sT sl:Value} {oP oL:Option Nat} (d:Dbo k h b sP sL sT oP oL) (hb:b.place<2 ^ 64) (hl:b.pcs.length≤2 ^ 20) {w0:Str} {r:List Str} (rw_:WdR h sl (w0 :: r)) (hne:∀ w ∈ r,w≠[]) (n:Nat) (hn:(w0=sDword∧n=8)∨(w0≠sDword∧n=4)) (ln:Int) (R:RB k K (dataP b ln n r)):X Tryz.prog 52 #[rbV b sP sL sT,sl,.int .i64 ln] h K:=by
 obtain ⟨base,cap,rfl,fW⟩:=rw_.at_
 have hn20:=rw_.n
 have hwl:=rw_.l
 obtain ⟨pa,pc,rfl⟩:=grSl d.gP
 obtain ⟨ta,tc,rfl⟩:=rdSl d.rT
 obtain ⟨la,lc,rfl⟩:=grSl d.gL
 have ebv:Bv (rbV b (.slice pa b.pcs.length pc) (.slice la b.lbs.length lc) (.slice ta (bT b).L.length tc)):=⟨_,_,_,_,_,_,_,_,_,_,rfl⟩
 obtain ⟨a0,rfl,l0⟩:=fW 0 w0 rfl
 have hlen:(w0 :: r).length=r.length+1:=rfl
 refine fnv (args:=_) mixed [(3,3),(6,6)] [] [] Tryz.func52 rfl (by kernel_rfl) (cw_ ?_)
 refine n_ ?_
 refine ⟨_,l0,cw_ ?_⟩
 rcases hn with ⟨h1,rfl⟩ | ⟨h1,rfl⟩
 ·refine seq_true h1 (cw_ ?_)
  refine br_ (fun q1=>?_) fun q1=>?_
  ·conv=>whnf
   exact R.err 2 _ h (dataP_len (by omega)) ebv
  obtain ⟨w,rfl⟩:=List.length_eq_one_iff.1 (show r.length=1 by omega)
  have hw0:=hne w (by simp)
  have hwl1:w.length≤2 ^ 20:=hwl w (by simp)
  obtain ⟨a1,ea1,l1⟩:=fW 1 w rfl
  cases ea1
  obtain ⟨c,w',rfl⟩:=List.exists_cons_of_ne_nil hw0
  conv=>whnf
  refine ⟨_,l1,cw_ ?_⟩
  refine ch_intro (l:=c :: w') c (by omega) rfl ?_
  have hc256:=c.toNat_lt
  conv=>whnf
  refine br_ (fun q2=>?_) fun q2=>?_
  ·have c64:c=64:=UInt8.toNat_inj.1 (by show c.toNat=64;omega)
   conv=>whnf
   refine ⟨_,l1,cw_ ?_⟩
   refine bt_ ?_ (by rw [bs_size];simp;omega)
   refine sub_from (l:=c :: w') (m:=w') (i:=1) rfl (cw_ ?_)
   refine rname_x w' (by simp at hwl1;omega) ?_
   cases hnm:nameB w' with
   | false =>
    conv=>whnf
    exact R.err 2 _ h (by rw [dataP_at c64,hnm];rfl) ebv
   | true =>
    conv=>whnf
    refine ⟨_,l1,cw_ ?_⟩
    refine bt_ ?_ (by rw [bs_size];simp;omega)
    refine sub_from (l:=c :: w') (m:=w') (i:=1) rfl (cw_ ?_)
    refine rimlay_x d hb hl ⟨0,0,8,0,in0,w'⟩ ln (show 8≤100 by decide) fun sP' oP' h' d'=>?_
    obtain ⟨pa',pc',rfl⟩:=grSl d'.gP
    refine ⟨trivial,cw_ ?_⟩
    exact R.ok _ _ _ _ _ _ k _ (by rw [dataP_at c64,hnm];rfl) (Hp.le_refl _) d'
  have c64:c≠64:=fun e=>q2 (by subst e;rfl)
  conv=>whnf
  refine ⟨_,l1,cw_ ?_⟩
  refine rnumber_x (c :: w') (Nat.le_trans hwl1 (by decide)) ?_
  cases hnA:numA (c :: w') with
  | none =>
   conv=>whnf
   exact R.err 2 _ h (by rw [dataP_no c64,hnA]) ebv
  | some v =>
   have hv:=numA_rng hnA
   rw [show okV (some v)=.tuple #[.int .i64 v,.bool true] from rfl]
   conv=>whnf
   refine ov_by (show IntKind.u64.wrap v=((u64N v:Nat):Int) by rw [toU64];rfl) ?_
   conv=>whnf
   refine rimlay_x d hb hl ⟨0,0,8,v,in0,[]⟩ ln (show 8≤100 by decide) fun sP' oP' h' d'=>?_
   obtain ⟨pa',pc',rfl⟩:=grSl d'.gP
   conv=>whnf
   exact R.ok _ _ _ _ _ _ k _ (by rw [dataP_no c64,hnA];rfl) (Hp.le_refl _) d'
 ·refine seq_false h1 (cw_ ?_)
  refine br_ (fun q1=>?_) fun q1=>?_
  ·conv=>whnf
   exact R.err 2 _ h (dataP_len (by omega)) ebv
  obtain ⟨w,rfl⟩:=List.length_eq_one_iff.1 (show r.length=1 by omega)
  have hw0:=hne w (by simp)
  have hwl1:w.length≤2 ^ 20:=hwl w (by simp)
  obtain ⟨a1,ea1,l1⟩:=fW 1 w rfl
  cases ea1
  obtain ⟨c,w',rfl⟩:=List.exists_cons_of_ne_nil hw0
  conv=>whnf
  refine ⟨_,l1,cw_ ?_⟩
  refine ch_intro (l:=c :: w') c (by omega) rfl ?_
  have hc256:=c.toNat_lt
  conv=>whnf
  refine br_ (fun q2=>?_) fun q2=>?_
  ·have c64:c=64:=UInt8.toNat_inj.1 (by show c.toNat=64;omega)
   conv=>whnf
   refine ⟨_,l1,cw_ ?_⟩
   refine bt_ ?_ (by rw [bs_size];simp;omega)
   refine sub_from (l:=c :: w') (m:=w') (i:=1) rfl (cw_ ?_)
   refine rname_x w' (by simp at hwl1;omega) ?_
   cases hnm:nameB w' with
   | false =>
    conv=>whnf
    exact R.err 2 _ h (by rw [dataP_at c64,hnm];rfl) ebv
   | true =>
    conv=>whnf
    refine ⟨_,l1,cw_ ?_⟩
    refine bt_ ?_ (by rw [bs_size];simp;omega)
    refine sub_from (l:=c :: w') (m:=w') (i:=1) rfl (cw_ ?_)
    refine rimlay_x d hb hl ⟨0,0,4,0,in0,w'⟩ ln (show 4≤100 by decide) fun sP' oP' h' d'=>?_
    obtain ⟨pa',pc',rfl⟩:=grSl d'.gP
    refine ⟨trivial,cw_ ?_⟩
    exact R.ok _ _ _ _ _ _ k _ (by rw [dataP_at c64,hnm];rfl) (Hp.le_refl _) d'
  have c64:c≠64:=fun e=>q2 (by subst e;rfl)
  conv=>whnf
  refine ⟨_,l1,cw_ ?_⟩
  refine rnumber_x (c :: w') (Nat.le_trans hwl1 (by decide)) ?_
  cases hnA:numA (c :: w') with
  | none =>
   conv=>whnf
   exact R.err 2 _ h (by rw [dataP_no c64,hnA]) ebv
  | some v =>
   have hv:=numA_rng hnA
   rw [show okV (some v)=.tuple #[.int .i64 v,.bool true] from rfl]
   conv=>whnf
   refine br_ (fun q4=>?_) fun q4=>?_
   ·conv=>whnf
    exact R.err 3 _ h (by rw [dataP_no c64,hnA];exact if_neg (by omega)) ebv
   conv=>whnf
   refine br_ (fun q5=>?_) fun q5=>?_
   ·conv=>whnf
    exact R.err 3 _ h (by rw [dataP_no c64,hnA];exact if_neg (by omega)) ebv
   conv=>whnf
   refine ov_by (show IntKind.u64.wrap v=((u64N v:Nat):Int) by rw [toU64];rfl) ?_
   conv=>whnf
   refine rimlay_x d hb hl ⟨0,0,4,v,in0,[]⟩ ln (show 4≤100 by decide) fun sP' oP' h' d'=>?_
   obtain ⟨pa',pc',rfl⟩:=grSl d'.gP
   conv=>whnf
   exact R.ok _ _ _ _ _ _ k _ (by rw [dataP_no c64,hnA];exact if_pos (by omega)) (Hp.le_refl _) d'
end
end Go.Proofs.YtdhkjcdneidgaaaGreatDoor
namespace Go.Proofs.YtdhkjcdneidgaaaGreatDoor
open Go Go.Mid Go.RowKit Go.Bits
abbrev rfXImF0:Go.Mid.RF:=[(2,2),(24,2),(38,2),(48,2),(59,2),(78,2),(25,2),(49,2),(4,4),(10,10)]
attribute [local irreducible] mid
def TOk (T:Option Tb):Prop:=∀ t,T=some t→(∃ lev,TInv t lev)∧t.L.length≤2 ^ 19
section
variable {h:Hp} {K:Value→Hp→Prop}
theorem rootP_no {b:Bd} {r:List Str} (h:∀ o,numsI r=some o→o.length≠1):rootP b r=.error 2:=by
 unfold rootP
 split
 ·rename_i k hk;exact absurd rfl (h _ hk)
 ·rfl
theorem pageP_no {b:Bd} {r:List Str} (h:∀ o,numsI r=some o→o.length≠4):pageP b r=.error 2:=by
 unfold pageP
 split
 ·rename_i hk;exact absurd rfl (h _ hk)
 ·rfl
theorem rtables_x {k:Hp} {b:Bd} {sP sL sT sl:Value} {oP oL:Option Nat} (d:Dbo k h b sP sL sT oP oL) (hT:TOk b.T) {w0:Str} {r:List Str} (rw_:WdR h sl (w0 :: r)) (hk1:w0=sRoot→RB k K (rootP b r)) (hk2:w0=sPage→RB k K (pageP b r)) (hw0:w0=sRoot∨w0=sPage):X Tryz.prog 53 #[rbV b sP sL sT,sl] h K:=by
 obtain ⟨base,cap,rfl,fW⟩:=rw_.at_
 have hn20:=rw_.n
 obtain ⟨pa,pc,rfl⟩:=grSl d.gP
 obtain ⟨ta,tc,rfl⟩:=rdSl d.rT
 obtain ⟨la,lc,rfl⟩:=grSl d.gL
 have ebv:Bv (rbV b (.slice pa b.pcs.length pc) (.slice la b.lbs.length lc) (.slice ta (bT b).L.length tc)):=⟨_,_,_,_,_,_,_,_,_,_,rfl⟩
 obtain ⟨a0,rfl,l0⟩:=fW 0 w0 rfl
 have hlen:(w0 :: r).length=r.length+1:=rfl
 refine fnv (args:=_) mixed rfXImF0 [] [] Tryz.func53 rfl (by kernel_rfl) (cw_ ?_)
 refine n_ ?_
 refine ⟨_,l0,cw_ ?_⟩
 by_cases h1:w0=sRoot
 ·refine seq_true h1 ?_
  have R:=hk1 h1
  conv=>whnf
  refine rnumbers_x rw_ (by omega) 1 (by decide) (fun h2 le2 hno=>?_) (fun o s h2 hno hO=>?_)
  ·conv=>whnf
   exact R.err 2 _ h2 (rootP_no fun o ho=>by rw [show (w0 :: r).drop 1=r from rfl] at hno;rw [hno] at ho;cases ho) ebv
  have hno:numsI r=some o:=hno
  obtain ⟨so,sc,rfl⟩:=hO.shape
  by_cases ho:o.length=1
  rotate_left
  ·rw [decide_eq_false ho]
   conv=>whnf
   exact R.err 2 _ h2 (rootP_no fun o2 ho2=>by rw [hno] at ho2;cases ho2;exact ho) ebv
  rw [decide_eq_true ho]
  obtain ⟨k0,rfl⟩:=List.length_eq_one_iff.1 ho
  have hk0:=(numsI_some _ _ hno).2 k0 (by simp)
  have e1:rootP b r=match b.T with
   | some _=>.error 8
   | none=>if k0 % 4096=0 then .ok { b with T:=some ⟨k0,1,[]⟩ } else .error 1:=by unfold rootP;rw [hno];rfl
  have d2:=d.up hO.le
  obtain ⟨ob,ocap,orest,oe,_,orow,_⟩:=hO.row (Nat.succ_pos _)
  cases oe
  obtain ⟨place,pcs,lbs,T⟩:=b
  cases T with
  | some t =>
   conv=>whnf
   exact R.err 8 _ h2 e1 ebv
  | none =>
   conv=>whnf
   refine ⟨_,loadI (j:=0) aggU6 orow rfl rfl,cw_ ?_⟩
   rw [show ((k0:Int)).tmod 4096=((k0 % 4096:Nat):Int) from rfl]
   refine br_ (fun q1=>?_) fun q1=>?_
   ·conv=>whnf
    exact R.err 1 _ h2 (e1.trans (if_neg (by omega))) ebv
   conv=>whnf
   refine ⟨_,loadI (j:=0) aggU6 orow rfl rfl,cw_ ?_⟩
   refine rpgNew_x k0 (cw_ ?_)
   exact R.ok ⟨place,pcs,lbs,some ⟨k0,1,[]⟩⟩ _ _ _ _ _ k h2 (e1.trans (if_pos (by omega))) (Hp.le_refl _) ⟨d2.le,d2.gP,d2.gL,d2.nP,d2.nL,Rd.nil⟩
 ·refine seq_false h1 ?_
  have R:=hk2 (hw0.resolve_left h1)
  conv=>whnf
  refine rnumbers_x rw_ (by omega) 4 (by decide) (fun h2 le2 hno=>?_) (fun o s h2 hno hO=>?_)
  ·conv=>whnf
   exact R.err 2 _ h2 (pageP_no fun o ho=>by rw [show (w0 :: r).drop 1=r from rfl] at hno;rw [hno] at ho;cases ho) ebv
  have hno:numsI r=some o:=hno
  obtain ⟨so,sc,rfl⟩:=hO.shape
  by_cases ho:o.length=4
  rotate_left
  ·rw [decide_eq_false ho]
   conv=>whnf
   exact R.err 2 _ h2 (pageP_no fun o2 ho2=>by rw [hno] at ho2;cases ho2;exact ho) ebv
  rw [decide_eq_true ho]
  obtain ⟨k0,k1,k2,k3,rfl⟩:∃ k0 k1 k2 k3,o=[k0,k1,k2,k3]:=by
   match o,ho with
   | [a,b,c,d],_=>exact ⟨a,b,c,d,rfl⟩
  have hkn:=(numsI_some _ _ hno).2
  have hk0:=hkn k0 (by simp)
  have hk1':=hkn k1 (by simp)
  have hk2':=hkn k2 (by simp)
  have hk3:=hkn k3 (by simp)
  have e1:pageP b r=match b.T with
   | none=>.error 8
   | some t=>match mapP t k0 k1 k2 k3 with
    | .error e=>.error e
    | .ok u=>.ok { b with T:=some u }:=by unfold pageP;rw [hno];rfl
  have d2:=d.up hO.le
  obtain ⟨ob,ocap,orest,oe,_,orow,_⟩:=hO.row (Nat.succ_pos _)
  cases oe
  obtain ⟨place,pcs,lbs,T⟩:=b
  cases T with
  | none =>
   conv=>whnf
   exact R.err 8 _ h2 e1 ebv
  | some t =>
   obtain ⟨⟨lev,it⟩,htl⟩:=hT t rfl
   conv=>whnf
   refine ⟨_,loadI (j:=2) aggU6 orow rfl rfl,cw_ ?_⟩
   refine br_ (fun q1=>?_) fun q1=>?_
   ·conv=>whnf
    have em:mapP t k0 k1 k2 k3=.error 1:=if_neg fun hh=>by have:=(of_decide_eq_true hh).1;omega
    exact R.err 1 _ h2 (by rw [e1];simp only;rw [em]) ebv
   conv=>whnf
   refine ⟨_,loadI (j:=0) aggU6 orow rfl rfl,cw_ ?_⟩
   refine ⟨_,loadI (j:=1) aggU6 orow rfl rfl,cw_ ?_⟩
   refine ⟨_,loadI (j:=2) aggU6 orow rfl rfl,cw_ ?_⟩
   refine n_ ?_
   refine ⟨_,loadI (j:=3) aggU6 orow rfl rfl,cw_ ?_⟩
   refine rpgmap_x true t it (.slice ta t.L.length tc) (d2.rT.le d2.le) htl k0 k1 (k2:Int) k3 (by omega) (by omega) (by omega) fun s' h3 le3 hRd hOw=>?_
   obtain ⟨sa',sc',rfl⟩:=rdSl hRd
   refine ⟨trivial,cw_ ?_⟩
   cases hm:mapP t k0 k1 k2 k3 with
   | error e =>
    exact R.err e _ h3 (by rw [e1];simp only;rw [hm]) ⟨⟨place,pcs,lbs,some t⟩,_,_,_,_,_,_,_,_,_,rfl⟩
   | ok u =>
    have hOw:=hOw.1 u hm
    rw [hm] at hOw
    obtain ⟨k',lk',d3⟩:=d2.newT (c:=⟨place,pcs,lbs,some u⟩) hOw rfl rfl rfl
    exact R.ok ⟨place,pcs,lbs,some u⟩ _ _ _ _ _ k' h3 (by rw [e1];simp only;rw [hm]) lk' d3
end
end Go.Proofs.YtdhkjcdneidgaaaGreatDoor
namespace Go.Proofs.YtdhkjcdneidgaaaGreatDoor
open Go Go.Mid Go.RowKit Go.Bits
attribute [local irreducible] mid
theorem fmtS_B:∀ f:Nat,f<15→((fmtS.getD f []=[66])↔f=4)∧((fmtS.getD f []=[74])↔f=6):=by decide
section
variable {h:Hp} {K:Value→Hp→Prop}
theorem insP_at {b:Bd} {ln:Int} {t l:Str} {c:UInt8} (h:c=64):insP b ln t (c :: l)=if nameB l=true then (match parseA (t.take (t.length - (l.length+1))++[48]) with
   | .error e=>.error e
   | .ok x=>if fmtN x.op=4∨fmtN x.op=6 then .ok (layPc b ln 4 0 x l) else .error 2) else .error 9:=by
 subst h
 rfl
theorem insP_no {b:Bd} {ln:Int} {t l:Str} {c:UInt8} (h:c≠64):insP b ln t (c :: l)=match parseA t with
  | .error e=>.error e
  | .ok x=>.ok (layPc b ln 4 0 x []):=by
 exact if_neg (by simpa using h)
theorem rinsn_x {k:Hp} {b:Bd} {sP sL sT sl:Value} {oP oL:Option Nat} (d:Dbo k h b sP sL sT oP oL) (hb:b.place<2 ^ 64) (hl:b.pcs.length≤2 ^ 20) {W:List Str} {t:Str} (rw_:WdR h sl W) (hWl:0<W.length) {c:UInt8} {l:Str} (hlast:W[W.length - 1]? = some (c :: l)) (ht:t.length≤200) (hlt:(c :: l).length≤t.length) (ln:Int) (R:RB k K (insP b ln t (c :: l))):X Tryz.prog 54 #[rbV b sP sL sT,sl,sv t,.int .i64 ln] h K:=by
 obtain ⟨base,cap,rfl,fW⟩:=rw_.at_
 have hn20:=rw_.n
 obtain ⟨pa,pc,rfl⟩:=grSl d.gP
 obtain ⟨ta,tc,rfl⟩:=rdSl d.rT
 obtain ⟨la,lc,rfl⟩:=grSl d.gL
 have ebv:Bv (rbV b (.slice pa b.pcs.length pc) (.slice la b.lbs.length lc) (.slice ta (bT b).L.length tc)):=⟨_,_,_,_,_,_,_,_,_,_,rfl⟩
 obtain ⟨a0,rfl,l0⟩:=fW (W.length - 1) (c :: l) hlast
 have hc256:=c.toNat_lt
 refine fnv (args:=_) mixed [(4,4),(8,8),(11,11),(13,13),(60,13)] [] [] Tryz.func54 rfl (by kernel_rfl) (cw_ ?_)
 refine n_ ?_
 rw [show (W.length:Int) - 1=((W.length - 1:Nat):Int) by omega]
 refine n_ ?_
 refine ⟨_,l0,cw_ ?_⟩
 refine ch_intro (l:=c :: l) c (by omega) rfl (cw_ ?_)
 refine br_ (fun q1=>?_) fun q1=>?_
 ·have c64:c≠64:=fun e=>by subst e;exact q1 rfl
  rw [insP_no c64] at R
  conv=>whnf
  refine rparse_x t (by omega) ?_
  cases hp:parseA t with
  | error e =>
   have he:=im_parse_err hp
   rw [hp] at R
   rw [show parsedV (.error e)=.tuple #[.agg in0.cs.toArray,.int .i64 e] from rfl]
   conv=>whnf
   refine bt_ ?_
   exact R.err e _ h rfl ebv
  | ok x =>
   rw [hp] at R
   rw [show parsedV (.ok x)=.tuple #[.agg x.cs.toArray,.int .i64 0] from rfl]
   conv=>whnf
   refine rimlay_x d hb hl ⟨0,0,4,0,x,[]⟩ ln (show 4≤100 by decide) fun sP' oP' h' d'=>?_
   obtain ⟨pa',pc',rfl⟩:=grSl d'.gP
   conv=>whnf
   exact R.ok _ _ _ _ _ _ k _ rfl (Hp.le_refl _) d'
 have c64:c=64:=UInt8.toNat_inj.1 (by show c.toNat=64;omega)
 rw [insP_at c64] at R
 conv=>whnf
 refine bt_ ?_ (by rw [bs_size];simp;omega)
 refine sub_from (l:=c :: l) (m:=l) (i:=1) rfl (cw_ ?_)
 refine rname_x l (by simp at hlt;omega) ?_
 cases hnm:nameB l with
 | false =>
  rw [hnm,if_neg (by simp)] at R
  conv=>whnf
  exact R.err 9 _ h rfl ebv
 | true =>
  rw [hnm,if_pos rfl] at R
  conv=>whnf
  rw [bs_size,bs_size]
  have hlt':l.length+1≤t.length:=hlt
  have ecl:(c :: l).length=l.length+1:=rfl
  refine n_ ?_
  rw [show (t.length:Int) - ((c :: l).length:Int)=((t.length - (l.length+1):Nat):Int) by rw [ecl];omega]
  conv=>whnf
  refine bt_ ?_ (by rw [bs_size];simp)
  refine sub_intro ?_
  rw [Int.toNat_natCast,List.drop_zero]
  conv=>whnf
  refine cat_intro (b:=[48]) (by rw [List.length_take];simp;omega) (cw_ ?_)
  refine rparse_x (t.take (t.length - (l.length+1))++[48]) (by rw [List.length_append,List.length_take];simp;omega) ?_
  cases hp:parseA (t.take (t.length - (l.length+1))++[48]) with
  | error e =>
   have he:=im_parse_err hp
   rw [hp] at R
   rw [show parsedV (.error e)=.tuple #[.agg in0.cs.toArray,.int .i64 e] from rfl]
   conv=>whnf
   refine bt_ ?_
   exact R.err e _ h rfl ebv
  | ok x =>
   rw [hp] at R
   rw [show parsedV (.ok x)=.tuple #[.agg x.cs.toArray,.int .i64 0] from rfl]
   simp only at R
   have hf15:=fmtN_lt x.op
   obtain ⟨fb,fj⟩:=fmtS_B _ hf15
   conv=>whnf
   refine rfind4_x x.op (fmtN x.op) rfl fun o m i h2 le2=>?_
   have d2:=d.up le2
   generalize hfs:fmtS.getD (fmtN x.op) []=fs at fb fj ⊢
   conv=>whnf
   refine seq_intro ?_
   by_cases q4:fs=[66]
   ·rw [decide_eq_true q4]
    rw [if_pos (.inl (fb.1 q4))] at R
    conv=>whnf
    refine bt_ ?_ (by rw [bs_size];simp;omega)
    refine sub_from (l:=c :: l) (m:=l) (i:=1) rfl (cw_ ?_)
    refine rimlay_x d2 hb hl ⟨0,0,4,0,x,l⟩ ln (show 4≤100 by decide) fun sP' oP' h' d'=>?_
    obtain ⟨pa',pc',rfl⟩:=grSl d'.gP
    refine ⟨trivial,cw_ ?_⟩
    exact R.ok _ _ _ _ _ _ k _ rfl (Hp.le_refl _) d'
   rw [decide_eq_false q4]
   conv=>whnf
   refine seq_intro ?_
   by_cases q6:fs=[74]
   ·rw [decide_eq_true q6]
    rw [if_pos (.inr (fj.1 q6))] at R
    conv=>whnf
    refine bt_ ?_ (by rw [bs_size];simp;omega)
    refine sub_from (l:=c :: l) (m:=l) (i:=1) rfl (cw_ ?_)
    refine rimlay_x d2 hb hl ⟨0,0,4,0,x,l⟩ ln (show 4≤100 by decide) fun sP' oP' h' d'=>?_
    obtain ⟨pa',pc',rfl⟩:=grSl d'.gP
    refine ⟨trivial,cw_ ?_⟩
    exact R.ok _ _ _ _ _ _ k _ rfl (Hp.le_refl _) d'
   ·rw [decide_eq_false q6]
    rw [if_neg (fun hh=>hh.elim (fun e=>q4 (fb.2 e)) (fun e=>q6 (fj.2 e)))] at R
    conv=>whnf
    exact R.err 2 _ h2 rfl ebv
end
end Go.Proofs.YtdhkjcdneidgaaaGreatDoor
namespace Go.Proofs.YtdhkjcdneidgaaaGreatDoor
open Go Go.Mid Go.RowKit Go.Bits
abbrev rfXImH0:Go.Mid.RF:=[(3,3),(56,3),(59,3),(64,3),(82,3),(6,6)]
attribute [local irreducible] mid
theorem any_at {W:List Str} {i:Nat} {w:Str} (h:W[i]? = some w) (hw:w=[]):W.any (·.isEmpty)=true:=by
 rw [List.any_eq_true]
 exact ⟨w,List.mem_of_getElem? h,by rw [hw];rfl⟩
theorem oneP_long {b:Bd} {ln:Int} {t:Str} (h:200<t.length):oneP b ln t=.error 4:=if_pos h
theorem oneP_empty {b:Bd} {ln:Int} {t:Str} (h:¬ 200<t.length) (h2:(sp [32] t).any (·.isEmpty)=true):oneP b ln t=.error 2:=by
 unfold oneP
 rw [if_neg h,if_pos h2]
theorem oneP_go {b:Bd} {ln:Int} {t w:Str} {r:List Str} (h:¬ 200<t.length) (h2:¬ (sp [32] t).any (·.isEmpty)=true) (e:sp [32] t=w :: r):oneP b ln t=if r=[]∧t.getLast? = some 58 then labelP b t.dropLast
   else if w=sOrg then orgP b r else if w=sWord then dataP b ln 4 r else if w=sDword then dataP b ln 8 r else if w=sRoot then rootP b r else if w=sPage then pageP b r
   else insP b ln t ((w :: r).getLastD []):=by
 unfold oneP
 rw [if_neg h,if_neg h2,e]
theorem orgP_no {b:Bd} {r:List Str} (h:∀ o,numsI r=some o→o.length≠1):orgP b r=.error 2:=by
 unfold orgP
 split
 ·rename_i k hk;exact absurd rfl (h _ hk)
 ·rfl
theorem lastD {w:Str} {r:List Str}:(w :: r)[(w :: r).length - 1]? = some ((w :: r).getLastD []):=by
 rw [← List.getLast?_eq_getElem?,List.getLast?_eq_some_getLast (List.cons_ne_nil w r),List.getLastD_eq_getLast?,List.getLast?_eq_some_getLast (List.cons_ne_nil w r)]
 rfl
section
variable {h:Hp} {K:Value→Hp→Prop}
theorem rone_x {k:Hp} {b:Bd} {sP sL sT:Value} {oP oL:Option Nat} (d:Dbo k h b sP sL sT oP oL) (hb:b.place<2 ^ 64) (hl:b.pcs.length≤2 ^ 19) (hll:b.lbs.length≤2 ^ 19) (hT:TOk b.T) (t:Str) (htl:t.length≤2 ^ 20) (ln:Int) (R:RB k K (oneP b ln t)):X Tryz.prog 25 #[rbV b sP sL sT,sv t,.int .i64 ln] h K:=by
 obtain ⟨pa,pc,rfl⟩:=grSl d.gP
 obtain ⟨ta,tc,rfl⟩:=rdSl d.rT
 obtain ⟨la,lc,rfl⟩:=grSl d.gL
 have ebv:Bv (rbV b (.slice pa b.pcs.length pc) (.slice la b.lbs.length lc) (.slice ta (bT b).L.length tc)):=⟨_,_,_,_,_,_,_,_,_,_,rfl⟩
 refine fnv (args:=_) mixed rfXImH0 [] [] Tryz.func25 rfl (by kernel_rfl) (cw_ ?_)
 refine br_ (fun q1=>?_) fun q1=>?_
 ·conv=>whnf
  exact R.err 4 _ h (oneP_long (by omega)) ebv
 have hlen:¬ 200<t.length:=by omega
 conv=>whnf
 refine rsplit_x t (by omega) fun sl h1 hOw=>?_
 have hne:sp [32] t≠[]:=sp_ne _ _
 have hspl:=sp_length [32] t (by simp)
 have hsw:=fun w hw=>sp_word [32] (by simp) t.length t (Nat.le_refl _) w hw
 have d1:=d.up hOw.le
 have rW:WdR h1 sl (sp [32] t):=⟨hOw.rd aggStI,by omega,fun w hw=>Nat.le_trans (hsw w hw) (by omega)⟩
 clear hOw
 obtain ⟨W,hW⟩:∃ W,sp [32] t=W:=⟨_,rfl⟩
 have e0:=oneP_empty (b:=b) (ln:=ln) hlen
 have e1:=fun w r h2=>oneP_go (b:=b) (ln:=ln) (w:=w) (r:=r) hlen h2
 rw [hW] at hne hspl hsw rW e0 e1
 obtain ⟨base,cap,rfl,fW⟩:=rW.at_
 conv=>whnf
 refine loop_at [9] [3,6] (fun q vs cs h'=>h1=h'∧cs=[some (rbC b (.slice pa b.pcs.length pc) (.slice la b.lbs.length lc) (.slice ta (bT b).L.length tc)),some [ux 0,.slice none 0 0,.slice none 0 0,.bool false,ux 0,.int .i64 0,.slice none 0 0]]∧∃ i:Nat,i≤W.length∧q=W.length - i∧vs=[.v (.int .i64 i)]∧∀ (j:Nat) (x:Str),j<i→W[j]? = some x→x≠[]) W.length ⟨rfl,rfl,0,by omega,by omega,rfl,fun j x hj=>by omega⟩ ?_
 rintro q vs cs mm bx _ ⟨rfl,rfl,i,hi,rfl,rfl,hg⟩
 conv=>whnf
 refine br_ (fun q2=>?_) fun q2=>?_
 ·obtain ⟨w,hw⟩:∃ w,W[i]? = some w:=⟨_,List.getElem?_eq_getElem (by omega)⟩
  obtain ⟨a,rfl,lw⟩:=fW i w hw
  conv=>whnf
  refine n_ ?_
  refine ⟨_,lw,cw_ ?_⟩
  refine seq_intro (b:=[]) ?_
  by_cases q3:w=[]
  ·rw [decide_eq_true q3]
   conv=>whnf
   exact R.err 2 _ h1 (e0 (any_at hw q3)) ebv
  ·rw [decide_eq_false q3]
   conv=>whnf
   refine n_ ?_
   refine ⟨W.length - (i+1),by omega,rfl,rfl,i+1,by omega,rfl,rfl,fun j x hj hx=>?_⟩
   by_cases e:j=i
   ·subst e;rw [hw] at hx;cases hx;exact q3
   ·exact hg j x (by omega) hx
 have hiW:i=W.length:=by omega
 subst hiW
 have hany:¬ W.any (·.isEmpty)=true:=fun hh=>by
  obtain ⟨x,hx,hxe⟩:=List.any_eq_true.1 hh
  obtain ⟨j,hj,e⟩:=List.getElem_of_mem hx
  have:=hg j x hj (by rw [← e];exact List.getElem?_eq_getElem hj)
  cases x <;> simp_all
 have hwne:∀ x ∈ W,x≠[]:=fun x hx=>by
  obtain ⟨j,hj,e⟩:=List.getElem_of_mem hx
  exact hg j x hj (by rw [← e];exact List.getElem?_eq_getElem hj)
 obtain ⟨w,r,rfl⟩:=List.exists_cons_of_ne_nil hne
 have e1:=e1 w r hany rfl
 rw [e1] at R
 obtain ⟨a0,rfl,l0⟩:=fW 0 w rfl
 clear e0 e1 hany hg
 have htne:t≠[]:=fun e=>by
  subst e
  have:sp [32] []=[[]]:=by decide
  rw [this] at hW
  have:=hwne w (by simp)
  injection hW with h1 h2
  exact this h1.symm
 obtain ⟨cl,hcl⟩:∃ c,t.getLast? = some c:=⟨_,List.getLast?_eq_some_getLast htne⟩
 have hcl2:t[t.length - 1]? = some cl:=by rw [← hcl,List.getLast?_eq_getElem?]
 have hc256:=cl.toNat_lt
 have htl0:0<t.length:=List.length_pos_iff.2 htne
 have hWlen:(w :: r).length=r.length+1:=rfl
 obtain ⟨cc,ll,hlst⟩:∃ c l,(w :: r).getLastD []=c :: l:=List.exists_cons_of_ne_nil (hwne _ (List.mem_of_getElem? lastD))
 have hlastA:(w :: r)[(w :: r).length - 1]? = some (cc :: ll):=by rw [lastD,hlst]
 have hlastl:(cc :: ll).length≤t.length:=hsw _ (List.mem_of_getElem? hlastA)
 conv=>whnf
 refine br_ (fun q4=>?_) fun q4=>?_
 ·have hr:r=[]:=List.eq_nil_of_length_eq_zero (by omega)
  conv=>whnf
  rw [bs_size]
  refine n_ ?_
  rw [show (t.length:Int) - 1=((t.length - 1:Nat):Int) by omega]
  refine ch_intro (l:=t) cl (by omega) (by rw [Int.toNat_natCast];exact hcl2) (cw_ ?_)
  refine br_ (fun q5=>?_) fun q5=>?_
  ·have hc58:cl=58:=UInt8.toNat_inj.1 (by show cl.toNat=58;omega)
   rw [if_pos ⟨hr,by rw [hcl,hc58]⟩] at R
   conv=>whnf
   rw [bs_size]
   refine n_ ?_
   rw [show (t.length:Int) - 1=((t.length - 1:Nat):Int) by omega]
   refine bt_ ?_ (by rw [bs_size];simp)
   refine sub_by (m:=t.dropLast) (by rw [Int.toNat_natCast,List.drop_zero,List.dropLast_eq_take]) (cw_ ?_)
   refine rname_x t.dropLast (by rw [List.length_dropLast];omega) ?_
   unfold labelP at R
   cases hnm:nameB t.dropLast with
   | false =>
    rw [hnm,if_neg (by simp)] at R
    conv=>whnf
    exact R.err 9 _ h1 rfl ebv
   | true =>
   rw [hnm,if_pos rfl] at R
   conv=>whnf
   refine rlabel_x d1 (by omega) t.dropLast ?_
   have hix:=idxL_find b.lbs t.dropLast
   cases hid:idxL b.lbs t.dropLast with
   | some j =>
    have hj:=idxL_lt _ _ _ hid
    rw [hid] at hix
    have hix:findL b.lbs t.dropLast=(b.lbs[j]?).map (·.2):=hix
    rw [List.getElem?_eq_getElem hj] at hix
    rw [hix] at R
    rw [show toI (some j)=(j:Int) from rfl]
    conv=>whnf
    exact R.err 8 _ h1 rfl ebv
   | none =>
    rw [hid] at hix
    have hix:findL b.lbs t.dropLast=none:=hix
    rw [hix] at R
    rw [show toI none = -1 from rfl]
    conv=>whnf
    refine new_intro (o:=rowO 38 (lbC (t.dropLast,b.place))) (fun z h2 n_z le_z at_z ot_z=>cw_ ?_)
    have d2:=d1.up le_z
    refine appOne (z:=.agg #[sv [],ux 0]) (by kernel_rfl) infRl (by kernel_rfl) (by kernel_rfl) (by kernel_rfl) rfl (bytes:=24) (by decide) rfl rfl rfl d2.gL at_z rfl rfl (by omega) fun s' h3 oP' g3 t3=>?_
    obtain ⟨sa,sc,rfl⟩:=g3.shape
    have d3:=d2.appL (c:={ b with lbs:=b.lbs++[(t.dropLast,b.place)] }) (p:=(t.dropLast,b.place)) g3 t3 rfl rfl rfl
    conv=>whnf
    exact R.ok { b with lbs:=b.lbs++[(t.dropLast,b.place)] } _ _ _ _ _ k _ rfl (Hp.le_refl _) d3
  ·have hno:¬ (r=[]∧t.getLast? = some 58):=fun hh=>q5 (by have:=hh.2;rw [hcl] at this;cases this;rfl)
   rw [if_neg hno] at R
   conv=>whnf
   refine n_ ?_
   refine ⟨_,l0,cw_ ?_⟩
   by_cases o1:w=sOrg
   ·rw [if_pos o1] at R
    refine seq_true o1 (cw_ ?_)
    refine rnumbers_x rW (by omega) 1 (by decide) (fun h2 le2 hno=>?_) (fun o s h2 hno hO=>?_)
    ·conv=>whnf
     exact R.err 2 _ h2 (orgP_no fun o ho=>by rw [show (w :: r).drop 1=r from rfl] at hno;rw [hno] at ho;cases ho) ebv
    have hno:numsI r=some o:=hno
    obtain ⟨so,sc,rfl⟩:=hO.shape
    by_cases ho:o.length=1
    rotate_left
    ·rw [decide_eq_false ho]
     conv=>whnf
     exact R.err 2 _ h2 (orgP_no fun o2 ho2=>by rw [hno] at ho2;cases ho2;exact ho) ebv
    rw [decide_eq_true ho]
    obtain ⟨k0,rfl⟩:=List.length_eq_one_iff.1 ho
    have d2:=d1.up hO.le
    obtain ⟨ob,ocap,orest,oe,_,orow,_⟩:=hO.row (Nat.succ_pos _)
    cases oe
    conv=>whnf
    refine ⟨_,loadI (j:=0) aggU6 orow rfl rfl,cw_ ?_⟩
    exact R.ok { b with place:=k0 } _ _ _ _ _ k h2 (by unfold orgP;rw [hno]) (Hp.le_refl _) ⟨d2.le,d2.gP,d2.gL,d2.nP,d2.nL,d2.rT⟩
   rw [if_neg o1] at R
   refine seq_false o1 (cw_ ?_)
   by_cases o2:w=sWord
   ·rw [if_pos o2] at R
    refine seq_true o2 (cw_ ?_)
    refine rdata_x d1 hb (by omega) rW (fun x hx=>hwne x (List.mem_cons_of_mem _ hx)) 4 (.inr ⟨by rw [o2];decide,rfl⟩) ln ⟨fun e v h' he hv=>?_,fun c sP sL sT oP oL k' h' hc hkk hd=>?_⟩
    ·obtain ⟨b',a1,n1,c1,a2,n2,c2,a3,n3,c3,rfl⟩:=hv
     conv=>whnf
     exact R.err e _ h' he ⟨_,_,_,_,_,_,_,_,_,_,rfl⟩
    ·obtain ⟨pa',pc',rfl⟩:=grSl hd.gP
     obtain ⟨ta',tc',rfl⟩:=rdSl hd.rT
     obtain ⟨la',lc',rfl⟩:=grSl hd.gL
     conv=>whnf
     exact R.ok c _ _ _ _ _ k' h' hc hkk hd
   rw [if_neg o2] at R
   refine seq_false o2 (cw_ ?_)
   by_cases o3:w=sDword
   ·rw [if_pos o3] at R
    refine seq_true o3 (cw_ ?_)
    refine rdata_x d1 hb (by omega) rW (fun x hx=>hwne x (List.mem_cons_of_mem _ hx)) 8 (.inl ⟨o3,rfl⟩) ln ⟨fun e v h' he hv=>?_,fun c sP sL sT oP oL k' h' hc hkk hd=>?_⟩
    ·obtain ⟨b',a1,n1,c1,a2,n2,c2,a3,n3,c3,rfl⟩:=hv
     conv=>whnf
     exact R.err e _ h' he ⟨_,_,_,_,_,_,_,_,_,_,rfl⟩
    ·obtain ⟨pa',pc',rfl⟩:=grSl hd.gP
     obtain ⟨ta',tc',rfl⟩:=rdSl hd.rT
     obtain ⟨la',lc',rfl⟩:=grSl hd.gL
     conv=>whnf
     exact R.ok c _ _ _ _ _ k' h' hc hkk hd
   rw [if_neg o3] at R
   refine seq_false o3 (cw_ ?_)
   by_cases o4:w=sRoot
   ·rw [if_pos o4] at R
    refine seq_true o4 (cw_ ?_)
    refine rtables_x d1 hT rW (fun _=>⟨fun e v h' he hv=>?_,fun c sP sL sT oP oL k' h' hc hkk hd=>?_⟩) (fun e=>absurd (o4.symm.trans e) (by decide)) (.inl o4)
    ·obtain ⟨b',a1,n1,c1,a2,n2,c2,a3,n3,c3,rfl⟩:=hv
     conv=>whnf
     exact R.err e _ h' he ⟨_,_,_,_,_,_,_,_,_,_,rfl⟩
    ·obtain ⟨pa',pc',rfl⟩:=grSl hd.gP
     obtain ⟨ta',tc',rfl⟩:=rdSl hd.rT
     obtain ⟨la',lc',rfl⟩:=grSl hd.gL
     conv=>whnf
     exact R.ok c _ _ _ _ _ k' h' hc hkk hd
   rw [if_neg o4] at R
   refine seq_false o4 (cw_ ?_)
   by_cases o5:w=sPage
   ·rw [if_pos o5] at R
    refine seq_true o5 (cw_ ?_)
    refine rtables_x d1 hT rW (fun e=>absurd e o4) (fun _=>⟨fun e v h' he hv=>?_,fun c sP sL sT oP oL k' h' hc hkk hd=>?_⟩) (.inr o5)
    ·obtain ⟨b',a1,n1,c1,a2,n2,c2,a3,n3,c3,rfl⟩:=hv
     conv=>whnf
     exact R.err e _ h' he ⟨_,_,_,_,_,_,_,_,_,_,rfl⟩
    ·obtain ⟨pa',pc',rfl⟩:=grSl hd.gP
     obtain ⟨ta',tc',rfl⟩:=rdSl hd.rT
     obtain ⟨la',lc',rfl⟩:=grSl hd.gL
     conv=>whnf
     exact R.ok c _ _ _ _ _ k' h' hc hkk hd
   rw [if_neg o5,hlst] at R
   refine seq_false o5 (cw_ ?_)
   refine rinsn_x d1 hb (by omega) rW (by omega) hlastA (by omega) hlastl ln ⟨fun e v h' he hv=>?_,fun c sP sL sT oP oL k' h' hc hkk hd=>?_⟩
   ·obtain ⟨b',a1,n1,c1,a2,n2,c2,a3,n3,c3,rfl⟩:=hv
    conv=>whnf
    exact R.err e _ h' he ⟨_,_,_,_,_,_,_,_,_,_,rfl⟩
   ·obtain ⟨pa',pc',rfl⟩:=grSl hd.gP
    obtain ⟨ta',tc',rfl⟩:=rdSl hd.rT
    obtain ⟨la',lc',rfl⟩:=grSl hd.gL
    conv=>whnf
    exact R.ok c _ _ _ _ _ k' h' hc hkk hd
 ·have hno:¬ (r=[]∧t.getLast? = some 58):=fun hh=>q4 (by rw [hh.1];rfl)
  rw [if_neg hno] at R
  conv=>whnf
  refine n_ ?_
  refine ⟨_,l0,cw_ ?_⟩
  by_cases o1:w=sOrg
  ·rw [if_pos o1] at R
   refine seq_true o1 (cw_ ?_)
   refine rnumbers_x rW (by omega) 1 (by decide) (fun h2 le2 hno=>?_) (fun o s h2 hno hO=>?_)
   ·conv=>whnf
    exact R.err 2 _ h2 (orgP_no fun o ho=>by rw [show (w :: r).drop 1=r from rfl] at hno;rw [hno] at ho;cases ho) ebv
   have hno:numsI r=some o:=hno
   obtain ⟨so,sc,rfl⟩:=hO.shape
   by_cases ho:o.length=1
   rotate_left
   ·rw [decide_eq_false ho]
    conv=>whnf
    exact R.err 2 _ h2 (orgP_no fun o2 ho2=>by rw [hno] at ho2;cases ho2;exact ho) ebv
   rw [decide_eq_true ho]
   obtain ⟨k0,rfl⟩:=List.length_eq_one_iff.1 ho
   have d2:=d1.up hO.le
   obtain ⟨ob,ocap,orest,oe,_,orow,_⟩:=hO.row (Nat.succ_pos _)
   cases oe
   conv=>whnf
   refine ⟨_,loadI (j:=0) aggU6 orow rfl rfl,cw_ ?_⟩
   exact R.ok { b with place:=k0 } _ _ _ _ _ k h2 (by unfold orgP;rw [hno]) (Hp.le_refl _) ⟨d2.le,d2.gP,d2.gL,d2.nP,d2.nL,d2.rT⟩
  rw [if_neg o1] at R
  refine seq_false o1 (cw_ ?_)
  by_cases o2:w=sWord
  ·rw [if_pos o2] at R
   refine seq_true o2 (cw_ ?_)
   refine rdata_x d1 hb (by omega) rW (fun x hx=>hwne x (List.mem_cons_of_mem _ hx)) 4 (.inr ⟨by rw [o2];decide,rfl⟩) ln ⟨fun e v h' he hv=>?_,fun c sP sL sT oP oL k' h' hc hkk hd=>?_⟩
   ·obtain ⟨b',a1,n1,c1,a2,n2,c2,a3,n3,c3,rfl⟩:=hv
    conv=>whnf
    exact R.err e _ h' he ⟨_,_,_,_,_,_,_,_,_,_,rfl⟩
   ·obtain ⟨pa',pc',rfl⟩:=grSl hd.gP
    obtain ⟨ta',tc',rfl⟩:=rdSl hd.rT
    obtain ⟨la',lc',rfl⟩:=grSl hd.gL
    conv=>whnf
    exact R.ok c _ _ _ _ _ k' h' hc hkk hd
  rw [if_neg o2] at R
  refine seq_false o2 (cw_ ?_)
  by_cases o3:w=sDword
  ·rw [if_pos o3] at R
   refine seq_true o3 (cw_ ?_)
   refine rdata_x d1 hb (by omega) rW (fun x hx=>hwne x (List.mem_cons_of_mem _ hx)) 8 (.inl ⟨o3,rfl⟩) ln ⟨fun e v h' he hv=>?_,fun c sP sL sT oP oL k' h' hc hkk hd=>?_⟩
   ·obtain ⟨b',a1,n1,c1,a2,n2,c2,a3,n3,c3,rfl⟩:=hv
    conv=>whnf
    exact R.err e _ h' he ⟨_,_,_,_,_,_,_,_,_,_,rfl⟩
   ·obtain ⟨pa',pc',rfl⟩:=grSl hd.gP
    obtain ⟨ta',tc',rfl⟩:=rdSl hd.rT
    obtain ⟨la',lc',rfl⟩:=grSl hd.gL
    conv=>whnf
    exact R.ok c _ _ _ _ _ k' h' hc hkk hd
  rw [if_neg o3] at R
  refine seq_false o3 (cw_ ?_)
  by_cases o4:w=sRoot
  ·rw [if_pos o4] at R
   refine seq_true o4 (cw_ ?_)
   refine rtables_x d1 hT rW (fun _=>⟨fun e v h' he hv=>?_,fun c sP sL sT oP oL k' h' hc hkk hd=>?_⟩) (fun e=>absurd (o4.symm.trans e) (by decide)) (.inl o4)
   ·obtain ⟨b',a1,n1,c1,a2,n2,c2,a3,n3,c3,rfl⟩:=hv
    conv=>whnf
    exact R.err e _ h' he ⟨_,_,_,_,_,_,_,_,_,_,rfl⟩
   ·obtain ⟨pa',pc',rfl⟩:=grSl hd.gP
    obtain ⟨ta',tc',rfl⟩:=rdSl hd.rT
    obtain ⟨la',lc',rfl⟩:=grSl hd.gL
    conv=>whnf
    exact R.ok c _ _ _ _ _ k' h' hc hkk hd
  rw [if_neg o4] at R
  refine seq_false o4 (cw_ ?_)
  by_cases o5:w=sPage
  ·rw [if_pos o5] at R
   refine seq_true o5 (cw_ ?_)
   refine rtables_x d1 hT rW (fun e=>absurd e o4) (fun _=>⟨fun e v h' he hv=>?_,fun c sP sL sT oP oL k' h' hc hkk hd=>?_⟩) (.inr o5)
   ·obtain ⟨b',a1,n1,c1,a2,n2,c2,a3,n3,c3,rfl⟩:=hv
    conv=>whnf
    exact R.err e _ h' he ⟨_,_,_,_,_,_,_,_,_,_,rfl⟩
   ·obtain ⟨pa',pc',rfl⟩:=grSl hd.gP
    obtain ⟨ta',tc',rfl⟩:=rdSl hd.rT
    obtain ⟨la',lc',rfl⟩:=grSl hd.gL
    conv=>whnf
    exact R.ok c _ _ _ _ _ k' h' hc hkk hd
  rw [if_neg o5,hlst] at R
  refine seq_false o5 (cw_ ?_)
  refine rinsn_x d1 hb (by omega) rW (by omega) hlastA (by omega) hlastl ln ⟨fun e v h' he hv=>?_,fun c sP sL sT oP oL k' h' hc hkk hd=>?_⟩
  ·obtain ⟨b',a1,n1,c1,a2,n2,c2,a3,n3,c3,rfl⟩:=hv
   conv=>whnf
   exact R.err e _ h' he ⟨_,_,_,_,_,_,_,_,_,_,rfl⟩
  ·obtain ⟨pa',pc',rfl⟩:=grSl hd.gP
   obtain ⟨ta',tc',rfl⟩:=rdSl hd.rT
   obtain ⟨la',lc',rfl⟩:=grSl hd.gL
   conv=>whnf
   exact R.ok c _ _ _ _ _ k' h' hc hkk hd
end
end Go.Proofs.YtdhkjcdneidgaaaGreatDoor
