/-
  A cache: translations are added, and forgotten.
-/
import Derived.Test.YtdhlpighdlnohaaGreatTbTlb4
set_option linter.unusedSimpArgs false
set_option linter.unusedVariables false
set_option maxHeartbeats 8000000
set_option maxRecDepth 10000
set_option linter.unusedSimpArgs false
set_option linter.unusedVariables false
namespace Go.Proofs.YtdhlpighdlnohaaGreat.Tb
open Go Go.Mid Go.RowKit
abbrev rfXTbTlb50:Go.Mid.RF:=[(3,3),(9,3),(14,3),(19,3),(24,3),(28,3),(30,3),(33,3)]
attribute [local irreducible] mid structOk
theorem rqLen (r:Rq):r.cells.length=5:=rfl
theorem tRqA:isAggT Tryz.prog 60 = some true:=by kernel_rfl
theorem tRqS:sizeT Tryz.prog 60 = some 5:=by kernel_rfl
def Hp.one (b:Nat) (o:Obj):Hp:=fun x=>if x=b then some o else none
theorem Hp.one_at (b:Nat) (o:Obj):Hp.one b o b=some o:=if_pos rfl
theorem Hp.one_le {b:Nat} {o:Obj} {h:Hp} (hb:h b=some o):(Hp.one b o).le h:=fun x y e=>by
 unfold Hp.one at e
 split at e
 ·rename_i hx;cases e;rw [hx];exact hb
 ·cases e
theorem Hp.one_apart {b:Nat} {o:Obj} {g:Hp} (hb:g b=none):Apart (Hp.one b o) g:=fun x y e=>by
 unfold Hp.one at e
 split at e
 ·rename_i hx;rw [hx];exact hb
 ·cases e
theorem none_le {g h:Hp} {b:Nat} (hle:g.le h) (hb:h b=none):g b=none:=Hp.none_le hle hb
set_option maxHeartbeats 4000000 in
set_option maxRecDepth 10000 in
theorem wantAdd {b:Nat} {k:Ky} {L:List En} (hok:∀ e ∈ L,e.ok):Want 138 #[] #[.pointer (some ⟨b,0,none⟩)] (fun e=>decide (keyI e=k)) (Hp.one b (rowO 192 k.cells)) L:=by
 refine ⟨by kernel_rfl,fun e he h K hle hK=>?_⟩
 show X Tryz.prog _ #[e.v,.pointer (some ⟨b,0,none⟩)] h K
 have hb:h b=some (rowO 192 k.cells):=hle _ _ (Hp.one_at _ _)
 refine fnv (args:=_) mixed [(2,2)] [] [6] Tryz.func138 rfl (by kernel_rfl) (cw_ ?_)
 refine ⟨fun h'=>h' b=some (rowO 192 k.cells),hb,cw_ ?_⟩
 refine keyOf_x e (hok e he) ?_
 refine ⟨hb,cw_ ?_⟩
 refine ⟨_,fun h' hh=>loadA0 tKyA tKyS hh (kyLen _),cw_ ?_⟩
 refine n_ ?_ (hc:=by kernel_rfl)
 refine kq hK (bI ?_)
 have:((keyI e).asid==k.asid && ((keyI e).page==k.page && ((keyI e).level==k.level && true)))=decide (keyI e=k):=by
  rw [Bool.eq_iff_iff]
  obtain ⟨k1,k2,k3⟩:=k
  generalize keyI e=ke
  obtain ⟨a1,a2,a3⟩:=ke
  simp
 exact this
set_option maxHeartbeats 4000000 in
set_option maxRecDepth 10000 in
theorem wantForget {b:Nat} {r:Rq} {L:List En} (hr:r.ok) (hok:∀ e ∈ L,e.ok):Want 260 #[] #[.pointer (some ⟨b,0,none⟩)] (forgI r) (Hp.one b (rowO 60 r.cells)) L:=by
 refine ⟨by kernel_rfl,fun e he h K hle hK=>?_⟩
 show X Tryz.prog _ #[e.v,.pointer (some ⟨b,0,none⟩)] h K
 have hb:h b=some (rowO 60 r.cells):=hle _ _ (Hp.one_at _ _)
 refine fnv (args:=_) mixed [(2,2)] [] [] Tryz.func260 rfl (by kernel_rfl) (cw_ ?_)
 refine ⟨_,loadA0 tRqA tRqS hb (rqLen _),cw_ ?_⟩
 refine forgets_x r e hr (hok e he) (cw_ ?_)
 exact hK
set_option maxHeartbeats 4000000 in
set_option maxRecDepth 10000 in
theorem forget_x {c:Nat} {size:Int} {L:List En} (hg:Good size L) {r:Rq} (hr:r.ok) (h:Hp) (K:Value→Hp→Prop) (hT:TlbH h c size L)
  (hk:∀ h',TlbH h' c size (L.filter (fun e=>!forgI r e))→K (.int .i64 ((L.length:Int) - (L.filter (fun e=>!forgI r e)).length)) h') :
  X Tryz.prog 152 #[.pointer (some ⟨c,0,none⟩),r.v] h K:=by
 refine fnv (args:=_) mixed [] [] [] Tryz.func152 rfl (by kernel_rfl) (cw_ ?_)
 refine new_intro (o:=rowO 60 r.cells) (fun br H n_br le_br at_br ot_br=>cw_ ?_)
 refine drop_x (wantForget hr hg.ok) hg h H _ hT le_br (Hp.one_le at_br) (Hp.one_apart n_br) (fun h' hT' _=>cw_ ?_)
 exact hk h' hT'
def fixE (e:En):En:={ e with page:=pageI e.page e.level }
def addI (size : Int) (L : List En) (e : En) : List En :=
  (let L1 := L.filter (fun x => !decide (keyI x = keyI (fixE e)))
   if L1.length = L.length ∧ (L1.length : Int) = size then L1.tail else L1) ++ [fixE e]
theorem lookE_snoc {L:List En} {e:En} (hn:∀ x ∈ L,keyI x≠keyI e) (k:Ky):lookE (L++[e]) k=putF (lookE L) (keyI e) (some e.v) k:=by
 unfold putF
 by_cases hk:k=keyI e
 ·subst hk
  rw [if_pos rfl]
  unfold lookE
  rw [List.find?_append,List.find?_eq_none.2 (fun x hx=>by simpa using hn x hx)]
  simp
 ·rw [if_neg hk]
  unfold lookE
  rw [List.find?_append]
  have:[e].find? (fun x=>decide (keyI x=k))=none:=by simp [Ne.symm hk]
  rw [this];simp
set_option maxHeartbeats 8000000 in
set_option maxRecDepth 10000 in
theorem add_x {c:Nat} {size:Int} {L:List En} (hg:Good size L) {e:En} (he:e.ok) (hv:0≤e.level∧e.level≤2∧0≤e.asid∧e.asid≤65535) (h:Hp) (K:Value→Hp→Prop) (hT:TlbH h c size L)
  (hk:∀ h',TlbH h' c size (addI size L e)→K (.bool true) h') :
  X Tryz.prog 73 #[.pointer (some ⟨c,0,none⟩),e.v] h K:=by
 have hfo:(fixE e).ok:=⟨pageI_u he.1,he.2⟩
 have hsz:=hg.sz
 have hlen:=hg.len
 refine fnv (args:=_) mixed rfXTbTlb50 [] [] Tryz.func73 rfl (by kernel_rfl) (cw_ ?_)
 refine bf_ ?_ (by simp;exact hv.1)
 refine bf_ ?_ (by simp;exact hv.2.1)
 refine bf_ ?_ (by simp;exact hv.2.2.1)
 refine bf_ ?_ (by simp;exact hv.2.2.2)
 refine page_x _ _ he.1 (cw_ ?_)
 refine keyOf_x (fixE e) hfo (cw_ ?_)
 refine new_intro (o:=rowO 192 [.int .i64 0,.int .u64 0,.int .i64 0]) (fun bk H0 n_bk le_bk at_bk ot_bk=>cw_ ?_)
 refine wr_intro (by exact storeA0 (z:=(keyI (fixE e)).v) tKyS at_bk rfl rfl rfl) (fun H at_H ot_H=>cw_ ?_)
 have hle:h.le H:=fun x o e=>by rw [ot_H x (fun hh=>by subst hh;rw [n_bk] at e;cases e)];exact le_bk _ _ e
 refine drop_x (wantAdd (k:=keyI (fixE e)) hg.ok) hg h H _ hT hle (Hp.one_le at_H) (Hp.one_apart n_bk) (fun h2 hT2 hw2=>?_)
 have hbk2:h2 bk=some (rowO 192 (keyI (fixE e)).cells):=hw2 _ _ (Hp.one_at _ _)
 clear hT hw2 hle at_H ot_H le_bk n_bk at_bk ot_bk
 have hL1:∀ x ∈ L.filter (fun x=>!decide (keyI x=keyI (fixE e))),keyI x≠keyI (fixE e):=fun x hx=>by simpa using (List.mem_filter.1 hx).2
 have hd1:((L.filter (fun x=>!decide (keyI x=keyI (fixE e)))).map keyI).Nodup:=hg.dist.sublist (List.filter_sublist.map keyI)
 have hl1:(L.filter (fun x=>!decide (keyI x=keyI (fixE e)))).length≤L.length:=List.length_filter_le _ _
 unfold addI at hk
 generalize L.filter (fun x=>!decide (keyI x=keyI (fixE e)))=L1 at *
 obtain ⟨m,b,om,age,ob,h0,h1,h2',h3,h4⟩:=hT2
 have hmo:∀ el l,om≠rowO el l:=fun el l e=>by subst e;obtain ⟨_,_,e,_⟩:=h3;cases e
 have hmc:c≠m:=fun e=>by subst e;rw [h1] at h2';cases h2';exact hmo _ _ rfl
 have hkm:bk≠m:=fun e=>by subst e;rw [hbk2] at h2';cases h2';exact hmo _ _ rfl
 obtain ⟨g1,⟨rfl,rfl,g2⟩ | ⟨b',cap,rest,rfl,rfl,hcap,hr,hb⟩⟩:=h4
 ·have hT3:TlbH h2 c size L1:=⟨m,b,om,_,none,h0,h1,h2',h3,g1,.inl ⟨rfl,rfl,g2⟩⟩
  rw [if_neg (fun hh=>by have:=hh.2;omega)] at hk
  refine ⟨trivial,cw_ ?_⟩
  refine br_ (fun q1=>?_) fun q1=>?_
  ·conv=>whnf
   refine ⟨_,loadC (i:=2) aggS h1 rfl,cw_ ?_⟩
   refine ⟨_,loadC (i:=0) aggI h1 rfl,cw_ ?_⟩
   refine br_ (fun q2=>?_) fun q2=>?_
   ·omega
   ·conv=>whnf
    have hT4:=hT3
    obtain ⟨m4,b4,om4,age4,ob4,k0,k1,k2,k3,k4⟩:=hT4
    have kmo:∀ el l,om4≠rowO el l:=fun el l e=>by subst e;obtain ⟨_,_,e,_⟩:=k3;cases e
    have kmc:c≠m4:=fun e=>by subst e;rw [k1] at k2;cases k2;exact kmo _ _ rfl
    have kkm:bk≠m4:=fun e=>by subst e;rw [hbk2] at k2;cases k2;exact kmo _ _ rfl
    refine ⟨_,loadC (i:=1) aggM k1 rfl,cw_ ?_⟩
    refine ⟨_,loadA0 tKyA tKyS hbk2 (kyLen _),cw_ ?_⟩
    have hob_:=MapO.upd mapU kyT k2 k3 (keyI (fixE e)) (fixE e).v
    obtain ⟨om5,hupd,k5⟩:=hob_
    refine wr_intro (by exact hupd) (fun H5 at_H5 ot_H5=>cw_ ?_)
    refine ⟨trivial,cw_ ?_⟩
    refine ⟨_,loadC (i:=2) aggS ((ot_H5 _ kmc).trans k1) rfl,cw_ ?_⟩
    refine ⟨_,loadA0 tKyA tKyS ((ot_H5 _ kkm).trans hbk2) (kyLen _),cw_ ?_⟩
    refine new_intro (o:=rowO 192 (keyI (fixE e)).cells) (fun bn H6 n_bn le_bn at_bn ot_bn=>cw_ ?_)
    have k4':=(k4.agree (h':=H5) (fun x hx=>ot_H5 x (k4.off k2 kmo x hx))).le le_bn
    have kc6:=le_bn _ _ ((ot_H5 _ kmc).trans k1)
    have km6:=le_bn _ _ at_H5
    have kmo5:∀ el l,om5≠rowO el l:=fun el l e=>by subst e;obtain ⟨_,_,e,_⟩:=k5;cases e
    have kob:∀ x,ob4=some x→x≠c∧x≠m4:=fun x hx=>⟨k4'.offR kc6 (by decide) x hx,k4'.off km6 kmo5 x hx⟩
    refine appOne (t := 177) (e := 192) (i:=Tryz.prog.types[192]) (z:=.agg #[.int .i64 0,.int .u64 0,.int .i64 0]) (size:=3) (bytes:=24) (by kernel_rfl) (by kernel_rfl) (by kernel_rfl) (by kernel_rfl) (by kernel_rfl) rfl (by decide) (h:=H6) rfl rfl rfl k4' at_bn (kyLen _) rfl (by omega) (fun s7 h7 ob7 hg7 ht7=>?_)
    have t1:=ht7.keep kc6 (fun x hx=>(kob x hx).1)
    have t2:=ht7.keep km6 (fun x hx=>(kob x hx).2)
    have hob_:=hg7.shape
    obtain ⟨a7,c7,hs7⟩:=hob_
    refine ⟨trivial,cw_ ?_⟩
    refine wr_intro (by exact storeC (i:=2) (z:=s7) sizS t1.1 (by show 2<3;decide) (by rw [hs7];rfl) (by rw [hs7];rfl)) (fun H8 at_H8 ot_H8=>cw_ ?_)
    refine ⟨trivial,cw_ ?_⟩
    refine hk _ ⟨m4,ob7.getD 0,om5,s7,ob7,fun x hx=>by rw [hx];rfl,at_H8,(ot_H8 _ (Ne.symm kmc)).trans t2.1,MapO.congr k5 fun k=>?_,?_⟩
    ·exact (lookE_snoc hL1 k).symm
    ·have:=hg7.agree (h':=H8) fun x hx=>ot_H8 x (t1.2 x hx)
     rw [List.map_append,List.flatMap_append,List.length_append]
     exact this
  ·conv=>whnf
   have hT4:=hT3
   obtain ⟨m4,b4,om4,age4,ob4,k0,k1,k2,k3,k4⟩:=hT4
   have kmo:∀ el l,om4≠rowO el l:=fun el l e=>by subst e;obtain ⟨_,_,e,_⟩:=k3;cases e
   have kmc:c≠m4:=fun e=>by subst e;rw [k1] at k2;cases k2;exact kmo _ _ rfl
   have kkm:bk≠m4:=fun e=>by subst e;rw [hbk2] at k2;cases k2;exact kmo _ _ rfl
   refine ⟨_,loadC (i:=1) aggM k1 rfl,cw_ ?_⟩
   refine ⟨_,loadA0 tKyA tKyS hbk2 (kyLen _),cw_ ?_⟩
   have hob_:=MapO.upd mapU kyT k2 k3 (keyI (fixE e)) (fixE e).v
   obtain ⟨om5,hupd,k5⟩:=hob_
   refine wr_intro (by exact hupd) (fun H5 at_H5 ot_H5=>cw_ ?_)
   refine ⟨trivial,cw_ ?_⟩
   refine ⟨_,loadC (i:=2) aggS ((ot_H5 _ kmc).trans k1) rfl,cw_ ?_⟩
   refine ⟨_,loadA0 tKyA tKyS ((ot_H5 _ kkm).trans hbk2) (kyLen _),cw_ ?_⟩
   refine new_intro (o:=rowO 192 (keyI (fixE e)).cells) (fun bn H6 n_bn le_bn at_bn ot_bn=>cw_ ?_)
   have k4':=(k4.agree (h':=H5) (fun x hx=>ot_H5 x (k4.off k2 kmo x hx))).le le_bn
   have kc6:=le_bn _ _ ((ot_H5 _ kmc).trans k1)
   have km6:=le_bn _ _ at_H5
   have kmo5:∀ el l,om5≠rowO el l:=fun el l e=>by subst e;obtain ⟨_,_,e,_⟩:=k5;cases e
   have kob:∀ x,ob4=some x→x≠c∧x≠m4:=fun x hx=>⟨k4'.offR kc6 (by decide) x hx,k4'.off km6 kmo5 x hx⟩
   refine appOne (t := 177) (e := 192) (i:=Tryz.prog.types[192]) (z:=.agg #[.int .i64 0,.int .u64 0,.int .i64 0]) (size:=3) (bytes:=24) (by kernel_rfl) (by kernel_rfl) (by kernel_rfl) (by kernel_rfl) (by kernel_rfl) rfl (by decide) (h:=H6) rfl rfl rfl k4' at_bn (kyLen _) rfl (by omega) (fun s7 h7 ob7 hg7 ht7=>?_)
   have t1:=ht7.keep kc6 (fun x hx=>(kob x hx).1)
   have t2:=ht7.keep km6 (fun x hx=>(kob x hx).2)
   have hob_:=hg7.shape
   obtain ⟨a7,c7,hs7⟩:=hob_
   refine ⟨trivial,cw_ ?_⟩
   refine wr_intro (by exact storeC (i:=2) (z:=s7) sizS t1.1 (by show 2<3;decide) (by rw [hs7];rfl) (by rw [hs7];rfl)) (fun H8 at_H8 ot_H8=>cw_ ?_)
   refine ⟨trivial,cw_ ?_⟩
   refine hk _ ⟨m4,ob7.getD 0,om5,s7,ob7,fun x hx=>by rw [hx];rfl,at_H8,(ot_H8 _ (Ne.symm kmc)).trans t2.1,MapO.congr k5 fun k=>?_,?_⟩
   ·exact (lookE_snoc hL1 k).symm
   ·have:=hg7.agree (h':=H8) fun x hx=>ot_H8 x (t1.2 x hx)
    rw [List.map_append,List.flatMap_append,List.length_append]
    exact this
 ·obtain rfl:=h0 _ rfl
  have hmb:b'≠m:=fun e=>by subst e;rw [hb] at h2';cases h2';exact hmo _ _ rfl
  have hT3:TlbH h2 c size L1:=⟨m,b',om,_,some b',h0,h1,h2',h3,g1,.inr ⟨b',cap,rest,rfl,rfl,hcap,hr,hb⟩⟩
  refine ⟨trivial,cw_ ?_⟩
  refine br_ (fun q1=>?_) fun q1=>?_
  ·conv=>whnf
   refine ⟨_,loadC (i:=2) aggS h1 rfl,cw_ ?_⟩
   refine ⟨_,loadC (i:=0) aggI h1 rfl,cw_ ?_⟩
   refine br_ (fun q2=>?_) fun q2=>?_
   ·rw [if_pos ⟨by omega,q2⟩] at hk
    have hpos:0<L1.length:=by omega
    have hex:∃ x L2,L1=x :: L2:=List.exists_cons_of_length_pos hpos
    obtain ⟨x,L2,hLx⟩:=hex
    rw [hLx,List.tail_cons] at hk
    have hb2:=hb
    rw [hLx] at hb2
    have hlx:L2.length=L1.length - 1:=by rw [hLx];simp
    conv=>whnf
    refine ⟨_,loadC (i:=1) aggM h1 rfl,cw_ ?_⟩
    refine ⟨_,loadC (i:=2) aggS h1 rfl,cw_ ?_⟩
    refine n_ ?_
    refine ⟨_,loadH_agg (i:=0) tKyA tKyS kyLen hb2 (x:=keyI x) rfl,cw_ ?_⟩
    have hob_:=MapO.del mapU kyT h2' h3 (keyI x)
    obtain ⟨om',hdel,hm'⟩:=hob_
    refine io_intro (by exact hdel) (fun H3 at_H3 ot_H3=>cw_ ?_)
    refine ⟨trivial,cw_ ?_⟩
    have h1c:=(ot_H3 _ hmc).trans h1
    have h1b:=(ot_H3 _ hmb).trans hb2
    have h1k:=(ot_H3 _ hkm).trans hbk2
    refine ⟨_,loadC (i:=2) aggS h1c rfl,cw_ ?_⟩
    refine n_ ?_
    have hpm:∀ k,putF (lookE L1) (keyI x) none k=lookE L2 k:=fun k=>by
     rw [hLx] at hd1 ⊢
     rw [List.map_cons,List.nodup_cons] at hd1
     unfold putF
     by_cases hkx:k=keyI x
     ·rw [if_pos hkx,hkx]
      exact (lookE_none fun y hy hh=>hd1.1 (by rw [← hh];exact List.mem_map.2 ⟨y,hy,rfl⟩)).symm
     ·rw [if_neg hkx]
      unfold lookE
      rw [List.find?_cons]
      simp only [show ¬ keyI x=k from fun hh=>hkx hh.symm,decide_false]
    have hL2:∀ y ∈ L2,keyI y≠keyI (fixE e):=fun y hy=>hL1 y (by rw [hLx];simp [hy])
    have hbn:∀ b5,H3 b5=none→b5≠c∧b5≠bk:=fun b5 hn=>⟨fun hh=>(by subst hh;rw [h1c] at hn;cases hn),fun hh=>(by subst hh;rw [h1k] at hn;cases hn)⟩
    refine br_ (fun q3=>?_) fun q3=>?_
    ·conv=>whnf
     refine cloneK_x ⟨b',0,none⟩ (L2.map keyI) _ _ (by rw [List.length_map,hlx];rfl) H3 _ (by show L1.length - 1≤_;omega) (fun j v hj=>?_) (fun s h5 b5 hle5 hn5 hg5=>?_)
     ·have:L2=[]:=List.eq_nil_of_length_eq_zero (by omega)
      rw [this] at hj;simp at hj
     conv=>whnf
     have hob_:=hg5.shape
     obtain ⟨a5,c5,hs5⟩:=hob_
     refine wr_intro (by exact storeC (i:=2) (z:=s) sizS (hle5 _ _ h1c) (by show 2<3;decide) (by rw [hs5];rfl) (by rw [hs5];rfl)) (fun H6 at_H6 ot_H6=>cw_ ?_)
     have hT3:TlbH H6 c size L2:=⟨m,b5,om',s,some b5,fun y hy=>(by cases hy;rfl),at_H6,(ot_H6 _ (Ne.symm hmc)).trans (hle5 _ _ at_H3),MapO.congr hm' hpm,by
      rw [List.length_map] at hg5
      exact hg5.agree fun y hy=>ot_H6 y (by cases hy;exact (hbn _ hn5).1)⟩
     have hbk2:H6 bk=_:=(ot_H6 _ (fun hh=>by subst hh;rw [h1c] at h1k;exact rowO_ne (by decide) (Option.some.inj h1k))).trans (hle5 _ _ h1k)
     have hL1:=hL2
     have hl1:L2.length≤L.length:=by omega
     have hT4:=hT3
     obtain ⟨m4,b4,om4,age4,ob4,k0,k1,k2,k3,k4⟩:=hT4
     have kmo:∀ el l,om4≠rowO el l:=fun el l e=>by subst e;obtain ⟨_,_,e,_⟩:=k3;cases e
     have kmc:c≠m4:=fun e=>by subst e;rw [k1] at k2;cases k2;exact kmo _ _ rfl
     have kkm:bk≠m4:=fun e=>by subst e;rw [hbk2] at k2;cases k2;exact kmo _ _ rfl
     refine ⟨_,loadC (i:=1) aggM k1 rfl,cw_ ?_⟩
     refine ⟨_,loadA0 tKyA tKyS hbk2 (kyLen _),cw_ ?_⟩
     have hob_:=MapO.upd mapU kyT k2 k3 (keyI (fixE e)) (fixE e).v
     obtain ⟨om5,hupd,k5⟩:=hob_
     refine wr_intro (by exact hupd) (fun H5 at_H5 ot_H5=>cw_ ?_)
     refine ⟨trivial,cw_ ?_⟩
     refine ⟨_,loadC (i:=2) aggS ((ot_H5 _ kmc).trans k1) rfl,cw_ ?_⟩
     refine ⟨_,loadA0 tKyA tKyS ((ot_H5 _ kkm).trans hbk2) (kyLen _),cw_ ?_⟩
     refine new_intro (o:=rowO 192 (keyI (fixE e)).cells) (fun bn H6 n_bn le_bn at_bn ot_bn=>cw_ ?_)
     have k4':=(k4.agree (h':=H5) (fun x hx=>ot_H5 x (k4.off k2 kmo x hx))).le le_bn
     have kc6:=le_bn _ _ ((ot_H5 _ kmc).trans k1)
     have km6:=le_bn _ _ at_H5
     have kmo5:∀ el l,om5≠rowO el l:=fun el l e=>by subst e;obtain ⟨_,_,e,_⟩:=k5;cases e
     have kob:∀ x,ob4=some x→x≠c∧x≠m4:=fun x hx=>⟨k4'.offR kc6 (by decide) x hx,k4'.off km6 kmo5 x hx⟩
     refine appOne (t := 177) (e := 192) (i:=Tryz.prog.types[192]) (z:=.agg #[.int .i64 0,.int .u64 0,.int .i64 0]) (size:=3) (bytes:=24) (by kernel_rfl) (by kernel_rfl) (by kernel_rfl) (by kernel_rfl) (by kernel_rfl) rfl (by decide) (h:=H6) rfl rfl rfl k4' at_bn (kyLen _) rfl (by omega) (fun s7 h7 ob7 hg7 ht7=>?_)
     have t1:=ht7.keep kc6 (fun x hx=>(kob x hx).1)
     have t2:=ht7.keep km6 (fun x hx=>(kob x hx).2)
     have hob_:=hg7.shape
     obtain ⟨a7,c7,hs7⟩:=hob_
     refine ⟨trivial,cw_ ?_⟩
     refine wr_intro (by exact storeC (i:=2) (z:=s7) sizS t1.1 (by show 2<3;decide) (by rw [hs7];rfl) (by rw [hs7];rfl)) (fun H8 at_H8 ot_H8=>cw_ ?_)
     refine ⟨trivial,cw_ ?_⟩
     refine hk _ ⟨m4,ob7.getD 0,om5,s7,ob7,fun x hx=>by rw [hx];rfl,at_H8,(ot_H8 _ (Ne.symm kmc)).trans t2.1,MapO.congr k5 fun k=>?_,?_⟩
     ·exact (lookE_snoc hL1 k).symm
     ·have:=hg7.agree (h':=H8) fun x hx=>ot_H8 x (t1.2 x hx)
      rw [List.map_append,List.flatMap_append,List.length_append]
      exact this
    ·conv=>whnf
     refine cloneK_x _ (L2.map keyI) _ _ (by rw [List.length_map,hlx];rfl) H3 _ (by show L1.length - 1≤_;omega) (fun j v hj=>?_) (fun s h5 b5 hle5 hn5 hg5=>?_)
     ·show H3.cell? (((⟨b',0,none⟩:Addr).add (1*3)).add j)=some v
      rw [addr_add,addr_add]
      refine cell_row h1b ?_
      rw [List.map_cons,List.flatMap_cons,List.append_assoc,List.getElem?_append_right (by rw [kyLen];omega),kyLen,show 0+1*3+j - 3=j by omega]
      rw [List.getElem?_append_left (List.getElem?_eq_some_iff.1 hj).1]
      exact hj
     conv=>whnf
     have hob_:=hg5.shape
     obtain ⟨a5,c5,hs5⟩:=hob_
     refine wr_intro (by exact storeC (i:=2) (z:=s) sizS (hle5 _ _ h1c) (by show 2<3;decide) (by rw [hs5];rfl) (by rw [hs5];rfl)) (fun H6 at_H6 ot_H6=>cw_ ?_)
     have hT3:TlbH H6 c size L2:=⟨m,b5,om',s,some b5,fun y hy=>(by cases hy;rfl),at_H6,(ot_H6 _ (Ne.symm hmc)).trans (hle5 _ _ at_H3),MapO.congr hm' hpm,by
      rw [List.length_map] at hg5
      exact hg5.agree fun y hy=>ot_H6 y (by cases hy;exact (hbn _ hn5).1)⟩
     have hbk2:H6 bk=_:=(ot_H6 _ (fun hh=>by subst hh;rw [h1c] at h1k;exact rowO_ne (by decide) (Option.some.inj h1k))).trans (hle5 _ _ h1k)
     have hL1:=hL2
     have hl1:L2.length≤L.length:=by omega
     have hT4:=hT3
     obtain ⟨m4,b4,om4,age4,ob4,k0,k1,k2,k3,k4⟩:=hT4
     have kmo:∀ el l,om4≠rowO el l:=fun el l e=>by subst e;obtain ⟨_,_,e,_⟩:=k3;cases e
     have kmc:c≠m4:=fun e=>by subst e;rw [k1] at k2;cases k2;exact kmo _ _ rfl
     have kkm:bk≠m4:=fun e=>by subst e;rw [hbk2] at k2;cases k2;exact kmo _ _ rfl
     refine ⟨_,loadC (i:=1) aggM k1 rfl,cw_ ?_⟩
     refine ⟨_,loadA0 tKyA tKyS hbk2 (kyLen _),cw_ ?_⟩
     have hob_:=MapO.upd mapU kyT k2 k3 (keyI (fixE e)) (fixE e).v
     obtain ⟨om5,hupd,k5⟩:=hob_
     refine wr_intro (by exact hupd) (fun H5 at_H5 ot_H5=>cw_ ?_)
     refine ⟨trivial,cw_ ?_⟩
     refine ⟨_,loadC (i:=2) aggS ((ot_H5 _ kmc).trans k1) rfl,cw_ ?_⟩
     refine ⟨_,loadA0 tKyA tKyS ((ot_H5 _ kkm).trans hbk2) (kyLen _),cw_ ?_⟩
     refine new_intro (o:=rowO 192 (keyI (fixE e)).cells) (fun bn H6 n_bn le_bn at_bn ot_bn=>cw_ ?_)
     have k4':=(k4.agree (h':=H5) (fun x hx=>ot_H5 x (k4.off k2 kmo x hx))).le le_bn
     have kc6:=le_bn _ _ ((ot_H5 _ kmc).trans k1)
     have km6:=le_bn _ _ at_H5
     have kmo5:∀ el l,om5≠rowO el l:=fun el l e=>by subst e;obtain ⟨_,_,e,_⟩:=k5;cases e
     have kob:∀ x,ob4=some x→x≠c∧x≠m4:=fun x hx=>⟨k4'.offR kc6 (by decide) x hx,k4'.off km6 kmo5 x hx⟩
     refine appOne (t := 177) (e := 192) (i:=Tryz.prog.types[192]) (z:=.agg #[.int .i64 0,.int .u64 0,.int .i64 0]) (size:=3) (bytes:=24) (by kernel_rfl) (by kernel_rfl) (by kernel_rfl) (by kernel_rfl) (by kernel_rfl) rfl (by decide) (h:=H6) rfl rfl rfl k4' at_bn (kyLen _) rfl (by omega) (fun s7 h7 ob7 hg7 ht7=>?_)
     have t1:=ht7.keep kc6 (fun x hx=>(kob x hx).1)
     have t2:=ht7.keep km6 (fun x hx=>(kob x hx).2)
     have hob_:=hg7.shape
     obtain ⟨a7,c7,hs7⟩:=hob_
     refine ⟨trivial,cw_ ?_⟩
     refine wr_intro (by exact storeC (i:=2) (z:=s7) sizS t1.1 (by show 2<3;decide) (by rw [hs7];rfl) (by rw [hs7];rfl)) (fun H8 at_H8 ot_H8=>cw_ ?_)
     refine ⟨trivial,cw_ ?_⟩
     refine hk _ ⟨m4,ob7.getD 0,om5,s7,ob7,fun x hx=>by rw [hx];rfl,at_H8,(ot_H8 _ (Ne.symm kmc)).trans t2.1,MapO.congr k5 fun k=>?_,?_⟩
     ·exact (lookE_snoc hL1 k).symm
     ·have:=hg7.agree (h':=H8) fun x hx=>ot_H8 x (t1.2 x hx)
      rw [List.map_append,List.flatMap_append,List.length_append]
      exact this
   ·rw [if_neg (fun hh=>q2 hh.2)] at hk
    conv=>whnf
    have hT4:=hT3
    obtain ⟨m4,b4,om4,age4,ob4,k0,k1,k2,k3,k4⟩:=hT4
    have kmo:∀ el l,om4≠rowO el l:=fun el l e=>by subst e;obtain ⟨_,_,e,_⟩:=k3;cases e
    have kmc:c≠m4:=fun e=>by subst e;rw [k1] at k2;cases k2;exact kmo _ _ rfl
    have kkm:bk≠m4:=fun e=>by subst e;rw [hbk2] at k2;cases k2;exact kmo _ _ rfl
    refine ⟨_,loadC (i:=1) aggM k1 rfl,cw_ ?_⟩
    refine ⟨_,loadA0 tKyA tKyS hbk2 (kyLen _),cw_ ?_⟩
    have hob_:=MapO.upd mapU kyT k2 k3 (keyI (fixE e)) (fixE e).v
    obtain ⟨om5,hupd,k5⟩:=hob_
    refine wr_intro (by exact hupd) (fun H5 at_H5 ot_H5=>cw_ ?_)
    refine ⟨trivial,cw_ ?_⟩
    refine ⟨_,loadC (i:=2) aggS ((ot_H5 _ kmc).trans k1) rfl,cw_ ?_⟩
    refine ⟨_,loadA0 tKyA tKyS ((ot_H5 _ kkm).trans hbk2) (kyLen _),cw_ ?_⟩
    refine new_intro (o:=rowO 192 (keyI (fixE e)).cells) (fun bn H6 n_bn le_bn at_bn ot_bn=>cw_ ?_)
    have k4':=(k4.agree (h':=H5) (fun x hx=>ot_H5 x (k4.off k2 kmo x hx))).le le_bn
    have kc6:=le_bn _ _ ((ot_H5 _ kmc).trans k1)
    have km6:=le_bn _ _ at_H5
    have kmo5:∀ el l,om5≠rowO el l:=fun el l e=>by subst e;obtain ⟨_,_,e,_⟩:=k5;cases e
    have kob:∀ x,ob4=some x→x≠c∧x≠m4:=fun x hx=>⟨k4'.offR kc6 (by decide) x hx,k4'.off km6 kmo5 x hx⟩
    refine appOne (t := 177) (e := 192) (i:=Tryz.prog.types[192]) (z:=.agg #[.int .i64 0,.int .u64 0,.int .i64 0]) (size:=3) (bytes:=24) (by kernel_rfl) (by kernel_rfl) (by kernel_rfl) (by kernel_rfl) (by kernel_rfl) rfl (by decide) (h:=H6) rfl rfl rfl k4' at_bn (kyLen _) rfl (by omega) (fun s7 h7 ob7 hg7 ht7=>?_)
    have t1:=ht7.keep kc6 (fun x hx=>(kob x hx).1)
    have t2:=ht7.keep km6 (fun x hx=>(kob x hx).2)
    have hob_:=hg7.shape
    obtain ⟨a7,c7,hs7⟩:=hob_
    refine ⟨trivial,cw_ ?_⟩
    refine wr_intro (by exact storeC (i:=2) (z:=s7) sizS t1.1 (by show 2<3;decide) (by rw [hs7];rfl) (by rw [hs7];rfl)) (fun H8 at_H8 ot_H8=>cw_ ?_)
    refine ⟨trivial,cw_ ?_⟩
    refine hk _ ⟨m4,ob7.getD 0,om5,s7,ob7,fun x hx=>by rw [hx];rfl,at_H8,(ot_H8 _ (Ne.symm kmc)).trans t2.1,MapO.congr k5 fun k=>?_,?_⟩
    ·exact (lookE_snoc hL1 k).symm
    ·have:=hg7.agree (h':=H8) fun x hx=>ot_H8 x (t1.2 x hx)
     rw [List.map_append,List.flatMap_append,List.length_append]
     exact this
  ·rw [if_neg (fun hh=>q1 (by omega))] at hk
   conv=>whnf
   have hT4:=hT3
   obtain ⟨m4,b4,om4,age4,ob4,k0,k1,k2,k3,k4⟩:=hT4
   have kmo:∀ el l,om4≠rowO el l:=fun el l e=>by subst e;obtain ⟨_,_,e,_⟩:=k3;cases e
   have kmc:c≠m4:=fun e=>by subst e;rw [k1] at k2;cases k2;exact kmo _ _ rfl
   have kkm:bk≠m4:=fun e=>by subst e;rw [hbk2] at k2;cases k2;exact kmo _ _ rfl
   refine ⟨_,loadC (i:=1) aggM k1 rfl,cw_ ?_⟩
   refine ⟨_,loadA0 tKyA tKyS hbk2 (kyLen _),cw_ ?_⟩
   have hob_:=MapO.upd mapU kyT k2 k3 (keyI (fixE e)) (fixE e).v
   obtain ⟨om5,hupd,k5⟩:=hob_
   refine wr_intro (by exact hupd) (fun H5 at_H5 ot_H5=>cw_ ?_)
   refine ⟨trivial,cw_ ?_⟩
   refine ⟨_,loadC (i:=2) aggS ((ot_H5 _ kmc).trans k1) rfl,cw_ ?_⟩
   refine ⟨_,loadA0 tKyA tKyS ((ot_H5 _ kkm).trans hbk2) (kyLen _),cw_ ?_⟩
   refine new_intro (o:=rowO 192 (keyI (fixE e)).cells) (fun bn H6 n_bn le_bn at_bn ot_bn=>cw_ ?_)
   have k4':=(k4.agree (h':=H5) (fun x hx=>ot_H5 x (k4.off k2 kmo x hx))).le le_bn
   have kc6:=le_bn _ _ ((ot_H5 _ kmc).trans k1)
   have km6:=le_bn _ _ at_H5
   have kmo5:∀ el l,om5≠rowO el l:=fun el l e=>by subst e;obtain ⟨_,_,e,_⟩:=k5;cases e
   have kob:∀ x,ob4=some x→x≠c∧x≠m4:=fun x hx=>⟨k4'.offR kc6 (by decide) x hx,k4'.off km6 kmo5 x hx⟩
   refine appOne (t := 177) (e := 192) (i:=Tryz.prog.types[192]) (z:=.agg #[.int .i64 0,.int .u64 0,.int .i64 0]) (size:=3) (bytes:=24) (by kernel_rfl) (by kernel_rfl) (by kernel_rfl) (by kernel_rfl) (by kernel_rfl) rfl (by decide) (h:=H6) rfl rfl rfl k4' at_bn (kyLen _) rfl (by omega) (fun s7 h7 ob7 hg7 ht7=>?_)
   have t1:=ht7.keep kc6 (fun x hx=>(kob x hx).1)
   have t2:=ht7.keep km6 (fun x hx=>(kob x hx).2)
   have hob_:=hg7.shape
   obtain ⟨a7,c7,hs7⟩:=hob_
   refine ⟨trivial,cw_ ?_⟩
   refine wr_intro (by exact storeC (i:=2) (z:=s7) sizS t1.1 (by show 2<3;decide) (by rw [hs7];rfl) (by rw [hs7];rfl)) (fun H8 at_H8 ot_H8=>cw_ ?_)
   refine ⟨trivial,cw_ ?_⟩
   refine hk _ ⟨m4,ob7.getD 0,om5,s7,ob7,fun x hx=>by rw [hx];rfl,at_H8,(ot_H8 _ (Ne.symm kmc)).trans t2.1,MapO.congr k5 fun k=>?_,?_⟩
   ·exact (lookE_snoc hL1 k).symm
   ·have:=hg7.agree (h':=H8) fun x hx=>ot_H8 x (t1.2 x hx)
    rw [List.map_append,List.flatMap_append,List.length_append]
    exact this
end Go.Proofs.YtdhlpighdlnohaaGreat.Tb
