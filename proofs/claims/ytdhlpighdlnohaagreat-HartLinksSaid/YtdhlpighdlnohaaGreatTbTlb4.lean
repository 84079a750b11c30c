/-
  A cache: what it is in memory; translations are taken away.
-/
import Derived.Test.YtdhlpighdlnohaaGreatTbTlb3
set_option linter.unusedSimpArgs false
set_option linter.unusedVariables false
set_option maxHeartbeats 8000000
set_option maxRecDepth 10000
set_option linter.unusedSimpArgs false
set_option linter.unusedVariables false
namespace Go.Proofs.YtdhlpighdlnohaaGreat.Tb
open Go Go.Mid Go.RowKit
attribute [local irreducible] mid structOk
theorem kyT:KeyT Tryz.prog 192 Ky.v where
 under:=Option.isSome_iff_exists.1 (by kernel_rfl)
 key:=fun a=>by kernel_rfl
 equal:=fun a b=>by
  have e:eqV Tryz.prog 10000 192 a.v b.v=some ((a.asid==b.asid) && ((a.page==b.page) && ((a.level==b.level) && true))):=by kernel_rfl
  rw [e]
  refine congrArg some ?_
  rw [Bool.eq_iff_iff]
  obtain ⟨a1,a2,a3⟩:=a
  obtain ⟨b1,b2,b3⟩:=b
  simp
 same:=fun a=>by
  simp [Ky.v,Ky.cells,Instr.sameBits]
theorem mapU:Tryz.prog.underlying 176 = some (.map 192 78):=by kernel_rfl
theorem enZ:zeroT Tryz.prog 78 = some (En.v ⟨0,0,0,0⟩):=by kernel_rfl
def lookE (L:List En) (k:Ky):Option Value:=(L.find? (fun e=>decide (keyI e=k))).map En.v
structure Good (size:Int) (L:List En):Prop where
 sz:1≤size∧size≤32
 len:(L.length:Int)≤size
 ok:∀ e ∈ L,e.ok
 lv:∀ e ∈ L,0≤e.level∧e.level≤2∧0≤e.asid∧e.asid≤65535∧pageI e.page e.level=e.page
 dist:(L.map keyI).Nodup
def TlbAt (h:Hp) (c m b:Nat) (size:Int) (L:List En):Prop:=∃ om age ob,(∀ x,ob=some x→x=b)∧h c=some (rowO 179 [.int .i64 size,.map (some m),age])∧h m=some om∧MapO Ky.v (lookE L) om∧Gr h 192 3 age L.length ((L.map keyI).flatMap Ky.cells) ob
def TlbH (h:Hp) (c:Nat) (size:Int) (L:List En):Prop:=∃ m b,TlbAt h c m b size L
theorem TlbAt.le {h h':Hp} {c m b:Nat} {size:Int} {L:List En} (t:TlbAt h c m b size L) (hle:h.le h'):TlbAt h' c m b size L:=by
 obtain ⟨om,age,ob,h0,h1,h2,h3,h4⟩:=t
 exact ⟨om,age,ob,h0,hle _ _ h1,hle _ _ h2,h3,h4.le hle⟩
theorem TlbH.le {h h':Hp} {c:Nat} {size:Int} {L:List En} (t:TlbH h c size L) (hle:h.le h'):TlbH h' c size L:=by
 obtain ⟨m,b,t⟩:=t
 exact ⟨m,b,t.le hle⟩
theorem lookE_mem {L:List En} (hd:(L.map keyI).Nodup) {e:En} (he:e ∈ L):lookE L (keyI e)=some e.v:=by
 unfold lookE
 induction L with
 | nil=>cases he
 | cons x L ih =>
  rw [List.find?_cons]
  rw [List.map_cons,List.nodup_cons] at hd
  rcases List.mem_cons.1 he with rfl | he
  ·simp
  ·have:¬ keyI x=keyI e:=fun hh=>hd.1 (by rw [hh];exact List.mem_map.2 ⟨e,he,rfl⟩)
   simp only [this,decide_false]
   exact ih hd.2 he
theorem lookE_none {L:List En} {k:Ky} (h:∀ e ∈ L,keyI e≠k):lookE L k=none:=by
 unfold lookE
 rw [List.find?_eq_none.2 (fun e he=>by simpa using h e he)];rfl
theorem MapO.congr {α:Type} [DecidableEq α] {enc:α→Value} {f g:α→Option Value} {o:Obj} (m:MapO enc f o) (h:∀ a,f a=g a):MapO enc g o:=by
 obtain ⟨l,c,e1,e2,e3⟩:=m
 exact ⟨l,c,e1,e2,fun a=>(e3 a).trans (h a)⟩
structure Want (g:FuncId) (first captured:Array Value) (w:En→Bool) (wk:Hp) (L:List En):Prop where
 call:callable Tryz.prog g=true
 run:∀ e ∈ L,∀ (h:Hp) (K:Value→Hp→Prop),wk.le h→K (.bool (w e)) h→X Tryz.prog g (first.toList++([e.v]++captured.toList)).toArray h K
theorem loadC {P:Program} {t el:TypeId} (ht:isAggT P t=some false) {h:Hp} {b i:Nat} {l:List Value} {v:Value} (hb:h b=some (rowO el l)) (hi:l[i]? = some v):loadH P t h ((⟨b,0,none⟩:Addr).add i)=some v:=by
 rw [addr_add,Nat.zero_add,loadH_cell ht]
 exact cell_row hb hi
theorem loadC0 {P:Program} {t el:TypeId} (ht:isAggT P t=some false) {h:Hp} {b:Nat} {l:List Value} {v:Value} (hb:h b=some (rowO el l)) (hi:l[0]? = some v):loadH P t h ⟨b,0,none⟩=some v:=by
 rw [loadH_cell ht]
 exact cell_row hb hi
theorem storeC {P:Program} {t el:TypeId} (ht:sizeT P t=some 1) {h:Hp} {b i:Nat} {l:List Value} {z:Value} (hb:h b=some (rowO el l)) (hi:i<l.length) (hz:z.cells.toList=[z]) (h1:z.oneCell'=true):storeH P t h ((⟨b,0,none⟩:Addr).add i) z=some (b,rowO el (l.set i z)):=by
 rw [addr_add,Nat.zero_add]
 exact storeH_row ht hb hi hz h1
theorem sizS:sizeT Tryz.prog 177 = some 1:=by kernel_rfl
theorem aggF:isAggT Tryz.prog 172 = some false:=by kernel_rfl
theorem aggP:isAggT Tryz.prog 115 = some false:=by kernel_rfl
theorem aggM:isAggT Tryz.prog 176 = some false:=by kernel_rfl
theorem aggS:isAggT Tryz.prog 177 = some false:=by kernel_rfl
theorem aggI:isAggT Tryz.prog 3 = some false:=by kernel_rfl
set_option maxHeartbeats 4000000 in
set_option maxRecDepth 10000 in
theorem drop1_x {gw:FuncId} {fi ca:Array Value} {w:En→Bool} {wk:Hp} {L:List En} (hw:Want gw fi ca w wk L) {bw bt c m:Nat} {size:Int} {age:Value} {f:Ky→Option Value} {om:Obj} {e:En} (he:e ∈ L) (h:Hp) (K:Value→Hp→Prop)
  (hbw:h bw=some (rowO 172 [.func (.func gw) fi ca])) (hbt:h bt=some (rowO 115 [.pointer (some ⟨c,0,none⟩)])) (hc:h c=some (rowO 179 [.int .i64 size,.map (some m),age])) (hm:h m=some om) (hf:MapO Ky.v f om) (hfe:f (keyI e)=some e.v) (hwk:wk.le h)
  (hno:w e=false→K (.bool false) h) (hyes:w e=true→∀ om',MapO Ky.v (putF f (keyI e) none) om'→K (.bool true) (h.set m om')) :
  X Tryz.prog 250 #[(keyI e).v,.pointer (some ⟨bw,0,none⟩),.pointer (some ⟨bt,0,none⟩)] h K:=by
 refine fnv (args:=_) mixed [(3,3)] [] [] Tryz.func250 rfl (by kernel_rfl) (cw_ ?_)
 refine ⟨_,loadC0 aggF hbw rfl,cw_ ?_⟩
 refine ⟨_,loadC0 aggP hbt rfl,cw_ ?_⟩
 refine ⟨_,loadC (i:=1) aggM hc rfl,cw_ ?_⟩
 refine ⟨_,MapO.look mapU enZ kyT hm hf (keyI e) false,cw_ ?_⟩
 rw [hfe]
 refine aRunK_call (args:=fi.toList++([e.v]++ca.toList)) rfl hw.call ?_
 refine hw.run e he h _ hwk ?_
 refine ⟨trivial,cw_ ?_⟩
 cases hwe:w e with
 | true =>
  conv=>whnf
  refine ⟨_,loadC0 aggP hbt rfl,cw_ ?_⟩
  refine ⟨_,loadC (i:=1) aggM hc rfl,cw_ ?_⟩
  obtain ⟨om',hd,hm'⟩:=MapO.del mapU kyT hm hf (keyI e)
  refine io_intro (by exact hd) (fun h6 at_h6 ot_h6=>cw_ ?_)
  have e6:h6=h.set m om':=by
   funext x
   by_cases hx:x=m
   ·subst hx;rw [at_h6,Hp.set_same]
   ·rw [ot_h6 x hx,Hp.set_other _ _ hx]
  refine ⟨trivial,cw_ ?_⟩
  rw [e6]
  exact hyes hwe om' hm'
 | false =>
  conv=>whnf
  exact hno hwe
def wantK (L:List En) (w:En→Bool) (k:Ky):Bool:=match L.find? (fun e=>decide (keyI e=k)) with
 | some e=>w e
 | none=>false
theorem find_mem {L:List En} (hd:(L.map keyI).Nodup) {e:En} (he:e ∈ L):L.find? (fun x=>decide (keyI x=keyI e))=some e:=by
 induction L with
 | nil=>cases he
 | cons x L ih =>
  rw [List.find?_cons]
  rw [List.map_cons,List.nodup_cons] at hd
  rcases List.mem_cons.1 he with rfl | he
  ·simp
  ·have:¬ keyI x=keyI e:=fun hh=>hd.1 (by rw [hh];exact List.mem_map.2 ⟨e,he,rfl⟩)
   simp only [this,decide_false]
   exact ih hd.2 he
theorem wantK_mem {L:List En} {w:En→Bool} (hd:(L.map keyI).Nodup) {e:En} (he:e ∈ L):wantK L w (keyI e)=w e:=by
 unfold wantK;rw [find_mem hd he]
theorem filter_map {L L':List En} {w:En→Bool} (hd:(L.map keyI).Nodup) (hs:∀ e ∈ L',e ∈ L):(L'.map keyI).filter (fun k=>!wantK L w k)=(L'.filter (fun e=>!w e)).map keyI:=by
 rw [List.filter_map]
 congr 1
 exact List.filter_congr fun e he=>by simp only [Function.comp];rw [wantK_mem hd (hs e he)]
theorem lookE_filter {L:List En} {q:En→Bool} (hd:(L.map keyI).Nodup) (k:Ky):lookE (L.filter q) k=if ∃ e ∈ L,keyI e=k∧q e=false then none else lookE L k:=by
 split
 ·rename_i h
  obtain ⟨e,he,rfl,hq⟩:=h
  refine lookE_none fun x hx hk=>?_
  rw [List.mem_filter] at hx
  have h1:=find_mem hd he
  have h2:=find_mem hd hx.1
  rw [hk,h1] at h2
  cases h2
  rw [hq] at hx;cases hx.2
 ·rename_i h
  by_cases hk:∃ e ∈ L,keyI e=k
  ·obtain ⟨e,he,rfl⟩:=hk
   have hq:q e=true:=by
    cases hh:q e with
    | true=>rfl
    | false=>exact absurd ⟨e,he,rfl,hh⟩ h
   rw [lookE_mem hd he]
   refine lookE_mem ?_ (List.mem_filter.2 ⟨he,hq⟩)
   exact hd.sublist (List.filter_sublist.map keyI)
  ·rw [lookE_none (fun e he hh=>hk ⟨e,(List.mem_filter.1 he).1,hh⟩),lookE_none (fun e he hh=>hk ⟨e,he,hh⟩)]
theorem rowO_ne {el el':TypeId} {l l':List Value} (hn:el≠el'):rowO el l≠rowO el' l':=fun e=>by cases e;exact hn rfl
set_option maxHeartbeats 4000000 in
set_option maxRecDepth 10000 in
theorem deleteNil_x (f:Value) (h:Hp) (K:Value→Hp→Prop) (hk:K (.slice none 0 0) h):X Tryz.prog 249 #[.slice none 0 0,f] h K:=by
 refine fnv (args:=_) mixed [(7,7)] [] [] Tryz.func249 rfl (by kernel_rfl) (cw_ ?_)
 refine fnv (args:=_) mixed [] [] [] Tryz.func332 rfl (by kernel_rfl) (cw_ ?_)
 refine loop_step (cw_ ?_)
 exact hk
set_option maxHeartbeats 4000000 in
set_option maxRecDepth 10000 in
theorem drop_x {gw:FuncId} {fi ca:Array Value} {w:En→Bool} {wk:Hp} {L:List En} (hw:Want gw fi ca w wk L) {c:Nat} {size:Int} (hg:Good size L) (g h:Hp) (K:Value→Hp→Prop)
  (hT:TlbH g c size L) (hgh:g.le h) (hwk:wk.le h) (ha:Apart wk g)
  (hk:∀ h',TlbH h' c size (L.filter (fun e=>!w e))→wk.le h'→K (.int .i64 ((L.length:Int) - (L.filter (fun e=>!w e)).length)) h') :
  X Tryz.prog 137 #[.pointer (some ⟨c,0,none⟩),.func (.func gw) fi ca] h K:=by
 obtain ⟨m,b,om,age,ob,h0,h1,h2,h3,h4⟩:=hT
 have hlen:=hg.len
 have hsz:=hg.sz
 have hfl:=List.length_filter_le (fun e=>!w e) L
 have hmap:((L.map keyI).filter (fun k=>!wantK L w k))=(L.filter (fun e=>!w e)).map keyI:=filter_map hg.dist (fun e he=>he)
 refine fnv (args:=_) mixed [] [] [11] Tryz.func137 rfl (by kernel_rfl) (cw_ ?_)
 refine new_intro (o:=rowO 115 [.pointer (some ⟨c,0,none⟩)]) (fun bt h1' n_bt le_bt at_bt ot_bt=>cw_ ?_)
 refine new_intro (o:=rowO 172 [.func (.func gw) fi ca]) (fun bw H n_bw le_bw at_bw ot_bw=>cw_ ?_)
 have hle:h.le H:=Hp.le_trans le_bt le_bw
 have hHt:=le_bw _ _ at_bt
 have hHc:H c=some (rowO 179 [.int .i64 size,.map (some m),age]):=hle _ _ (hgh _ _ h1)
 have hHm:H m=some om:=hle _ _ (hgh _ _ h2)
 have hbtc:bt≠c:=fun e=>by subst e;rw [hgh _ _ h1] at n_bt;cases n_bt
 obtain ⟨hl4,⟨rfl,rfl,hn⟩ | ⟨b',cap,rest,rfl,rfl,hcap,hr,hb⟩⟩:=h4
 ·obtain rfl:=List.eq_nil_of_length_eq_zero hn
  refine ⟨_,loadC0 aggP hHt rfl,cw_ ?_⟩
  refine ⟨_,loadC (i:=2) aggS hHc rfl,cw_ ?_⟩
  refine ⟨fun h'=>h' bt=some (rowO 115 [.pointer (some ⟨c,0,none⟩)]),hHt,cw_ ?_⟩
  refine ⟨_,fun h' hh=>loadC0 aggP hh rfl,cw_ ?_⟩
  refine ⟨_,loadC0 aggP hHt rfl,cw_ ?_⟩
  refine ⟨_,loadC (i:=2) aggS hHc rfl,cw_ ?_⟩
  refine deleteNil_x _ _ _ ?_
  refine ⟨hHt,cw_ ?_⟩
  refine wr_intro (by exact storeC (i:=2) (z:=.slice none 0 0) sizS hHc (by show 2<3;decide) rfl rfl) (fun H2 at_H2 ot_H2=>cw_ ?_)
  have hbt2:H2 bt=_:=(ot_H2 _ hbtc).trans hHt
  refine ⟨hbt2,cw_ ?_⟩
  refine ⟨_,loadC0 aggP hbt2 rfl,cw_ ?_⟩
  refine ⟨_,loadC (i:=2) aggS at_H2 rfl,cw_ ?_⟩
  refine n_ ?_
  refine hk _ ⟨m,b,om,.slice none 0 0,none,h0,at_H2,?_,h3,Gr.nil⟩ ?_
  ·have hmc:m≠c:=fun e=>by subst e;rw [h1] at h2;cases h2;obtain ⟨_,_,e,_⟩:=h3;cases e
   exact (ot_H2 _ hmc).trans hHm
  ·exact fun x o e=>(ot_H2 x (fun hh=>by subst hh;rw [ha _ _ e] at h1;cases h1)).trans (hle _ _ (hwk _ _ e))
 ·obtain rfl:=h0 _ rfl
  have hHb:H b'=some (rowO 192 ((L.map keyI).flatMap Ky.cells++rest)):=hle _ _ (hgh _ _ hb)
  have hmo:∀ el l,om≠rowO el l:=fun el l e=>by subst e;obtain ⟨_,_,e,_⟩:=h3;cases e
  have hmc:m≠c:=fun e=>by subst e;rw [h1] at h2;cases h2;exact hmo _ _ rfl
  have hmb:m≠b':=fun e=>by subst e;rw [hb] at h2;cases h2;exact hmo _ _ rfl
  have hcb:c≠b':=fun e=>by subst e;rw [hb] at h1;exact rowO_ne (by decide) (Option.some.inj h1)
  have hbtm:bt≠m:=fun e=>by subst e;rw [hHm] at hHt;cases hHt;exact hmo _ _ rfl
  have hbwm:bw≠m:=fun e=>by subst e;rw [hHm] at at_bw;cases at_bw;exact hmo _ _ rfl
  have hbtb:bt≠b':=fun e=>by subst e;rw [hHb] at hHt;exact rowO_ne (by decide) (Option.some.inj hHt)
  have hbwb:bw≠b':=fun e=>by subst e;rw [hHb] at at_bw;exact rowO_ne (by decide) (Option.some.inj at_bw)
  let B:Hp:=fun x=>if x=m∨x=b' then none else H x
  have hB:∀ x o,x≠m→x≠b'→H x=some o→B x=some o:=fun x o n1 n2 e=>by simp only [B];rw [if_neg (fun hh=>hh.elim n1 n2)];exact e
  have hBm:B m=none:=if_pos (.inl rfl)
  have hBb:B b'=none:=if_pos (.inr rfl)
  have hBH:B.le H:=fun x o e=>by simp only [B] at e;split at e;cases e;exact e
  have hwB:wk.le B:=fun x o e=>hB x o (fun hh=>by subst hh;rw [ha _ _ e] at h2;cases h2) (fun hh=>by subst hh;rw [ha _ _ e] at hb;cases hb) (hle _ _ (hwk _ _ e))
  let f:Nat→Ky→Option Value:=fun i k=>if ∃ j,j<i∧∃ e,L[j]? = some e∧keyI e=k∧w e=true then none else lookE L k
  have hcalls:Calls1 250 #[] #[.pointer (some ⟨bw,0,none⟩),.pointer (some ⟨bt,0,none⟩)] (L.map keyI) (wantK L w) b' (fun i h'=>B.le h'∧∃ om',h' m=some om'∧MapO Ky.v (f i) om'):=by
   refine ⟨by kernel_rfl,fun i h' o ⟨i1,om',i2,i3⟩=>⟨Hp.le_keep i1 hBb,om',by rw [Hp.set_other _ _ hmb];exact i2,i3⟩,fun i k h' ob K' hki ⟨i1,om',i2,i3⟩ hob hK=>?_⟩
   rw [List.getElem?_map] at hki
   cases hLi:L[i]? with
   | none=>rw [hLi] at hki;cases hki
   | some e =>
    rw [hLi] at hki;cases hki
    have heL:e ∈ L:=List.mem_of_getElem? hLi
    have hfi:f i (keyI e)=some e.v:=by
     simp only [f]
     rw [if_neg,lookE_mem hg.dist heL]
     rintro ⟨j,hj,e',hj',hke,_⟩
     have hnd:=hg.dist
     have hlt:=(List.getElem?_eq_some_iff.1 hLi).1
     have h1:(L.map keyI)[j]? = (L.map keyI)[i]? := by rw [List.getElem?_map,List.getElem?_map,hj',hLi];simp [hke]
     rw [List.getElem?_eq_getElem (by simp;omega),List.getElem?_eq_getElem (by simp;omega)] at h1
     exact List.pairwise_iff_getElem.1 hnd j i (by simp;omega) (by simp;omega) hj (Option.some.inj h1)
    show X Tryz.prog _ #[(keyI e).v,.pointer (some ⟨bw,0,none⟩),.pointer (some ⟨bt,0,none⟩)] h' K'
    rw [wantK_mem hg.dist heL] at hK
    refine drop1_x hw heL h' K' (i1 _ _ (hB _ _ hbwm hbwb at_bw)) (i1 _ _ (hB _ _ hbtm hbtb hHt)) (i1 _ _ (hB _ _ (Ne.symm hmc) hcb hHc)) i2 i3 hfi (Hp.le_trans hwB i1) (fun hwe=>?_) (fun hwe om2 hm2=>?_)
    ·rw [hwe] at hK
     refine hK _ ⟨i1,om',i2,MapO.congr i3 fun k=>?_⟩ hob
     simp only [f]
     congr 1
     rw [eq_iff_iff]
     constructor
     ·rintro ⟨j,hj,rr⟩;exact ⟨j,by omega,rr⟩
     ·rintro ⟨j,hj,e',q1,q2,q3⟩
      by_cases hji:j=i
      ·subst hji;rw [hLi] at q1;cases q1;rw [hwe] at q3;cases q3
      ·exact ⟨j,by omega,e',q1,q2,q3⟩
    ·rw [hwe] at hK
     refine hK _ ⟨Hp.le_keep i1 hBm,om2,Hp.set_same _ _ _,MapO.congr hm2 fun k=>?_⟩ (by rw [Hp.set_other _ _ (Ne.symm hmb)];exact hob)
     unfold putF
     simp only [f]
     by_cases hke:k=keyI e
     ·rw [if_pos hke,if_pos ⟨i,by omega,e,hLi,hke.symm,hwe⟩]
     ·rw [if_neg hke]
      congr 1
      rw [eq_iff_iff]
      constructor
      ·rintro ⟨j,hj,rr⟩;exact ⟨j,by omega,rr⟩
      ·rintro ⟨j,hj,e',q1,q2,q3⟩
       by_cases hji:j=i
       ·subst hji;rw [hLi] at q1;cases q1;exact absurd q2.symm hke
       ·exact ⟨j,by omega,e',q1,q2,q3⟩
  refine ⟨_,loadC0 aggP hHt rfl,cw_ ?_⟩
  refine ⟨_,loadC (i:=2) aggS hHc rfl,cw_ ?_⟩
  refine ⟨fun h'=>h' bt=some (rowO 115 [.pointer (some ⟨c,0,none⟩)]),hHt,cw_ ?_⟩
  refine ⟨_,fun h' hh=>loadC0 aggP hh rfl,cw_ ?_⟩
  refine ⟨_,loadC0 aggP hHt rfl,cw_ ?_⟩
  refine ⟨_,loadC (i:=2) aggS hHc rfl,cw_ ?_⟩
  refine deleteFunc_x hcalls (List.length_map _) (by rw [List.length_map];exact hcap) (by rw [List.length_map];exact hr) (by rw [List.length_map];omega) _ _ ⟨hBH,om,hHm,?_⟩ hHb (fun s h' hinv hgr=>?_)
  ·refine MapO.congr h3 fun k=>?_
   simp only [f]
   rw [if_neg]
   rintro ⟨j,hj,_⟩;omega
  obtain ⟨i1,om',i2,i3⟩:=hinv
  rw [hmap] at hgr
  rw [List.length_map] at hgr i3
  have i3':MapO Ky.v (lookE (L.filter (fun e=>!w e))) om':=MapO.congr i3 fun k=>by
   rw [lookE_filter hg.dist]
   simp only [f]
   congr 1
   rw [eq_iff_iff]
   constructor
   ·rintro ⟨j,hj,e,q1,q2,q3⟩;exact ⟨e,List.mem_of_getElem? q1,q2,by rw [q3];rfl⟩
   ·rintro ⟨e,he,q2,q3⟩
    obtain ⟨j,hj⟩:=List.getElem?_of_mem he
    exact ⟨j,(List.getElem?_eq_some_iff.1 hj).1,e,hj,q2,by simpa using q3⟩
  have hbt2:=i1 _ _ (hB _ _ hbtm hbtb hHt)
  have hc2:=i1 _ _ (hB _ _ (Ne.symm hmc) hcb hHc)
  obtain ⟨sa,sc,rfl⟩:∃ a c',s=.slice a (L.filter (fun e=>!w e)).length c':=by
   rcases hgr.2 with ⟨_,e,e2⟩ | ⟨_,_,_,_,e,_⟩
   ·exact ⟨none,0,by rw [e,e2]⟩
   ·exact ⟨_,_,e⟩
  refine ⟨hbt2,cw_ ?_⟩
  refine wr_intro (by exact storeC (i:=2) (z:=.slice sa (L.filter (fun e=>!w e)).length sc) sizS hc2 (by show 2<3;decide) rfl rfl) (fun H2 at_H2 ot_H2=>cw_ ?_)
  have hbt3:H2 bt=_:=(ot_H2 _ hbtc).trans hbt2
  refine ⟨hbt3,cw_ ?_⟩
  refine ⟨_,loadC0 aggP hbt3 rfl,cw_ ?_⟩
  refine ⟨_,loadC (i:=2) aggS at_H2 rfl,cw_ ?_⟩
  refine n_ ?_
  refine hk _ ⟨m,b',om',_,some b',fun x hx=>(by cases hx;rfl),at_H2,(ot_H2 _ hmc).trans i2,i3',?_⟩ fun x o e=>(ot_H2 x (fun hh=>by subst hh;rw [ha _ _ e] at h1;cases h1)).trans (i1 _ _ (hwB _ _ e))
  obtain ⟨g1,g2 | ⟨b2,cap2,rest2,e1,e2,g3,g4,g5⟩⟩:=hgr
  ·cases g2.1
  ·cases e1
   exact ⟨g1,.inr ⟨b',cap2,rest2,rfl,e2,g3,g4,(ot_H2 _ (Ne.symm hcb)).trans g5⟩⟩
end Go.Proofs.YtdhlpighdlnohaaGreat.Tb
