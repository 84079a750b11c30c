/-
  Pages: all entries, the program's.
-/
import Derived.Test.YtdhkjcdneidgaaaGreatDoorPdqI
import Derived.Test.YtdhkjcdneidgaaaGreatDoorMidZ
namespace Go.Proofs.YtdhkjcdneidgaaaGreatDoor
set_option linter.unusedSimpArgs false
set_option linter.unusedVariables false
set_option linter.unusedSimpArgs false
set_option linter.unusedVariables false
open Go Go.Mid Go.RowKit
open Go.Sort (PermIn SortedIn SWO pdq)
attribute [local irreducible] mid
section
variable {α:Type} [Inhabited α] {lt:α→α→Bool}
theorem perm_list {d d':Array α} (p:PermIn 0 d.size d d'):d'.toList.Perm d.toList:=by
 obtain ⟨h1,_,h3⟩:=p
 have e1:d.extract 0 d.size=d:=by simp
 have e2:d'.extract 0 d.size=d':=by rw [← h1];simp
 rw [e1,e2] at h3
 exact h3
theorem sorted_list {d:Array α} {n:Nat} (hn:d.size=n) (s:SortedIn lt 0 n d):d.toList.Pairwise (fun x z=>lt z x=false):=by
 rw [List.pairwise_iff_getElem]
 intro i j hi hj hij
 have:=s i j (Nat.zero_le _) hij (by rw [← hn];simpa using hj)
 rw [getElem!_pos d i (by simpa using hi),getElem!_pos d j (by simpa using hj)] at this
 simpa using this
end
section
set_option maxHeartbeats 8000000
set_option maxRecDepth 10000
variable {h:Hp} {K:Value→Hp→Prop}
variable {α:Type} [Inhabited α]
variable {enc:α→List Value} {lt:α→α→Bool} {y:Value}
theorem insertionE0_x (base:Option Addr) (cap:Nat) (hk:K (.tuple #[]) h):X Tryz.prog 91 #[.slice base 0 cap,.int .i64 0,.int .i64 0,y] h K:=by
 refine fnv (args:=_) mixed [] [] [] Tryz.func91 rfl (by kernel_rfl) ?_;conv=>whnf
 (first | refine ov_c (by simp only [loK,hiK];omega) ?_ | refine ov_c (by decide) ?_);conv=>whnf
 refine loop_step ?_;conv=>whnf
 exact hk
theorem pdqE0_x (base:Option Addr) (cap:Nat) (lim:Int) (hk:K (.tuple #[]) h):X Tryz.prog 65 #[.slice base 0 cap,.int .i64 0,.int .i64 0,.int .i64 lim,y] h K:=by
 refine fnv (args:=_) mixed [] [] [] Tryz.func65 rfl (by kernel_rfl) ?_;conv=>whnf
 refine loop_step ?_;conv=>whnf
 (first | refine ov_c (by simp only [loK,hiK];omega) ?_ | refine ov_c (by decide) ?_);conv=>whnf
 refine insertionE0_x base cap ?_
 conv=>whnf
 exact hk
theorem sortE_x (S:Srt1 enc lt y) (W:SWO lt) {k:Hp} {s:Value} {L:List α} (hO:Owns k h 62 2 s L.length (L.flatMap enc)) (hL:L.length<2 ^ 30)
  (hk:∀ (L':List α) (h':Hp),L'.Perm L→L'.Pairwise (fun x z=>lt z x=false)→Owns k h' 62 2 s L'.length (L'.flatMap enc)→K (.tuple #[]) h'):X Tryz.prog 36 #[s,y] h K:=by
 by_cases hn:L=[]
 ·subst hn
  obtain ⟨a,c,rfl⟩:=hO.shape
  refine fnv (args:=_) mixed [] [] [] Tryz.func36 rfl (by kernel_rfl) ?_;conv=>whnf
  (first | refine ov_c (by simp only [loK,hiK];omega) ?_ | refine ov_c (by decide) ?_);conv=>whnf
  refine blenN_x 0 (by decide) ?_
  conv=>whnf
  refine pdqE0_x a c _ ?_
  conv=>whnf
  exact hk [] h (List.Perm.refl _) List.Pairwise.nil hO
 ·have hpos:0<L.length:=List.length_pos_iff.2 hn
  obtain ⟨ob,g,hle,hno⟩:=hO
  obtain ⟨hl,⟨_,_,e⟩ | ⟨b,cap,rest,rfl,rfl,hcap,hrest,hb⟩⟩:=g
  ·omega
  have hkb:=hno b rfl
  have hlim:Go.Sort.bitsLen L.length≤64:=Nat.le_trans ((Go.Sort.bitsLen_le_iff L.length 30).2 hL) (by decide)
  have hb':h b=some (RowD 62 enc L.toArray rest):=hb
  have P:=Go.Sort.pdq_sorts lt W L.toArray 0 L.length (Go.Sort.bitsLen L.length) true true (Nat.zero_le _) (by simp) (Or.inl rfl)
  refine fnv (args:=_) mixed [] [] [] Tryz.func36 rfl (by kernel_rfl) ?_;conv=>whnf
  (first | refine ov_c (by simp only [loK,hiK];omega) ?_ | refine ov_c (by decide) ?_);conv=>whnf
  refine blenN_x L.length hL ?_
  conv=>whnf
  refine pdqE_x S W hL hcap L.length 0 L.length (Go.Sort.bitsLen L.length) (by omega) hb' (by simp) (Nat.zero_le _) (Nat.le_refl _) hlim (Or.inl rfl) fun h' hb2 k2=>?_
  generalize pdq lt L.toArray 0 L.length (Go.Sort.bitsLen L.length) true true=d at *
  have hsz:d.size=L.length:=by rw [P.1.1];simp
  have hln:d.toList.length=L.length:=by simp [hsz]
  have hp:d.toList.Perm L:=perm_list (by simpa using P.1)
  conv=>whnf
  refine hk d.toList h' hp (sorted_list hsz P.2) ⟨some b,⟨?_,.inr ⟨b,cap,rest,rfl,?_,?_,?_,hb2⟩⟩,fun c o e=>k2 c o (fun hc=>by subst hc;rw [hkb] at e;cases e) (hle _ _ e),hno⟩
  ·rw [flat_length S.len]
  ·rw [hln]
  ·rw [hln];exact hcap
  ·rw [hln];exact hrest
end
end Go.Proofs.YtdhkjcdneidgaaaGreatDoor

namespace Go.Proofs.YtdhkjcdneidgaaaGreatDoor
set_option linter.unusedSimpArgs false
set_option linter.unusedVariables false
set_option linter.unusedSimpArgs false
set_option linter.unusedVariables false
open Go Go.Mid Go.RowKit Go.Bits
abbrev rfXPgL0:Go.Mid.RF:=[(2,2),(6,2),(12,2),(3,3),(8,3),(14,3)]
open Go.Sort (SWO)
attribute [local irreducible] mid
instance:Inhabited TE:=⟨⟨0,0,0,none⟩⟩
abbrev ppT:TypeId:=62
def enT2 (r:Nat) (x:TE×Nat):List Value:=[ux (atE r x.1),.slice (some ⟨x.2,0,none⟩) 8 8]
def ltE (r:Nat) (x z:TE×Nat):Bool:=decide (atE r x.1<atE r z.1)
def pkE (r:Nat) (x:TE×Nat):Pp:=⟨atE r x.1,.slice (some ⟨x.2,0,none⟩) 8 8,eightN x.1.p 8⟩
theorem ltE_swo (r:Nat):SWO (ltE r) where
 irrefl:=fun x=>by simp [ltE]
 trans:=fun x y z h1 h2=>by
  unfold ltE at *
  simp only [decide_eq_true_eq] at *
  omega
 ntrans:=fun x y z h1 h2=>by
  unfold ltE at *
  simp only [decide_eq_false_iff_not] at *
  omega
section
set_option maxHeartbeats 8000000
set_option maxRecDepth 10000
variable {h:Hp} {K:Value→Hp→Prop}
theorem infPp:Tryz.prog.info? 62=some Tryz.prog.types[62]:=by kernel_rfl
theorem entCmp_x (r:Nat) (a b:TE×Nat) (hk:∀ c:Int,decide (c<0)=ltE r a b→K (.int .i64 c) h):X Tryz.prog 37 #[.agg (enT2 r a).toArray,.agg (enT2 r b).toArray] h K:=by
 have hk:∀ c:Int,decide (c<0)=decide (atE r a.1<atE r b.1)→K (.int .i64 c) h:=hk
 generalize hx:atE r a.1=x at hk
 generalize hz:atE r b.1=z at hk
 have ea:enT2 r a=[ux x,.slice (some ⟨a.2,0,none⟩) 8 8]:=by unfold enT2;rw [hx]
 have eb:enT2 r b=[ux z,.slice (some ⟨b.2,0,none⟩) 8 8]:=by unfold enT2;rw [hz]
 rw [ea,eb]
 refine fnv (args:=_) mixed rfXPgL0 [] [] Tryz.func37 rfl (by kernel_rfl) ?_;conv=>whnf
 refine bsel_intro (fun q1=>?_) (fun q1=>?_) <;> try simp only [bsL] at q1
 ·conv=>whnf
  exact hk _ (by rw [decide_eq_true (show x<z by omega)];decide)
 conv=>whnf
 refine bsel_intro (fun q2=>?_) (fun q2=>?_) <;> try simp only [bsL] at q2
 ·conv=>whnf
  exact hk _ (by rw [decide_eq_false (show ¬ x<z by omega)];decide)
 ·conv=>whnf
  exact hk _ (by rw [decide_eq_false (show ¬ x<z by omega)];decide)
theorem entS (r:Nat):Srt1 (α:=TE×Nat) (enT2 r) (ltE r) (.func (.func 37) #[] #[]) where
 len:=fun _=>rfl
 one:=fun x=>by simp [enT2,Value.oneCell']
 cmp:=fun x z h K hk=>yv_x (by kernel_rfl) (entCmp_x r x z hk)
theorem pgents0_x (hk:K (.slice none 0 0) h):X Tryz.prog 11 #[.pointer none] h K:=by
 refine fnv (args:=_) mixed [(4,4),(23,4),(28,4)] [] [22] Tryz.func11 rfl (by kernel_rfl) ?_;conv=>whnf
 exact hk
theorem pgframes0_x (hk:K (.int .i64 0) h):X Tryz.prog 12 #[.pointer none] h K:=by
 refine fnv (args:=_) mixed [] [] [] Tryz.func12 rfl (by kernel_rfl) ?_;conv=>whnf
 exact hk
theorem pgframes_x {b m:Nat} {t:Tb} (o:TbO h b m t) (hk:K (.int .i64 t.frames) h):X Tryz.prog 12 #[.pointer (some ⟨b,0,none⟩)] h K:=by
 refine fnv (args:=_) mixed [] [] [] Tryz.func12 rfl (by kernel_rfl) ?_;conv=>whnf
 refine ⟨_,loadC (i:=1) aggIn o.row rfl,?_⟩;conv=>whnf
 exact hk
theorem pgents_x {b m:Nat} {t:Tb} {lev:Nat→Nat} (o:TbO h b m t) (i:TInv t lev) (hl:t.L.length≤2 ^ 20) (hk:∀ s' h' (P:List Pp),h.le h'→Rd Tryz.prog ppT 2 h' s' (P.map Pp.v)→(∀ p ∈ P,PpB h' p)→P.map Pp.key=(entsL t).map (keyE t.root)→K s' h'):X Tryz.prog 11 #[.pointer (some ⟨b,0,none⟩)] h K:=by
 obtain ⟨om,nm,hm,hM,hnm⟩:=o.map
 have r1:=i.r1
 have f2:=i.f2
 refine fnv (args:=_) mixed [(4,4),(23,4),(28,4)] [] [22] Tryz.func11 rfl (by kernel_rfl) ?_;conv=>whnf
 refine ⟨_,loadC (i:=2) aggMp o.row rfl,?_⟩;conv=>whnf
 refine range_map rfl mapS rfl hm hM fun it h4 n_it le_it ot_it hI=>?_
 have dim:m≠it:=Hp.ne n_it hm
 have dib:b≠it:=Hp.ne n_it o.row
 have hob_:=hI.known
 obtain ⟨oi,om4,kit,kbm⟩:=hob_
 conv=>whnf
 refine loop_at [3] [] (fun q vs cs h'=>∃ (Hs:List (TE×Nat)) (sl:Value) (k:Hp) (oi om:Obj),q=nm - Hs.length∧vs=[.v sl]∧h.le k∧k it=some oi∧k m=some om∧Owns k h' ppT 2 sl Hs.length (Hs.flatMap (enT2 t.root))∧Itr spv (entF t.L) nm h' it m (Hs.map fun x=>(x.1.frame,x.1.place))∧(∀ x ∈ Hs,findE t.L x.1.frame x.1.place=some x.1)∧∀ x ∈ Hs,x.2≠it∧k x.2=some (rowO 5 ((eightN x.1.p 8).map byV))) nm ⟨[],.slice none 0 0,h4,oi,om4,rfl,rfl,le_it,kit,kbm,Owns.nil (Hp.le_refl _),hI,fun x hx=>(by cases hx),fun x hx=>(by cases hx)⟩ ?_
 clear hI kit kbm hM ot_it
 rintro q vs cs mm bx h5 ⟨Hs,sl,k,oi,om5,rfl,rfl,lk,kit,kbm,hO,hI,hHs,hRow⟩
 have hsub:Hs.length≤t.L.length:=by
  have h1:=hI.told
  have:=h1.1.length_le_of_subset (l₂:=t.L.map fun e=>(e.frame,e.place)) (fun a ha=>by
   have h2:=h1.2 a ha
   unfold entF at h2
   cases hf:findE t.L a.1 a.2 with
   | none=>rw [hf] at h2;exact absurd rfl h2
   | some e =>
    obtain ⟨e1,e2,e3⟩:=findE_some hf
    exact List.mem_map.2 ⟨e,e1,by rw [e2,e3]⟩)
  simpa using this
 conv=>whnf
 refine next_map rfl rfl hI (fun a v h6 hfa hna hlt ot6 hI6=>?_) (fun hall=>?_)
 ·rw [List.length_map] at hlt
  obtain ⟨e,he,rfl⟩:∃ e,findE t.L a.1 a.2=some e∧v=ux e.p:=by
   unfold entF at hfa
   cases hf:findE t.L a.1 a.2 with
   | none=>rw [hf] at hfa;cases hfa
   | some e=>rw [hf] at hfa;exact ⟨e,rfl,(Option.some.inj hfa).symm⟩
  obtain ⟨het,hef,hep⟩:=findE_some he
  have hp64:=i.p64 e het
  have hfr:=i.fr e het
  have hpl:=i.pl e het
  obtain ⟨a1,a2⟩:=a
  simp only at hef hep he
  subst hef
  subst hep
  have hob_:=hI6.known
  obtain ⟨oi6,om6,kit6,kbm6⟩:=hob_
  have hO6:=hO.put kit kit6 ot6
  have kb6:(k.set it oi6) m=some om5:=by rw [Hp.set_other _ _ dim];exact kbm
  have lk6:h.le (k.set it oi6):=Hp.le_keep lk n_it
  have ki6:(k.set it oi6) it=some oi6:=Hp.set_same _ _ _
  have hRow6:∀ x ∈ Hs,x.2≠it∧(k.set it oi6) x.2=some (rowO 5 ((eightN x.1.p 8).map byV)):=fun x hx=>⟨(hRow x hx).1,by rw [Hp.set_other _ _ (hRow x hx).1];exact (hRow x hx).2⟩
  generalize k.set it oi6=k6 at *
  have hI6':Itr spv (entF t.L) nm h6 it m ((Hs.map fun x=>(x.1.frame,x.1.place))++[(e.frame,e.place)]):=hI6
  conv=>whnf
  refine entry_map rfl rfl hI6' (fun v2 hv2=>?_)
  obtain rfl:v2=ux e.p:=by rw [hfa] at hv2;exact (Option.some.inj hv2).symm
  have o6:=hO6.le _ _ (lk6 _ _ o.row)
  conv=>whnf
  refine ⟨fun z=>z b=some (rowO tbT [ux t.root,.int .i64 t.frames,.map (some m)]),fun _ _ hc hle=>hle _ _ hc,o6,?_⟩
  conv=>whnf
  refine ⟨_,fun _ e=>loadC0 aggU6 e rfl,?_⟩
  conv=>whnf
  (first | refine ov_c (by simp only [loK,hiK];omega) ?_ | refine ov_c (by decide) ?_);conv=>whnf
  refine ov_by (show IntKind.u64.wrap ((e.frame:Int)*4096)=((4096*e.frame:Nat):Int) by rw [show (e.frame:Int)*4096=((4096*e.frame:Nat):Int) by omega];exact w64 (by omega)) ?_
  conv=>whnf
  refine ov_by (show IntKind.u64.wrap ((t.root:Int)+((4096*e.frame:Nat):Int))=(((t.root+4096*e.frame) % 2 ^ 64:Nat):Int) by rw [toU64];omega) ?_
  conv=>whnf
  (first | refine ov_c (by simp only [loK,hiK];omega) ?_ | refine ov_c (by decide) ?_);conv=>whnf
  (first | refine ov_c (by simp only [loK,hiK];omega) ?_ | refine ov_c (by decide) ?_);conv=>whnf
  refine ov_by (show IntKind.u64.wrap ((((t.root+4096*e.frame) % 2 ^ 64:Nat):Int)+8*(e.place:Int))=((atE t.root e:Nat):Int) by rw [toU64];unfold atE;omega) ?_
  conv=>whnf
  refine pgeight_x e.p 8 hp64 (by decide) fun b8 h7 n_b8 le_b8 ot_b8 at_b8=>?_
  refine ⟨le_b8 _ _ o6,?_⟩
  conv=>whnf
  have k6n:k6 b8=none:=Hp.none_le hO6.le n_b8
  have hO7:=hO6.new n_b8 le_b8 at_b8
  have lk67:k6.le (k6.set b8 (rowO 5 ((eightN e.p 8).map byV))):=Hp.le_set' k6n
  have row7:(k6.set b8 (rowO 5 ((eightN e.p 8).map byV))) b8=some (rowO 5 ((eightN e.p 8).map byV)):=Hp.set_same _ _ _
  have d8it:b8≠it:=fun ee=>by rw [ee,hO6.le _ _ ki6] at n_b8;cases n_b8
  generalize k6.set b8 (rowO 5 ((eightN e.p 8).map byV))=k7 at *
  refine new_intro (o:=rowO 62 (enT2 t.root (e,b8))) (fun y h8 n_y le_y at_y ot_y=>?_);conv=>whnf
  refine Owns.app1 (z:=.agg #[ux 0,.slice none 0 0]) (by kernel_rfl) infPp (by kernel_rfl) (by kernel_rfl) (by kernel_rfl) rfl (bytes:=32) (by decide) rfl rfl rfl (hO7.up le_y) at_y rfl (by simp [enT2,Value.oneCell']) (by omega) fun s8 h9 hO9=>?_
  obtain ⟨sa,sc,rfl⟩:=hO9.shape
  refine ⟨hO9.le _ _ (lk67 _ _ (lk6 _ _ o.row)),?_⟩
  conv=>whnf
  refine ⟨nm - (Hs.length+1),by omega,Hs++[(e,b8)],_,k7,oi6,om5,by simp,rfl,Hp.le_trans lk6 lk67,lk67 _ _ ki6,lk67 _ _ kb6,?_,?_,?_,?_⟩
  ·rw [List.length_append,List.flatMap_append]
   exact hO9
  ·rw [List.map_append]
   refine Itr.agree (h:=h6) hI6 ?_ ?_
   ·rw [hO9.le _ _ (lk67 _ _ ki6),hO6.le _ _ ki6]
   ·rw [hO9.le _ _ (lk67 _ _ kb6),hO6.le _ _ kb6]
  ·intro x hx
   rcases List.mem_append.1 hx with hx | hx
   ·exact hHs x hx
   ·rw [List.mem_singleton.1 hx];exact he
  ·intro x hx
   rcases List.mem_append.1 hx with hx | hx
   ·exact ⟨(hRow6 x hx).1,lk67 _ _ (hRow6 x hx).2⟩
   ·rw [List.mem_singleton.1 hx];exact ⟨d8it,row7⟩
 have htold:=hI.told
 have hpm:(Hs.map (·.1)).Perm t.L:=by
  have hnd:(Hs.map (·.1)).Nodup:=by
   have h1:=htold.1
   have:(Hs.map fun x=>(x.1.frame,x.1.place))=(Hs.map (·.1)).map fun e=>(e.frame,e.place):=by rw [List.map_map];rfl
   rw [this] at h1
   exact (List.pairwise_map.1 h1).imp fun hne e=>hne (by rw [e])
  have hnt:t.L.Nodup:=(List.pairwise_map.1 i.one).imp fun hne e=>hne (by rw [e])
  refine (List.perm_ext_iff_of_nodup hnd hnt).2 fun e=>?_
  constructor
  ·intro he
   obtain ⟨x,hx,rfl⟩:=List.mem_map.1 he
   exact (findE_some (hHs x hx)).1
  ·intro he
   have hx:findE t.L e.frame e.place≠none:=fun hn=>findE_none hn e he ⟨rfl,rfl⟩
   obtain ⟨y,hy⟩:=Option.ne_none_iff_exists'.1 hx
   have:=hall (e.frame,e.place) (by unfold entF;rw [hy];simp)
   obtain ⟨x,hx1,hx2⟩:=List.mem_map.1 this
   simp only [Prod.mk.injEq] at hx2
   have h1:=hHs x hx1
   obtain ⟨g1,g2,g3⟩:=findE_some h1
   have:x.1=e:=at_one i hl g1 he (by unfold atE;rw [hx2.1,hx2.2])
   exact List.mem_map.2 ⟨x,hx1,this⟩
 conv=>whnf
 refine sortE_x (entS t.root) (ltE_swo t.root) (L:=Hs) hO (by omega) fun L' h6 hp hs hO6=>?_
 have he:L'.map (·.1)=entsL t:=by
  refine ents_only i hl ((hp.map (·.1)).trans hpm) ?_
  rw [List.pairwise_map]
  refine hs.imp fun {x z} hh=>?_
  have hh:¬ atE t.root z.1<atE t.root x.1:=of_decide_eq_false hh
  omega
 have lk6:=Hp.le_trans lk hO6.le
 obtain ⟨sa,sc,rfl⟩:=hO.shape
 conv=>whnf
 refine hk _ h6 (L'.map (pkE t.root)) lk6 ?_ ?_ ?_
 ·have:=hO6
  obtain ⟨ob,g,_,_⟩:=this
  have:=g.rdN (f:=enT2 t.root) aggPp sizPp (fun _=>rfl)
  rw [List.map_map]
  exact this
 ·intro p hp2
  obtain ⟨x,hx,rfl⟩:=List.mem_map.1 hp2
  have hx2:=hp.mem_iff.1 hx
  have hr:=hO6.le _ _ (hRow x hx2).2
  refine ⟨Nat.mod_lt _ (by decide),by show (eightN _ 8).length≤_;rw [eight_len];decide,x.2,8,[],by show _=Value.slice _ (eightN x.1.p 8).length _;rw [eight_len];rfl,by rw [List.append_nil];exact hr⟩
 ·rw [← he,List.map_map,List.map_map]
  rfl
end
end Go.Proofs.YtdhkjcdneidgaaaGreatDoor
