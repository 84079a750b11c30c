/-
  A hart as an object: its row, its cache, what it told.
-/
import Derived.Test.YtdhlpighdlnohaaGreatTbTlb5
import Derived.Test.YtdhlpighdlnohaaGreatWaB
set_option linter.unusedSimpArgs false
set_option linter.unusedVariables false
set_option maxHeartbeats 8000000
set_option maxRecDepth 10000
set_option linter.unusedSimpArgs false
set_option linter.unusedVariables false
namespace Go.Proofs.YtdhlpighdlnohaaGreat.Tb
open Go Go.Mid Go.RowKit
attribute [local irreducible] mid structOk
def kyOf (a va l:Int):Ky:=⟨a,pageI va l,l⟩
def cands (asid va:Int):List Ky:=if asid<0 then [kyOf (-1) va 0,kyOf (-1) va 1,kyOf (-1) va 2] else [kyOf asid va 0,kyOf (-1) va 0,kyOf asid va 1,kyOf (-1) va 1,kyOf asid va 2,kyOf (-1) va 2]
def firstE (L:List En):List Ky→Option En
 | []=>none
 | k :: r=>match L.find? (fun e=>decide (keyI e=k)) with
  | some e=>some e
  | none=>firstE L r
def findI (L:List En) (asid va:Int):Option En:=firstE L (cands asid va)
def foundV (o:Option En):Value:=match o with
 | some e=>.tuple #[e.v,.bool true]
 | none=>.tuple #[En.v ⟨0,0,0,0⟩,.bool false]
theorem lookE_some {L:List En} {k:Ky} {e:En} (h:L.find? (fun e=>decide (keyI e=k))=some e):lookE L k=some e.v:=by unfold lookE;rw [h];rfl
theorem lookE_no {L:List En} {k:Ky} (h:L.find? (fun e=>decide (keyI e=k))=none):lookE L k=none:=by unfold lookE;rw [h];rfl
section
theorem common_x {c:Nat} {size:Int} {L:List En} (va:Int) (hva:0≤va∧va<2 ^ 64) (h:Hp) (K:Value→Hp→Prop) (hT:TlbH h c size L) (hk:K (foundV (firstE L [kyOf (-1) va 0,kyOf (-1) va 1,kyOf (-1) va 2])) h) :
  X Tryz.prog 337 #[.pointer (some ⟨c,0,none⟩),.int .u64 va] h K:=by
 obtain ⟨m,b,om,age,ob,h0,h1,h2,h3,h4⟩:=hT
 have hu:∀ l,0≤pageI va l∧pageI va l<2 ^ 64:=fun l=>pageI_u hva
 refine fnv (args:=_) mixed [(4,4),(7,7)] [] [19] Tryz.func337 rfl (by kernel_rfl) (cw_ ?_)
 refine loop_step (cw_ ?_)
 refine ⟨fun h'=>h'=h,rfl,cw_ ?_⟩
 refine ⟨_,fun h' hh=>(by rw [hh];exact loadC (i:=1) aggM h1 rfl),cw_ ?_⟩
 refine page_x _ _ hva ?_
 refine ⟨rfl,cw_ ?_⟩
 refine ⟨_,MapO.look mapU enZ kyT h2 h3 (kyOf (-1) va 0) true,cw_ ?_⟩
 cases hf0:L.find? (fun e=>decide (keyI e=kyOf (-1) va 0))
 rotate_left
 ·rw [lookE_some hf0]
  conv=>whnf
  exact kq hk (by simp only [firstE, *];rfl)
 rw [lookE_no hf0]
 conv=>whnf
 refine n_ ?_
 refine loop_step (cw_ ?_)
 refine ⟨fun h'=>h'=h,rfl,cw_ ?_⟩
 refine ⟨_,fun h' hh=>(by rw [hh];exact loadC (i:=1) aggM h1 rfl),cw_ ?_⟩
 refine page_x _ _ hva ?_
 refine ⟨rfl,cw_ ?_⟩
 refine ⟨_,MapO.look mapU enZ kyT h2 h3 (kyOf (-1) va 1) true,cw_ ?_⟩
 cases hf1:L.find? (fun e=>decide (keyI e=kyOf (-1) va 1))
 rotate_left
 ·rw [lookE_some hf1]
  conv=>whnf
  exact kq hk (by simp only [firstE, *];rfl)
 rw [lookE_no hf1]
 conv=>whnf
 refine n_ ?_
 refine loop_step (cw_ ?_)
 refine ⟨fun h'=>h'=h,rfl,cw_ ?_⟩
 refine ⟨_,fun h' hh=>(by rw [hh];exact loadC (i:=1) aggM h1 rfl),cw_ ?_⟩
 refine page_x _ _ hva ?_
 refine ⟨rfl,cw_ ?_⟩
 refine ⟨_,MapO.look mapU enZ kyT h2 h3 (kyOf (-1) va 2) true,cw_ ?_⟩
 cases hf2:L.find? (fun e=>decide (keyI e=kyOf (-1) va 2))
 rotate_left
 ·rw [lookE_some hf2]
  conv=>whnf
  exact kq hk (by simp only [firstE, *];rfl)
 rw [lookE_no hf2]
 conv=>whnf
 refine n_ ?_
 refine loop_step (cw_ ?_)
 exact kq hk (by simp only [firstE, *];rfl)
theorem find_x {c:Nat} {size:Int} {L:List En} (asid va:Int) (hva:0≤va∧va<2 ^ 64) (h:Hp) (K:Value→Hp→Prop) (hT:TlbH h c size L) (hk:K (foundV (findI L asid va)) h) :
  X Tryz.prog 270 #[.pointer (some ⟨c,0,none⟩),.int .i64 asid,.int .u64 va] h K:=by
 have hT0:=hT
 obtain ⟨m,b,om,age,ob,h0,h1,h2,h3,h4⟩:=hT0
 have hu:∀ l,0≤pageI va l∧pageI va l<2 ^ 64:=fun l=>pageI_u hva
 unfold findI cands at hk
 refine fnv (args:=_) mixed [(6,6),(11,11)] [] [36] Tryz.func270 rfl (by kernel_rfl) (cw_ ?_)
 refine br_ (fun q1=>?_) fun q1=>?_
 ·rw [if_pos q1] at hk
  conv=>whnf
  refine common_x va hva h _ hT (cw_ ?_)
  generalize firstE L [kyOf (-1) va 0,kyOf (-1) va 1,kyOf (-1) va 2]=r at hk
  cases r with
  | none =>
   conv=>whnf
   exact hk
  | some e =>
   conv=>whnf
   exact hk
 rw [if_neg q1] at hk
 conv=>whnf
 refine loop_step (cw_ ?_)
 refine loop_step (cw_ ?_)
 refine ⟨fun h'=>h'=h,rfl,cw_ ?_⟩
 refine ⟨_,fun h' hh=>(by rw [hh];exact loadC (i:=1) aggM h1 rfl),cw_ ?_⟩
 refine page_x _ _ hva ?_
 refine ⟨rfl,cw_ ?_⟩
 refine ⟨_,MapO.look mapU enZ kyT h2 h3 (kyOf asid va 0) true,cw_ ?_⟩
 cases hf0:L.find? (fun e=>decide (keyI e=kyOf asid va 0))
 rotate_left
 ·rw [lookE_some hf0]
  conv=>whnf
  exact kq hk (by simp only [firstE, *];rfl)
 rw [lookE_no hf0]
 conv=>whnf
 refine n_ ?_
 refine loop_step (cw_ ?_)
 refine ⟨fun h'=>h'=h,rfl,cw_ ?_⟩
 refine ⟨_,fun h' hh=>(by rw [hh];exact loadC (i:=1) aggM h1 rfl),cw_ ?_⟩
 refine page_x _ _ hva ?_
 refine ⟨rfl,cw_ ?_⟩
 refine ⟨_,MapO.look mapU enZ kyT h2 h3 (kyOf (-1) va 0) true,cw_ ?_⟩
 cases hg0:L.find? (fun e=>decide (keyI e=kyOf (-1) va 0))
 rotate_left
 ·rw [lookE_some hg0]
  conv=>whnf
  exact kq hk (by simp only [firstE, *];rfl)
 rw [lookE_no hg0]
 conv=>whnf
 refine n_ ?_
 refine loop_step (cw_ ?_)
 refine n_ ?_
 refine loop_step (cw_ ?_)
 refine loop_step (cw_ ?_)
 refine ⟨fun h'=>h'=h,rfl,cw_ ?_⟩
 refine ⟨_,fun h' hh=>(by rw [hh];exact loadC (i:=1) aggM h1 rfl),cw_ ?_⟩
 refine page_x _ _ hva ?_
 refine ⟨rfl,cw_ ?_⟩
 refine ⟨_,MapO.look mapU enZ kyT h2 h3 (kyOf asid va 1) true,cw_ ?_⟩
 cases hf1:L.find? (fun e=>decide (keyI e=kyOf asid va 1))
 rotate_left
 ·rw [lookE_some hf1]
  conv=>whnf
  exact kq hk (by simp only [firstE, *];rfl)
 rw [lookE_no hf1]
 conv=>whnf
 refine n_ ?_
 refine loop_step (cw_ ?_)
 refine ⟨fun h'=>h'=h,rfl,cw_ ?_⟩
 refine ⟨_,fun h' hh=>(by rw [hh];exact loadC (i:=1) aggM h1 rfl),cw_ ?_⟩
 refine page_x _ _ hva ?_
 refine ⟨rfl,cw_ ?_⟩
 refine ⟨_,MapO.look mapU enZ kyT h2 h3 (kyOf (-1) va 1) true,cw_ ?_⟩
 cases hg1:L.find? (fun e=>decide (keyI e=kyOf (-1) va 1))
 rotate_left
 ·rw [lookE_some hg1]
  conv=>whnf
  exact kq hk (by simp only [firstE, *];rfl)
 rw [lookE_no hg1]
 conv=>whnf
 refine n_ ?_
 refine loop_step (cw_ ?_)
 refine n_ ?_
 refine loop_step (cw_ ?_)
 refine loop_step (cw_ ?_)
 refine ⟨fun h'=>h'=h,rfl,cw_ ?_⟩
 refine ⟨_,fun h' hh=>(by rw [hh];exact loadC (i:=1) aggM h1 rfl),cw_ ?_⟩
 refine page_x _ _ hva ?_
 refine ⟨rfl,cw_ ?_⟩
 refine ⟨_,MapO.look mapU enZ kyT h2 h3 (kyOf asid va 2) true,cw_ ?_⟩
 cases hf2:L.find? (fun e=>decide (keyI e=kyOf asid va 2))
 rotate_left
 ·rw [lookE_some hf2]
  conv=>whnf
  exact kq hk (by simp only [firstE, *];rfl)
 rw [lookE_no hf2]
 conv=>whnf
 refine n_ ?_
 refine loop_step (cw_ ?_)
 refine ⟨fun h'=>h'=h,rfl,cw_ ?_⟩
 refine ⟨_,fun h' hh=>(by rw [hh];exact loadC (i:=1) aggM h1 rfl),cw_ ?_⟩
 refine page_x _ _ hva ?_
 refine ⟨rfl,cw_ ?_⟩
 refine ⟨_,MapO.look mapU enZ kyT h2 h3 (kyOf (-1) va 2) true,cw_ ?_⟩
 cases hg2:L.find? (fun e=>decide (keyI e=kyOf (-1) va 2))
 rotate_left
 ·rw [lookE_some hg2]
  conv=>whnf
  exact kq hk (by simp only [firstE, *];rfl)
 rw [lookE_no hg2]
 conv=>whnf
 refine n_ ?_
 refine loop_step (cw_ ?_)
 refine n_ ?_
 refine loop_step (cw_ ?_)
 exact kq hk (by simp only [firstE, *];rfl)
theorem loadK {h:Hp} {b:Nat} {ks:List Ky} {rest:List Value} {i:Nat} {k:Ky} (hb:h b=some (rowO 192 (ks.flatMap Ky.cells++rest))) (hi:ks[i]? = some k):loadH Tryz.prog 192 h ((⟨b,0,none⟩:Addr).add (i*3))=some k.v:=loadH_agg tKyA tKyS kyLen hb hi
theorem all3_x {c:Nat} {size:Int} {L:List En} (hg:Good size L) (h:Hp) (K:Value→Hp→Prop) (hT:TlbH h c size L)
  (hk:∀ s h' ob,h.le h'→Gr h' 78 4 s L.length (L.flatMap En.cells) ob→(∀ x,ob=some x→h x=none)→K s h') :
  X Tryz.prog 42 #[.pointer (some ⟨c,0,none⟩)] h K:=by
 obtain ⟨m,b,om,age,ob,h0,h1,h2,h3,h4⟩:=hT
 have hsz:=hg.sz
 have hlen:=hg.len
 have hrd:∃ sa sc,age=.slice sa L.length sc∧∀ (i:Nat) (e:En),L[i]? = some e→∃ bb rest,sa=some ⟨bb,0,none⟩∧h bb=some (rowO 192 ((L.map keyI).flatMap Ky.cells++rest)):=by
  obtain ⟨g1,⟨_,e,g2⟩ | ⟨bb,cap,rest,e1,e2,g2,g3,g4⟩⟩:=h4
  ·refine ⟨none,0,by rw [e,g2],fun i e hi=>?_⟩
   obtain rfl:=List.eq_nil_of_length_eq_zero g2
   simp at hi
  ·exact ⟨_,cap,e2,fun i e hi=>⟨bb,rest,rfl,g4⟩⟩
 obtain ⟨sa,sc,rfl,hrow⟩:=hrd
 refine fnv (args:=_) mixed [(5,5)] [] [] Tryz.func42 rfl (by kernel_rfl) (cw_ ?_)
 refine ⟨_,loadC (i:=2) aggS h1 rfl,cw_ ?_⟩
 refine loop_at [13,3] [] (fun r vs _ h'=>∃ (j:Nat) (s:Value) (ob':Option Nat),j≤L.length∧r=L.length - j∧vs=[.v (.int .i64 j),.v s]∧h.le h'∧Gr h' 78 4 s j ((L.take j).flatMap En.cells) ob'∧∀ x,ob'=some x→h x=none) L.length ⟨0,.slice none 0 0,none,by omega,by omega,rfl,Hp.le_refl h,Gr.nil,fun x hx=>(by cases hx)⟩ ?_
 rintro r vs cs mm bx h' ⟨j,s,ob',hj,rfl,rfl,hle,hgr,hob⟩
 conv=>whnf
 refine br_ (fun q1=>?_) fun q1=>?_
 ·have hjl:j<L.length:=by omega
  have hget:L[j]? = some L[j]:=List.getElem?_eq_getElem hjl
  have heL:L[j] ∈ L:=List.getElem_mem hjl
  have htk:(L.take (j+1)).flatMap En.cells=(L.take j).flatMap En.cells++En.cells L[j]:=by rw [List.take_succ_eq_append_getElem hjl,List.flatMap_append];simp
  obtain ⟨bb,rest,rfl,hbb⟩:=hrow j _ hget
  conv=>whnf
  refine n_ ?_
  refine ⟨_,loadK (k:=keyI L[j]) (hle _ _ hbb) (by show (L.map keyI)[j]? = _;rw [List.getElem?_map,hget];rfl),?_⟩;conv=>whnf
  refine ⟨_,loadC (i:=1) aggM (hle _ _ h1) rfl,cw_ ?_⟩
  refine ⟨_,MapO.look mapU enZ kyT (hle _ _ h2) h3 (keyI L[j]) false,cw_ ?_⟩
  rw [lookE_mem hg.dist heL]
  conv=>whnf
  refine new_intro (o:=rowO 78 (En.cells L[j])) (fun bn H6 n_bn le_bn at_bn ot_bn=>cw_ ?_)
  refine appOne (t := 27) (e := 78) (i:=Tryz.prog.types[78]) (z:=En.v ⟨0,0,0,0⟩) (size:=4) (bytes:=32) (by kernel_rfl) (by kernel_rfl) (by kernel_rfl) (by kernel_rfl) (by kernel_rfl) rfl (by decide) (h:=H6) rfl rfl rfl (hgr.le le_bn) at_bn (enLen _) rfl (by omega) (fun s7 h7 ob7 hg7 ht7=>?_)
  have t1:=ht7.le (Hp.le_trans hle le_bn) hob
  rw [← htk] at hg7
  refine ⟨trivial,cw_ ?_⟩
  refine n_ ?_
  exact ⟨L.length - (j+1),by omega,j+1,s7,ob7,by omega,rfl,rfl,t1.1,hg7,t1.2⟩
 ·obtain rfl:j=L.length:=by omega
  rw [List.take_length] at hgr
  conv=>whnf
  exact hk s h' ob' hle hgr hob
theorem all2_x {c:Nat} {size:Int} {L:List En} (hg:Good size L) (h:Hp) (K:Value→Hp→Prop) (hT:TlbH h c size L)
  (hk:∀ s h',h.le h'→Rd Tryz.prog 78 4 (news h h') s (L.map En.v)→K s h') :
  X Tryz.prog 42 #[.pointer (some ⟨c,0,none⟩)] h K :=
 all3_x hg h K hT fun s h' ob' hle hgr hob=>hk s h' hle ((hgr.agree (h':=news h h') fun x hx=>news_at (hob x hx)).rdN tEnA tEnS enLen)
theorem all_x {c:Nat} {size:Int} {L:List En} (hg:Good size L) (h:Hp) (K:Value→Hp→Prop) (hT:TlbH h c size L)
  (hk:∀ s h',h.le h'→Rd Tryz.prog 78 4 h' s (L.map En.v)→K s h') :
  X Tryz.prog 42 #[.pointer (some ⟨c,0,none⟩)] h K:=all2_x hg h K hT fun s h' hle r=>hk s h' hle (r.le (news_le _ _))
end
end Go.Proofs.YtdhlpighdlnohaaGreat.Tb
namespace Go.Proofs.YtdhlpighdlnohaaGreat.Tb
open Go Go.Mid Go.RowKit
attribute [local irreducible] mid structOk
abbrev RdE (h:Hp) (s:Value) (L:List En):Prop:=Rd Tryz.prog 78 4 h s (L.map En.v)
theorem rdE {h:Hp} {s:Value} {L:List En} (r:RdE h s L):∃ base cap,s=.slice base L.length cap∧∀ (i:Nat) (e:En),L[i]? = some e→∃ a,base=some a∧loadH Tryz.prog 78 h (a.add (i*4))=some e.v:=by
 obtain ⟨base,cap,e1,e2⟩:=r
 rw [List.length_map] at e1
 exact ⟨base,cap,e1,fun i e hi=>e2 i e.v (by rw [List.getElem?_map,hi];rfl)⟩
theorem enBeq (a b:En):(a.asid==b.asid && (a.page==b.page && (a.level==b.level && (a.pte==b.pte && true))))=decide (a=b):=by
 rw [Bool.eq_iff_iff]
 obtain ⟨a1,a2,a3,a4⟩:=a
 obtain ⟨b1,b2,b3,b4⟩:=b
 simp
theorem take_eq_succ {α:Type} {L1 L2:List α} {j:Nat} (h1:j<L1.length) (h2:j<L2.length) (ht:L1.take j=L2.take j) (he:L1[j]=L2[j]):L1.take (j+1)=L2.take (j+1):=by
 rw [List.take_succ_eq_append_getElem h1,List.take_succ_eq_append_getElem h2,ht,he]
section
theorem rsameL_x {s1 s2:Value} {L1 L2:List En} (h:Hp) (K:Value→Hp→Prop) (r1:RdE h s1 L1) (r2:RdE h s2 L2) (hl:L1.length≤2 ^ 40) (hk:K (.bool (decide (L1=L2))) h) :
  X Tryz.prog 32 #[s1,s2] h K:=by
 obtain ⟨b1,c1,rfl,f1⟩:=rdE r1
 obtain ⟨b2,c2,rfl,f2⟩:=rdE r2
 refine fnv (args:=_) mixed [] [] [] Tryz.func32 rfl (by kernel_rfl) (cw_ ?_)
 refine br_ (fun q0=>?_) fun q0=>?_
 ·conv=>whnf
  exact kq hk (bI (by symm;rw [decide_eq_false_iff_not];intro e;subst e;exact q0 rfl))
 have hlen:L1.length=L2.length:=by omega
 conv=>whnf
 refine loop_at [5] [] (fun r vs _ h'=>h=h'∧∃ j:Nat,j≤L1.length∧r=L1.length - j∧vs=[.v (.int .i64 j)]∧L1.take j=L2.take j) L1.length ⟨rfl,0,by omega,by omega,rfl,rfl⟩ ?_
 rintro r vs cs mm bx _ ⟨rfl,j,hj,rfl,rfl,ht⟩
 conv=>whnf
 refine br_ (fun q1=>?_) fun q1=>?_
 ·have hj1:j<L1.length:=by omega
  have hj2:j<L2.length:=by omega
  have g1:=f1 j _ (List.getElem?_eq_getElem hj1)
  have g2:=f2 j _ (List.getElem?_eq_getElem hj2)
  obtain ⟨a1,rfl,l1⟩:=g1
  obtain ⟨a2,rfl,l2⟩:=g2
  conv=>whnf
  refine n_ ?_
  refine ⟨_,l1,cw_ ?_⟩
  refine n_ ?_
  refine ⟨_,l2,cw_ ?_⟩
  refine n_ ?_ (hc:=by kernel_rfl)
  by_cases he:L1[j]=L2[j]
  ·refine bf_ ?_ (by exact (congrArg not (enBeq L1[j] L2[j])).trans (by simp [he]))
   refine n_ ?_
   exact ⟨L1.length - (j+1),by omega,rfl,j+1,by omega,rfl,rfl,take_eq_succ hj1 hj2 ht he⟩
  ·refine bt_ ?_ (by exact (congrArg not (enBeq L1[j] L2[j])).trans (by simp [he]))
   exact kq hk (bI (by symm;rw [decide_eq_false_iff_not];intro e;subst e;exact he rfl))
 ·obtain rfl:j=L1.length:=by omega
  conv=>whnf
  rw [List.take_length,hlen,List.take_length] at ht
  exact kq hk (bI (by symm;rw [decide_eq_true_iff];exact ht))
end
end Go.Proofs.YtdhlpighdlnohaaGreat.Tb
namespace Go.Proofs.YtdhlpighdlnohaaGreat.Tb
open Go Go.Mid Go.RowKit
attribute [local irreducible] mid structOk
set_option maxRecDepth 10000 in
theorem cloneKN_x (h:Hp) (K:Value→Hp→Prop) (hk:K (.slice none 0 0) h):X Tryz.prog 139 #[.slice none 0 0] h K:=by
 refine fnv (args:=_) mixed [] [] [] Tryz.func139 rfl (by kernel_rfl) (cw_ ?_)
 exact hk
theorem nodup_take {L:List En} (hd:(L.map keyI).Nodup) {j:Nat} (hj:j<L.length):∀ x ∈ L.take j,keyI x≠keyI L[j]:=by
 intro x hx hh
 obtain ⟨i,hi⟩:=List.getElem?_of_mem hx
 have hi2:=(List.getElem?_eq_some_iff.1 hi).1
 rw [List.length_take] at hi2
 have hij:i<j:=by omega
 rw [List.getElem?_take_of_lt hij,List.getElem?_eq_getElem (by omega)] at hi
 cases hi
 have:=List.pairwise_iff_getElem.1 hd i j (by simp;omega) (by simpa using hj) hij
 simp only [List.getElem_map] at this
 exact this hh
set_option maxHeartbeats 8000000 in
set_option maxRecDepth 10000 in
theorem cloneT_x {c:Nat} {size:Int} {L:List En} (hg:Good size L) (h:Hp) (K:Value→Hp→Prop) (hT:TlbH h c size L)
  (hk:∀ c' h',h.le h'→TlbH (news h h') c' size L→K (.pointer (some ⟨c',0,none⟩)) h') :
  X Tryz.prog 75 #[.pointer (some ⟨c,0,none⟩)] h K:=by
 obtain ⟨m,b,om,age,ob,h0,h1,h2,h3,h4⟩:=hT
 have hsz:=hg.sz
 have hlen:=hg.len
 have hms:∃ es cl,om=.map es cl:=by obtain ⟨l,cl,e,_⟩:=h3;exact ⟨_,cl,e⟩
 obtain ⟨es,cl,hom⟩:=hms
 have hlenM:lenH Tryz.prog 176 h (.map (some m))=some (.int .i64 es.size):=by
  unfold lenH;rw [mapU];simp only [h2,hom]
 have hrd:∃ sa sc,age=.slice sa L.length sc∧∀ (i:Nat) (e:En),L[i]? = some e→∃ bb rest,sa=some ⟨bb,0,none⟩∧h bb=some (rowO 192 ((L.map keyI).flatMap Ky.cells++rest)):=by
  obtain ⟨g1,⟨_,e,g2⟩ | ⟨bb,cap,rest,e1,e2,g2,g3,g4⟩⟩:=h4
  ·refine ⟨none,0,by rw [e,g2],fun i e hi=>?_⟩
   obtain rfl:=List.eq_nil_of_length_eq_zero g2
   simp at hi
  ·exact ⟨_,cap,e2,fun i e hi=>⟨bb,rest,rfl,g4⟩⟩
 have hclone:∀ (hh:Hp) (K':Value→Hp→Prop),h.le hh→(∀ sa7 sc7 h' ob',hh.le h'→(∀ x,ob'=some x→hh x=none)→Gr h' 192 3 (.slice sa7 L.length sc7) L.length ((L.map keyI).flatMap Ky.cells) ob'→K' (.slice sa7 L.length sc7) h')→X Tryz.prog 139 #[age] hh K':=by
  intro hh K' hle hK
  obtain ⟨g1,⟨_,e,g2⟩ | ⟨bb,cap,rest,e1,e2,g2,g3,g4⟩⟩:=h4
  ·subst e
   have:=hK none 0 hh none (Hp.le_refl _) (fun _ hx=>by cases hx) ⟨g1,.inl ⟨rfl,by rw [g2],g2⟩⟩
   rw [g2] at this
   exact cloneKN_x _ _ this
  ·subst e2
   refine cloneK_x ⟨bb,0,none⟩ (L.map keyI) L.length cap (List.length_map _) hh K' (by omega) (fun j v hj=>?_) (fun s h' b' l1 l2 l3=>by
    rw [List.length_map] at l3
    obtain ⟨a7,c7,rfl⟩:=l3.shape
    exact hK a7 c7 h' (some b') l1 (fun x hx=>by cases hx;exact l2) l3)
   rw [addr_add,Nat.zero_add]
   exact cell_row (hle _ _ g4) (by rw [List.getElem?_append_left (List.getElem?_eq_some_iff.1 hj).1];exact hj)
 obtain ⟨sa,sc,rfl,hrow⟩:=hrd
 refine fnp (args:=_) mixed [(5,5)] [] [11] [(3,[0,1,2,3,4,5,6,7,8,10,11,12,13,14,9,15,16,17])] Tryz.func75 rfl (by kernel_rfl) (cw_ ?_)
 refine ⟨fun h'=>h.le h',fun _ _ a b=>Hp.le_trans a b,Hp.le_refl h,cw_ ?_⟩
 refine ⟨_,fun h' hh=>loadC0 aggI (hh _ _ h1) rfl,cw_ ?_⟩
 refine ⟨_,loadC (i:=1) aggM h1 rfl,cw_ ?_⟩
 refine ⟨_,hlenM,cw_ ?_⟩
 refine ⟨_,loadC (i:=2) aggS h1 rfl,cw_ ?_⟩
 refine hclone h _ (Hp.le_refl h) (fun sa7 sc7 h7 ob7 hle7 hn7 hg7=>?_)
 refine ⟨hle7,cw_ ?_⟩
 refine new_intro (o:=.map #[] 0) (fun m9 H9 n_m9 le_m9 at_m9 ot_m9=>cw_ ?_)
 refine new_intro (o:=rowO 179 [.int .i64 size,.map (some m9),.slice sa7 L.length sc7]) (fun c9 H0 n_c9 le_c9 at_c9 ot_c9=>cw_ ?_)
 have hleH:h.le H0:=Hp.le_trans hle7 (Hp.le_trans le_m9 le_c9)
 have hm0:h m9=none:=none_le hle7 n_m9
 have hc0:h c9=none:=none_le (Hp.le_trans hle7 le_m9) n_c9
 have hmc:m9≠c9:=fun e=>by subst e;rw [at_m9] at n_c9;cases n_c9
 have hob:∀ x,ob7=some x→x≠m9∧h x=none:=fun x hx=>And.intro (a:=x≠m9) (b:=h x=none) (fun e=>by
  subst e
  obtain ⟨_,⟨e,_⟩ | ⟨_,_,_,e,_,_,_,e2⟩⟩:=hg7
  ·rw [hx] at e;cases e
  ·rw [hx] at e;cases e;rw [n_m9] at e2;cases e2) (hn7 x hx)
 have hne:∀ x y,h x=some y→x≠m9:=fun x y e hh=>by subst hh;rw [hm0] at e;cases e
 refine ⟨_,loadC (i:=2) aggS (hleH _ _ h1) rfl,cw_ ?_⟩
 refine loop_at [30] [] (fun r vs _ h'=>∃ j:Nat,j≤L.length∧r=L.length - j∧vs=[.v (.int .i64 j)]∧(∀ x,x≠m9→h' x=H0 x)∧∃ om',h' m9=some om'∧MapO Ky.v (lookE (L.take j)) om') L.length ⟨0,by omega,by omega,rfl,fun _ _=>rfl,_,le_c9 _ _ at_m9,MapO.congr MapO.nil fun a=>rfl⟩ ?_
 rintro r vs cs mm bx h' ⟨j,hj,rfl,rfl,hag,om',hm',hmo⟩
 have hle':h.le h':=fun x o e=>(hag x (hne x o e)).trans (hleH _ _ e)
 conv=>whnf
 refine br_ (fun q1=>?_) fun q1=>?_
 ·have hjl:j<L.length:=by omega
  have hget:L[j]? = some L[j]:=List.getElem?_eq_getElem hjl
  have heL:L[j] ∈ L:=List.getElem_mem hjl
  have hro:=hrow j _ hget
  obtain ⟨bb,rest,rfl,hbb⟩:=hro
  have hsn:∀ k,putF (lookE (L.take j)) (keyI L[j]) (some L[j].v) k=lookE (L.take (j+1)) k:=fun k=>by
   rw [List.take_succ_eq_append_getElem hjl,lookE_snoc (nodup_take hg.dist hjl)]
  conv=>whnf
  refine n_ ?_
  refine ⟨_,loadK (k:=keyI L[j]) (hle' _ _ hbb) (by show (L.map keyI)[j]? = _;rw [List.getElem?_map,hget];rfl),?_⟩;conv=>whnf
  refine ⟨_,loadC (i:=1) aggM ((hag _ (Ne.symm hmc)).trans at_c9) rfl,cw_ ?_⟩
  refine ⟨_,loadC (i:=1) aggM (hle' _ _ h1) rfl,cw_ ?_⟩
  refine ⟨_,MapO.look mapU enZ kyT (hle' _ _ h2) h3 (keyI L[j]) false,cw_ ?_⟩
  rw [lookE_mem hg.dist heL]
  conv=>whnf
  have hob_:=MapO.upd mapU kyT hm' hmo (keyI L[j]) L[j].v
  obtain ⟨om5,hupd,k5⟩:=hob_
  refine wr_intro (by exact hupd) (fun H5 at_H5 ot_H5=>cw_ ?_)
  refine ⟨trivial,cw_ ?_⟩
  refine n_ ?_
  exact ⟨L.length - (j+1),by omega,j+1,by omega,rfl,rfl,fun x hx=>(ot_H5 x hx).trans (hag x hx),om5,at_H5,MapO.congr k5 hsn⟩
 ·obtain rfl:j=L.length:=by omega
  rw [List.take_length] at hmo
  conv=>whnf
  refine hk _ _ hle' ⟨m9,ob7.getD 0,om',.slice sa7 L.length sc7,ob7,fun x hx=>(by rw [hx];rfl),?_,?_,hmo,?_⟩
  ·rw [news_at hc0];exact (hag _ (Ne.symm hmc)).trans at_c9
  ·rw [news_at hm0];exact hm'
  ·exact ((hg7.le le_m9).le le_c9).agree fun x hx=>by rw [news_at (hob x hx).2];exact hag x (hob x hx).1
end Go.Proofs.YtdhlpighdlnohaaGreat.Tb
namespace Go.Proofs.YtdhlpighdlnohaaGreat.Tb
open Go Go.Mid Go.RowKit
theorem good_nil {size:Int} (h:1≤size∧size≤32):Good size []:=⟨h,by simp;omega,by simp,by simp,by simp⟩
theorem good_filter {size:Int} {L:List En} (g:Good size L) (q:En→Bool):Good size (L.filter q) :=
 ⟨g.sz,by have:=List.length_filter_le q L;have:=g.len;omega,fun e he=>g.ok e (List.mem_filter.1 he).1,fun e he=>g.lv e (List.mem_filter.1 he).1,g.dist.sublist (List.filter_sublist.map keyI)⟩
theorem good_tail {size:Int} {L:List En} (g:Good size L):Good size L.tail :=
 ⟨g.sz,by have:=g.len;simp;omega,fun e he=>g.ok e (List.mem_of_mem_tail he),fun e he=>g.lv e (List.mem_of_mem_tail he),g.dist.sublist ((List.tail_sublist L).map keyI)⟩
theorem fixE_page (e:En) (hl:0≤e.level∧e.level≤2):pageI (fixE e).page (fixE e).level=(fixE e).page:=pageI_page _ _
theorem good_add {size:Int} {L:List En} (g:Good size L) {e:En} (he:e.ok) (hv:0≤e.level∧e.level≤2∧0≤e.asid∧e.asid≤65535):Good size (addI size L e):=by
 unfold addI
 have g1:=good_filter g (fun x=>!decide (keyI x=keyI (fixE e)))
 have hk1:∀ x ∈ L.filter (fun x=>!decide (keyI x=keyI (fixE e))),keyI x≠keyI (fixE e):=fun x hx=>by simpa using (List.mem_filter.1 hx).2
 have hl1:=List.length_filter_le (fun x=>!decide (keyI x=keyI (fixE e))) L
 have hlt:(L.filter (fun x=>!decide (keyI x=keyI (fixE e)))).length=L.length∨(L.filter (fun x=>!decide (keyI x=keyI (fixE e)))).length<L.length:=by omega
 generalize L.filter (fun x=>!decide (keyI x=keyI (fixE e)))=L1 at *
 have hlen:=g.len
 have hsz:=g.sz
 have key:∀ L2:List En,Good size L2→(L2.length:Int)<size→(∀ x ∈ L2,keyI x≠keyI (fixE e))→Good size (L2++[fixE e]):=by
  intro L2 g2 hl2 hn
  refine ⟨g2.sz,by simp;omega,fun x hx=>?_,fun x hx=>?_,?_⟩
  ·rcases List.mem_append.1 hx with hx | hx
   ·exact g2.ok x hx
   ·simp only [List.mem_singleton] at hx;subst hx;exact ⟨pageI_u he.1,he.2⟩
  ·rcases List.mem_append.1 hx with hx | hx
   ·exact g2.lv x hx
   ·simp only [List.mem_singleton] at hx;subst hx;exact ⟨hv.1,hv.2.1,hv.2.2.1,hv.2.2.2,fixE_page e ⟨hv.1,hv.2.1⟩⟩
  ·rw [List.map_append,List.nodup_append]
   refine ⟨g2.dist,by simp,fun x hx y hy=>?_⟩
   obtain ⟨z,hz,rfl⟩:=List.mem_map.1 hx
   simp only [List.map_cons,List.map_nil,List.mem_singleton] at hy
   subst hy
   exact hn z hz
 show Good size ((if L1.length=L.length∧(L1.length:Int)=size then L1.tail else L1)++[fixE e])
 split
 ·rename_i hc
  exact key _ (good_tail g1) (by simp;omega) fun x hx=>hk1 x (List.mem_of_mem_tail hx)
 ·rename_i hc
  refine key _ g1 ?_ hk1
  rcases hlt with h | h
  ·have:¬ (L1.length:Int)=size:=fun hh=>hc ⟨h,hh⟩
   omega
  ·omega
end Go.Proofs.YtdhlpighdlnohaaGreat.Tb
namespace Go.Proofs.YtdhlpighdlnohaaGreat
open Go Go.Mid Go.RowKit Go.Bits
attribute [local irreducible] mid
def toE (e:En):Tb.En:=⟨e.asid,e.page,e.level,e.pte⟩
def ofE (e:Tb.En):En:=⟨e.asid,e.page.toNat,e.level,e.pte.toNat⟩
def toQ (q:Rq):Tb.Rq:=⟨q.s,q.v,q.a,q.va,q.asid⟩
theorem of_to (e:En):ofE (toE e)=e:=by cases e;simp [ofE,toE]
theorem to_of {e:Tb.En} (h:e.ok):toE (ofE e)=e:=by
 obtain ⟨h1,h2,h3⟩:=h
 cases e
 simp only [ofE,toE,Tb.En.mk.injEq,true_and] at *
 omega
def tbT:TlbF:=⟨fun L a va=>(Tb.findI (L.map toE) a va).map ofE,fun n L e=>(Tb.addI n (L.map toE) (toE e)).map ofE,fun q e=>Tb.forgI (toQ q) (toE e)⟩
theorem toE_filter (q:Rq) (L:List En):(L.filter fun e=>!tbT.forgets q e).map toE=(L.map toE).filter fun e=>!Tb.forgI (toQ q) e:=by
 induction L with
 | nil=>rfl
 | cons a L ih =>
  rw [List.map_cons,List.filter_cons,List.filter_cons,← ih]
  show List.map toE (if (!Tb.forgI (toQ q) (toE a))=true then _ else _)=_
  cases Tb.forgI (toQ q) (toE a) <;> rfl
theorem toE_ofE:∀ (L:List Tb.En),(∀ e ∈ L,e.ok)→(L.map ofE).map toE=L
 | [],_=>rfl
 | e :: L,h=>by
  rw [List.map_cons,List.map_cons,to_of (h e (List.mem_cons_self ..)),toE_ofE L fun x hx=>h x (List.mem_cons_of_mem _ hx)]
abbrev akT:TypeId := 80
structure Ef.ok (e:Ef):Prop where
 value:e.value<2 ^ 64
 next:e.next<2 ^ 64
 tval:e.tval<2 ^ 64
 va:e.va<2 ^ 64
 data:e.data<2 ^ 64
 access:e.access=0∨e.access=1∨e.access=2
 size:0≤e.size∧e.size≤8
structure Hd.inv (H:Hd):Prop where
 ok:H.ok
 T:Tb.Good H.c.tlb (H.L.map toE)
 cr:wrightB H.c=true
 id:0≤H.id∧H.id<H.c.harts
 w:H.t.wk.ok
 wa:H.t.wk.q.access=0∨H.t.wk.q.access=1∨H.t.wk.q.access=2
 word:H.t.word<4294967296
 lines:H.t.lines<2 ^ 64
 e:H.t.e.ok
 addr:H.t.ask.addr<2 ^ 64
 next:H.t.ask.next<2 ^ 64
 cut:0≤H.t.ask.cut∧H.t.ask.cut≤H.t.ask.size
 size:0≤H.t.ask.size∧H.t.ask.size≤8
 mask:H.t.shot.mask<2 ^ 64
 nx:0≤H.t.shot.next∧H.t.shot.next≤7
theorem wk0_ok:Wk.zero.ok:=⟨by decide,by decide,by decide,by decide,by decide⟩
theorem ef0_ok:Ef.zero.ok:=⟨by decide,by decide,by decide,by decide,by decide,.inl rfl,by decide⟩
structure HaN (k h:Hp) (b:Nat) (H:Hd):Prop where
 le:k.le h
 nb:k b=none
 inv:H.inv
 go:∃ c s g ob,HaR h b H c s∧g.le h∧Tb.TlbH g c H.c.tlb (H.L.map toE)∧Gr h akT 19 s H.told.length (H.told.flatMap Ak.cs) ob∧Apart k g∧g b=none∧∀ x,ob=some x→k x=none∧x≠b∧g x=none
theorem HaN.row {k h:Hp} {b:Nat} {H:Hd} (n:HaN k h b H):∃ c s,HaR h b H c s∧Tb.TlbH h c H.c.tlb (H.L.map toE)∧∀ h' H',HaR h' b H' c s→(∀ d x,d≠b→h d=some x→h' d=some x)→H'.inv→H'.L=H.L→H'.told=H.told→H'.c=H.c→HaN k h' b H':=by
 obtain ⟨c,s,g,ob,r,hg,ht,hs,ap,gb,ho⟩:=n.go
 refine ⟨c,s,r,ht.le hg,fun h' H' r' oth i e1 e2 e3=>?_⟩
 refine ⟨fun d x e=>oth d x (fun hd=>by subst hd;rw [n.nb] at e;cases e) (n.le d x e),n.nb,i,c,s,g,ob,r',fun d x e=>oth d x (fun hd=>by subst hd;rw [gb] at e;cases e) (hg d x e),by rw [e1,e3];exact ht,?_,ap,gb,ho⟩
 rw [e2]
 obtain ⟨g1,⟨e,g2⟩ | ⟨y,cap,rest,e,g2,g3,g4,g5⟩⟩:=hs
 ·exact ⟨g1,.inl ⟨e,g2⟩⟩
 ·exact ⟨g1,.inr ⟨y,cap,rest,e,g2,g3,g4,oth y _ (ho y e).2.1 g5⟩⟩
theorem HaN.up {k h h':Hp} {b:Nat} {H:Hd} (n:HaN k h b H) (hle:h.le h'):HaN k h' b H:=by
 obtain ⟨c,s,r,_,f⟩:=n.row
 exact f h' H (hle _ _ r) (fun d x _ e=>hle d x e) n.inv rfl rfl rfl
theorem HaN.weak {k k2 h:Hp} {b:Nat} {H:Hd} (n:HaN k h b H) (hle:k2.le k):HaN k2 h b H:=by
 obtain ⟨c,s,g,ob,r,hg,ht,hs,ap,gb,ho⟩:=n.go
 exact ⟨Hp.le_trans hle n.le,Hp.none_le hle n.nb,n.inv,c,s,g,ob,r,hg,ht,hs,ap.le hle,gb,fun x e=>⟨Hp.none_le hle (ho x e).1,(ho x e).2⟩⟩
section
variable {k h:Hp} {K:Value→Hp→Prop} {b:Nat} {H:Hd}
theorem infAk:Tryz.prog.info? akT=some Tryz.prog.types[akT]:=by kernel_rfl
theorem sizSa:sizeT Tryz.prog 83 = some 1:=by kernel_rfl
theorem aggSa:isAggT Tryz.prog 83 = some false:=by kernel_rfl
theorem ak_len (a:Ak):a.cs.length=19:=rfl
theorem ak_one (a:Ak):a.cs.all Value.oneCell'=true:=rfl
def Hp.but (h:Hp) (ob:Option Nat):Hp:=fun d=>if ob=some d then none else h d
theorem Hp.but_le (h:Hp) (ob:Option Nat):(Hp.but h ob).le h:=fun d x e=>by
 unfold Hp.but at e
 split at e
 ·cases e
 ·exact e
theorem Hp.but_at {h:Hp} {ob:Option Nat} {d:Nat} (hd:ob≠some d):Hp.but h ob d=h d:=if_neg hd
theorem Hp.but_no {h:Hp} {ob:Option Nat} {d:Nat} {x:Obj} (e:Hp.but h ob d=none) (hx:h d=some x):ob=some d:=by
 unfold Hp.but at e
 split at e
 ·assumption
 ·rw [hx] at e;cases e
theorem hnote_x (n:HaN k h b H) (a:Ak) (hl:H.told.length≤2 ^ 20) (hk:∀ h',HaN k h' b (H.note a)→K (.tuple #[]) h'):X Tryz.prog 153 #[.pointer (some ⟨b,0,none⟩),.agg a.cs.toArray] h K:=by
 obtain ⟨c,s,g,ob,r,hg,ht,hs,ap,gb,ho⟩:=n.go
 have o:=n.inv.ok
 obtain ⟨sa,sc,rfl⟩:=hs.shape
 refine fnv (args:=_) mixed [] [] [] Tryz.func153 rfl (by kernel_rfl) (cw_ ?_)
 refine new_intro (o:=rowO akT a.cs) (fun z h1 n_z le_z at_z ot_z=>cw_ ?_)
 have r1:HaR h1 b H c _:=le_z _ _ r
 refine ⟨_,(r1.z o.len).ld 70 aggSa rfl,cw_ ?_⟩
 refine ⟨_,loadA0 aggAk sizAk at_z (ak_len a),cw_ ?_⟩
 refine new_intro (o:=_) (fun y h2 n_y le_y at_y ot_y=>cw_ ?_)
 have at_y':h2 y=some (rowO akT a.cs):=at_y.trans (by kernel_rfl)
 have hle2:h.le h2:=Hp.le_trans le_z le_y
 have hO:Owns (Hp.but h2 ob) h2 akT 19 (.slice sa H.told.length sc) H.told.length (H.told.flatMap Ak.cs):=⟨ob,hs.le hle2,Hp.but_le h2 ob,fun d e=>if_pos e⟩
 refine Owns.app1 (z:=.agg Ak.zero.cs.toArray) (by kernel_rfl) infAk (by kernel_rfl) (by kernel_rfl) (by kernel_rfl) rfl (bytes:=136) (by decide) rfl rfl rfl hO at_y' rfl rfl (by omega) fun s3 h3 hO3=>(cw_ ?_)
 refine ⟨trivial,cw_ ?_⟩
 have r3:HaR h3 b H c _:=hO3.le _ _ ((Hp.but_at (fun e=>(ho b e).2.1 rfl)).trans (le_y _ _ r1))
 refine wr_intro (by exact (r3.z o.len).st 70 sizSa (by show 70<71;decide) (Owns.val hO3).1 (Owns.val hO3).2) (fun h4 at_h4 ot_h4=>cw_ ?_)
 refine ⟨trivial,cw_ ?_⟩
 have r4:HaR h4 b (H.note a) c s3:=HaR.ofZ (H:=H) (H':=H.note a) rfl ⟨at_h4,o.len⟩
 obtain ⟨ob3,g3,hle3,hn3⟩:=hO3
 have hkeep:∀ d x,d≠b→ob≠some d→h d=some x→h4 d=some x:=fun d x hd hd2 e=>by
  rw [ot_h4 d hd]
  exact hle3 d x ((Hp.but_at hd2).trans (hle2 d x e))
 have hnot:∀ y,ob3=some y→∀ x,h y=some x→ob=some y:=fun y e x hx=>Hp.but_no (hn3 y e) (hle2 y x hx)
 refine hk h4 ⟨fun d x e=>hkeep d x (fun hd=>by subst hd;rw [n.nb] at e;cases e) (fun hd=>by rw [(ho d hd).1] at e;cases e) (n.le d x e),n.nb,⟨⟨o.r,o.rw,o.f,o.pc⟩,n.inv.T,n.inv.cr,n.inv.id,n.inv.w,n.inv.wa,n.inv.word,n.inv.lines,n.inv.e,n.inv.addr,n.inv.next,n.inv.cut,n.inv.size,n.inv.mask,n.inv.nx⟩,c,s3,g,ob3,r4,fun d x e=>hkeep d x (fun hd=>by subst hd;rw [gb] at e;cases e) (fun hd=>by rw [(ho d hd).2.2] at e;cases e) (hg d x e),ht,?_,ap,gb,fun y e=>?_⟩
 ·have:Gr h4 akT 19 s3 (H.told.length+1) (H.told.flatMap Ak.cs++a.cs) ob3:=g3.agree fun x hx=>ot_h4 x fun hxb=>by
   subst hxb
   exact (ho x (hnot x hx _ r)).2.1 rfl
  show Gr h4 akT 19 s3 (H.told++[a]).length ((H.told++[a]).flatMap Ak.cs) ob3
  rw [List.length_append,List.flatMap_append,List.flatMap_cons,List.flatMap_nil,List.append_nil]
  exact this
 ·refine ⟨?_,fun hxb=>?_,?_⟩
  ·cases hq:k y with
   | none=>rfl
   | some x=>rw [(ho y (hnot y e x (n.le y x hq))).1] at hq;cases hq
  ·subst hxb
   exact (ho y (hnot y e _ r)).2.1 rfl
  ·cases hq:g y with
   | none=>rfl
   | some x=>rw [(ho y (hnot y e x (hg y x hq))).2.2] at hq;cases hq
theorem HaN.cache (n:HaN k h b H):∃ c s g,HaR h b H c s∧g.le h∧Tb.TlbH g c H.c.tlb (H.L.map toE)∧∀ g' h' L',Turned h g h' g'→Tb.TlbH g' c H.c.tlb (L'.map toE)→Tb.Good H.c.tlb (L'.map toE)→HaN k h' b { H with L:=L' }:=by
 obtain ⟨c,s,g,ob,r,hg,ht,hs,ap,gb,ho⟩:=n.go
 refine ⟨c,s,g,r,hg,ht,fun g' h' L' u ht' hG=>?_⟩
 have o1:=u.other n.le ap
 have ob1:=u.other (Hp.one_le r) (Hp.one_apart gb)
 have i:=n.inv
 refine ⟨o1.1,n.nb,⟨⟨i.ok.r,i.ok.rw,i.ok.f,i.ok.pc⟩,hG,i.cr,i.id,i.w,i.wa,i.word,i.lines,i.e,i.addr,i.next,i.cut,i.size,i.mask,i.nx⟩,c,s,g',ob,ob1.1 _ _ (Hp.one_at _ _),u.le,ht',?_,o1.2,ob1.2 _ _ (Hp.one_at _ _),fun x e=>⟨(ho x e).1,(ho x e).2.1,?_⟩⟩
 ·obtain ⟨g1,⟨e,g2⟩ | ⟨y,cap,rest,e,g2,g3,g4,g5⟩⟩:=hs
  ·exact ⟨g1,.inl ⟨e,g2⟩⟩
  ·exact ⟨g1,.inr ⟨y,cap,rest,e,g2,g3,g4,u.kept y _ g5 (ho y e).2.2⟩⟩
 ·obtain ⟨g1,⟨e',g2⟩ | ⟨y,cap,rest,e',g2,g3,g4,g5⟩⟩:=hs
  ·rw [e'] at e;cases e
  ·rw [e'] at e
   cases e
   exact (u.other (Hp.one_le g5) (Hp.one_apart (ho _ e').2.2)).2 _ _ (Hp.one_at _ _)
theorem aggTp:isAggT Tryz.prog 115 = some false:=by kernel_rfl
theorem hforget_x (n:HaN k h b H) (q:Rq) (hq:q.ok) (hl:H.told.length≤2 ^ 20) (hk:∀ h',HaN k h' b (H.forget tbT q)→K (.tuple #[]) h'):X Tryz.prog 90 #[.pointer (some ⟨b,0,none⟩),.agg q.cs.toArray] h K:=by
 obtain ⟨c,s,g,r,hg,ht,put⟩:=n.cache
 have o:=n.inv.ok
 refine fnv (args:=_) mixed [(3,3)] [] [] Tryz.func90 rfl (by kernel_rfl) (cw_ ?_)
 refine ⟨_,(r.z o.len).ld 2 aggTp rfl,cw_ ?_⟩
 refine X.frame hg (Tb.forget_x n.inv.T (r:=toQ q) ⟨by show (0:Int)≤(q.va:Nat);omega,by have:=hq.va;show ((q.va:Nat):Int)<2 ^ 64;omega⟩ g (fun v g'=>(∃ m:Int,v=.int .i64 m)∧Tb.TlbH g' c H.c.tlb ((H.L.map toE).filter fun e=>!Tb.forgI (toQ q) e)) ht fun g' tg=>⟨⟨_,rfl⟩,tg⟩) fun v g' h1 hp u=>?_
 obtain ⟨⟨m,rfl⟩,tg⟩:=hp
 rw [← toE_filter] at tg
 have n1:=put g' h1 _ u tg (by rw [toE_filter];exact Tb.good_filter n.inv.T _)
 refine ⟨trivial,cw_ ?_⟩
 obtain ⟨s1,s2,s3,s4,s5⟩:=q
 refine big_by (v:=.agg (Ak.cs { Ak.zero with kind:=17,req:=⟨s1,s2,s3,s4,s5⟩ }).toArray) (by kernel_rfl) (cw_ ?_)
 refine hnote_x n1 _ hl fun h2 n2=>(cw_ ?_)
 exact hk h2 n2
end
end Go.Proofs.YtdhlpighdlnohaaGreat
