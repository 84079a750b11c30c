/-
  Orders: which orders may be.
-/
import Derived.Test.YtnjlneefddlaoaaGreatOrA
import Derived.Test.YtnjlneefddlaoaaGreatMidX
import Derived.Sort.AssemblyPlain
set_option linter.unusedSimpArgs false
set_option linter.unusedVariables false
set_option maxHeartbeats 8000000
set_option maxRecDepth 10000
set_option linter.unusedSimpArgs false
set_option linter.unusedVariables false
namespace Go.Proofs.YtnjlneefddlaoaaGreat
open Go Go.Mid Go.RowKit
attribute [local irreducible] mid
def extP (L:List Ev) (o:List Int):Prop:=o.length=L.length∧∀ (i:Nat) (a:Int),o[i]? = some a→(0≤a∧a<L.length)∧∀ (k:Nat) (c:Int),k<i→o[k]? = some c→c≠a∧mustB L a c=false
abbrev zi (n:Int):Value:=.int .i64 n
abbrev RdN (h:Hp) (s:Value) (L:List Int):Prop:=Rd Tryz.prog 3 1 h s (L.map zi)
theorem rdN {h:Hp} {s:Value} {L:List Int} (r:RdN h s L):∃ base cap,s=.slice base L.length cap∧∀ (i:Nat) (x:Int),L[i]? = some x→∃ a,base=some a∧loadH Tryz.prog 3 h (a.add (i*1))=some (zi x):=by
 obtain ⟨base,cap,e,f⟩:=r
 refine ⟨base,cap,by rw [e,List.length_map],fun i x hx=>f i _ ?_⟩
 rw [List.getElem?_map,hx];rfl
section
variable {h:Hp} {K:Value→Hp→Prop}
theorem sizI6:sizeT Tryz.prog 3 = some 1:=by kernel_rfl
theorem rext_x (s t:Value) (L:List Ev) (o:List Int) (hL:RdE h s L) (ho:RdN h t o) (hl:L.length≤2 ^ 30) (hl2:o.length≤2 ^ 40) (hk:∀ b:Bool,(b=true↔extP L o)→K (.bool b) h):X Tryz.prog 13 #[s,t] h K:=by
 obtain ⟨b2,c2,rfl,f2⟩:=rdN ho
 obtain ⟨b1,c1,e1,f1⟩:=rdE hL
 subst e1
 have hno:¬ extP L o→K (.bool false) h:=fun hn=>hk false (by simp [hn])
 refine fnv (args:=_) mixed [] [] [] Tryz.func13 rfl (by kernel_rfl) (cw_ ?_)
 refine br_ (fun q1=>?_) fun q1=>?_
 ·conv=>whnf
  exact hno fun e=>q1 (by rw [e.1])
 have hlen:o.length=L.length:=by omega
 conv=>whnf
 refine loop_at [5] [] (fun r vs cs h'=>h=h'∧∃ i:Nat,i≤o.length∧r=o.length - i∧vs=[.v (zi i)]∧∀ (j:Nat) (a:Int),j<i→o[j]? = some a→(0≤a∧a<L.length)∧∀ (k:Nat) (c:Int),k<j→o[k]? = some c→c≠a∧mustB L a c=false) o.length ⟨rfl,0,by omega,by omega,rfl,fun j a hj=>by omega⟩ ?_
 rintro r vs cs mm bx _ ⟨rfl,i,hi,rfl,rfl,hg⟩
 conv=>whnf
 refine br_ (fun q2=>?_) fun q2=>?_
 ·obtain ⟨a,ha⟩:∃ a,o[i]? = some a:=⟨_,List.getElem?_eq_getElem (by omega)⟩
  obtain ⟨ab,rfl,la⟩:=f2 i a ha
  have la:loadH Tryz.prog 3 h (ab.add (((i:Nat):Int).toNat*1))=some (zi a):=by rw [Int.toNat_natCast];exact la
  conv=>whnf
  refine n_ ?_
  refine ⟨_,la,cw_ ?_⟩
  refine br_ (fun q3=>?_) fun q3=>?_
  ·conv=>whnf
   exact hno fun e=>by have:=(e.2 i a ha).1;omega
  conv=>whnf
  refine n_ ?_
  refine ⟨_,la,cw_ ?_⟩
  refine br_ (fun q4=>?_) fun q4=>?_
  ·conv=>whnf
   exact hno fun e=>by have:=(e.2 i a ha).1;omega
  conv=>whnf
  refine loop_at [6] [] (fun r vs cs h'=>h=h'∧∃ k:Nat,k≤i∧r=i - k∧vs=[.v (zi k)]∧∀ (j:Nat) (c:Int),j<k→o[j]? = some c→c≠a∧mustB L a c=false) i ⟨rfl,0,by omega,by omega,rfl,fun j a hj=>by omega⟩ ?_
  rintro r vs cs mm2 bx2 _ ⟨rfl,k,hki,rfl,rfl,hg2⟩
  conv=>whnf
  refine br_ (fun q5=>?_) fun q5=>?_
  ·obtain ⟨c,hc⟩:∃ c,o[k]? = some c:=⟨_,List.getElem?_eq_getElem (by omega)⟩
   obtain ⟨ab2,e2,lc⟩:=f2 k c hc
   cases e2
   have lc:loadH Tryz.prog 3 h (ab.add (((k:Nat):Int).toNat*1))=some (zi c):=by rw [Int.toNat_natCast];exact lc
   conv=>whnf
   refine n_ ?_
   refine ⟨_,lc,cw_ ?_⟩
   refine n_ ?_
   refine ⟨_,la,cw_ ?_⟩
   refine br_ (fun q6=>?_) fun q6=>?_
   ·conv=>whnf
    exact hno fun e=>((e.2 i a ha).2 k c (by omega) hc).1 q6
   conv=>whnf
   refine n_ ?_
   refine ⟨_,la,cw_ ?_⟩
   refine n_ ?_
   refine ⟨_,lc,cw_ ?_⟩
   refine rmust_x _ L hL a c ?_
   cases hm:mustB L a c with
   | true =>
    refine ⟨trivial,cw_ ?_⟩
    exact hno fun e=>by have:=((e.2 i a ha).2 k c (by omega) hc).2;rw [hm] at this;cases this
   | false =>
    refine ⟨trivial,cw_ ?_⟩
    refine n_ ?_
    refine ⟨i - (k+1),by omega,rfl,k+1,by omega,rfl,rfl,fun j d hj hd=>?_⟩
    by_cases e:j=k
    ·subst e;rw [hc] at hd;cases hd;exact ⟨q6,hm⟩
    ·exact hg2 j d (by omega) hd
  ·conv=>whnf
   refine n_ ?_
   refine ⟨o.length - (i+1),by omega,rfl,i+1,by omega,rfl,rfl,fun j d hj hd=>?_⟩
   by_cases e:j=i
   ·subst e;rw [ha] at hd;cases hd;exact ⟨⟨by omega,by omega⟩,fun k' c hk' hc=>hg2 k' c (by omega) hc⟩
   ·exact hg j d (by omega) hd
 ·conv=>whnf
  exact hk true ⟨fun _=>⟨hlen,fun i' a ha=>hg i' a (by have:=(List.getElem?_eq_some_iff.1 ha).1;omega) ha⟩,fun _=>rfl⟩
theorem ext_x (s t:Value) (L:List Ev) (o:List Int) (hL:RdE h s L) (ho:RdN h t o) (hcap:∀ b n c,t=.slice b n c→n≤c) (hl:L.length≤2 ^ 20) (hl2:o.length≤2 ^ 40) (hk:∀ b:Bool,(b=true↔extP L o)→K (.bool b) h):X Tryz.prog 12 #[s,t] h K:=by
 obtain ⟨b2,c2,rfl,f2⟩:=rdN ho
 have hcap:=hcap _ _ _ rfl
 obtain ⟨b1,c1,e1,f1⟩:=rdE hL
 subst e1
 refine X.forget ?_
 have hno:∀ h',h.le h'→¬ extP L o→∃ g:Hp,g.le h'∧K (.bool false) g:=fun h' hle hn=>⟨h,hle,hk false (by simp [hn])⟩
 refine fnv (args:=_) mixed [] [] [] Tryz.func12 rfl (by kernel_rfl) (cw_ ?_)
 refine br_ (fun q1=>?_) fun q1=>?_
 ·conv=>whnf
  exact hno h (Hp.le_refl _) fun e=>q1 (by rw [e.1])
 have hlen:o.length=L.length:=by omega
 conv=>whnf
 refine aRunK_if rfl ⟨by omega,by omega,by omega,by show (8:Int)*_≤_;omega,by decide⟩ ?_
 refine new_intro (o:=_) (fun sb h1 n_sb le_sb at_sb ot_sb=>?_)
 have at_sb:h1 sb=some (rowO 3 ((List.replicate L.length (0:Int)).map zi)):=by
  refine at_sb.trans ?_
  show some (Obj.cells (zeroRow #[.int .i64 0] ((((L.length:Nat):Int)).toNat*1)) _ _)=_
  rw [zeroRow_one,Int.toNat_natCast,Nat.mul_one,List.map_replicate]
 have le0:∀ h',(∀ c,c≠sb→h' c=h1 c)→h.le h':=fun h' e c ob hc=>by
  rw [e c (Hp.ne n_sb hc)];exact le_sb _ _ hc
 conv=>whnf
 refine loop_at [20] [] (fun r vs cs h'=>∃ (i:Nat) (S:List Int),i≤o.length∧r=o.length - i∧vs=[.v (zi i)]∧S.length=L.length∧h' sb=some (rowO 3 (S.map zi))∧(∀ c,c≠sb→h' c=h1 c)∧(∀ (a:Nat) (z:Int),S[a]? = some z→(0<z↔∃ k,k<i∧o[k]? = some (a:Int)))∧∀ (j:Nat) (a:Int),j<i→o[j]? = some a→(0≤a∧a<L.length)∧∀ (k:Nat) (c:Int),k<j→o[k]? = some c→c≠a∧mustB L a c=false) o.length ⟨0,List.replicate L.length 0,by omega,by omega,rfl,by simp,at_sb,fun _ _=>rfl,fun a z hz=>by
  have:z=0:=by rw [List.getElem?_replicate] at hz;split at hz <;> cases hz;rfl
  subst this
  exact ⟨fun e=>absurd e (by decide),fun ⟨k,hk,_⟩=>by omega⟩,fun j a hj=>by omega⟩ ?_
 rintro r vs cs mm bx h2 ⟨i,S,hi,rfl,rfl,hS,at2,ot2,hm,hg⟩
 have le2:=le0 h2 ot2
 conv=>whnf
 refine br_ (fun q2=>?_) fun q2=>?_
 ·obtain ⟨a,ha⟩:∃ a,o[i]? = some a:=⟨_,List.getElem?_eq_getElem (by omega)⟩
  obtain ⟨ab,rfl,la⟩:=f2 i a ha
  have la:loadH Tryz.prog 3 h2 (ab.add (((i:Nat):Int).toNat*1))=some (zi a):=by rw [Int.toNat_natCast];exact loadH_le le2 la
  conv=>whnf
  refine n_ ?_
  refine ⟨_,la,cw_ ?_⟩
  refine br_ (fun q3=>?_) fun q3=>?_
  ·conv=>whnf
   exact hno h2 le2 fun e=>by have:=(e.2 i a ha).1;omega
  conv=>whnf
  refine br_ (fun q4=>?_) fun q4=>?_
  ·conv=>whnf
   exact hno h2 le2 fun e=>by have:=(e.2 i a ha).1;omega
  obtain ⟨n,rfl⟩:∃ n:Nat,a=n:=⟨a.toNat,by omega⟩
  obtain ⟨z,hz⟩:∃ z,S[n]? = some z:=⟨_,List.getElem?_eq_getElem (by omega)⟩
  conv=>whnf
  refine n_ ?_
  refine ⟨_,loadI (j:=n) aggIn at2 rfl (by rw [List.getElem?_map,hz];rfl),?_⟩;conv=>whnf
  refine br_ (fun q5=>?_) fun q5=>?_
  ·conv=>whnf
   exact hno h2 le2 fun e=>by
    obtain ⟨k,hk1,hk2⟩:=(hm n z hz).1 q5
    exact ((e.2 i n ha).2 k n hk1 hk2).1 rfl
  have hnew:∀ k,k<i→o[k]? ≠ some (n:Int):=fun k hk1 hk2=>q5 ((hm n z hz).2 ⟨k,hk1,hk2⟩)
  conv=>whnf
  refine n_ ?_
  refine n_ ?_
  refine wr_intro (by exact storeI sizI6 at2 (j:=n) rfl (by rw [List.length_map];omega) rfl rfl) (fun h3 at_h3 ot_h3=>cw_ ?_)
  have at3:h3 sb=some (rowO 3 ((S.set n ((i:Int)+1)).map zi)):=at_h3.trans (by show some (rowO _ ((S.map zi).set n (zi ((i:Int)+1))))=_;rw [List.map_set])
  have ot3:∀ c,c≠sb→h3 c=h1 c:=fun c hc=>(ot_h3 c hc).trans (ot2 c hc)
  have le3:=le0 h3 ot3
  refine n_ ?_
  refine bf_ ?_
  refine loop_at [49] [] (fun r vs cs h'=>h3=h'∧∃ k:Nat,k≤i∧r=i - k∧vs=[.v (zi k)]∧∀ (j:Nat) (c:Int),j<k→o[j]? = some c→c≠n∧mustB L n c=false) i ⟨rfl,0,by omega,by omega,rfl,fun j a hj=>by omega⟩ ?_
  rintro r vs cs mm2 bx2 _ ⟨rfl,k,hki,rfl,rfl,hg2⟩
  conv=>whnf
  refine br_ (fun q6=>?_) fun q6=>?_
  ·obtain ⟨c,hc⟩:∃ c,o[k]? = some c:=⟨_,List.getElem?_eq_getElem (by omega)⟩
   obtain ⟨ab2,e2,lc⟩:=f2 k c hc
   cases e2
   have lc:loadH Tryz.prog 3 h3 (ab.add (((k:Nat):Int).toNat*1))=some (zi c):=by rw [Int.toNat_natCast];exact loadH_le le3 lc
   conv=>whnf
   refine n_ ?_
   refine ⟨_,lc,cw_ ?_⟩
   refine must_x _ L (hL.le le3) n c ?_
   cases hmu:mustB L n c with
   | true =>
    conv=>whnf
    exact hno h3 le3 fun e=>by have:=((e.2 i n ha).2 k c (by omega) hc).2;rw [hmu] at this;cases this
   | false =>
    conv=>whnf
    refine n_ ?_
    refine ⟨i - (k+1),by omega,rfl,k+1,by omega,rfl,rfl,fun j d hj hd=>?_⟩
    by_cases e:j=k
    ·subst e;rw [hc] at hd;cases hd;exact ⟨fun e=>hnew j (by omega) (by rw [hc,e]),hmu⟩
    ·exact hg2 j d (by omega) hd
  ·conv=>whnf
   refine n_ ?_
   refine ⟨o.length - (i+1),by omega,i+1,S.set n ((i:Int)+1),by omega,rfl,rfl,by rw [List.length_set];exact hS,at3,ot3,fun a z2 hz2=>?_,fun j d hj hd=>?_⟩
   ·by_cases e:a=n
    ·subst e
     rw [List.getElem?_set_self (by omega)] at hz2
     cases hz2
     exact ⟨fun _=>⟨i,by omega,ha⟩,fun _=>by omega⟩
    ·rw [List.getElem?_set_ne (Ne.symm e)] at hz2
     rw [hm a z2 hz2]
     refine ⟨fun ⟨k',h1,h2⟩=>⟨k',by omega,h2⟩,fun ⟨k',h1,h2⟩=>⟨k',?_,h2⟩⟩
     by_cases e2:k'=i
     ·subst e2;rw [ha] at h2;injection h2 with h2;omega
     ·omega
   ·by_cases e:j=i
    ·subst e;rw [ha] at hd;cases hd;exact ⟨⟨by omega,by omega⟩,fun k' c hk' hc=>hg2 k' c (by omega) hc⟩
    ·exact hg j d (by omega) hd
 ·conv=>whnf
  exact ⟨h,le2,hk true ⟨fun _=>⟨hlen,fun i' a ha=>hg i' a (by have:=(List.getElem?_eq_some_iff.1 ha).1;omega) ha⟩,fun _=>rfl⟩⟩
end
end Go.Proofs.YtnjlneefddlaoaaGreat
