/-
  Orders: which orders may be.
-/
import Derived.Test.YtnjlneefddlaoaaGreatOrA
import Derived.Test.YtnjlneefddlaoaaGreatMidY
import Derived.Sort.AssemblyPlain
set_option linter.unusedSimpArgs false
set_option linter.unusedVariables false
set_option maxHeartbeats 8000000
set_option maxRecDepth 10000
set_option linter.unusedSimpArgs false
set_option linter.unusedVariables false
namespace Go.Proofs.YtnjlneefddlaoaaGreat
open Go Go.Mid Go.RowKit
attribute [local irreducible] mid
def extP (L:List Ev) (o:List Int):Prop:=o.length=L.length∧∀ (i:Nat) (a:Int),o[i]? = some a→(0≤a∧a<L.length)∧∀ (k:Nat) (c:Int),k<i→o[k]? = some c→c≠a∧mustB L a c=false
abbrev zi (n:Int):Value:=.int .i64 n
abbrev RdN (h:Hp) (s:Value) (L:List Int):Prop:=Rd Tryz.prog 3 1 h s (L.map zi)
theorem rdN {h:Hp} {s:Value} {L:List Int} (r:RdN h s L):∃ base cap,s=.slice base L.length cap∧∀ (i:Nat) (x:Int),L[i]? = some x→∃ a,base=some a∧loadH Tryz.prog 3 h (a.add (i*1))=some (zi x):=by
 obtain ⟨base,cap,e,f⟩:=r
 refine ⟨base,cap,by rw [e,List.length_map],fun i x hx=>f i _ ?_⟩
 rw [List.getElem?_map,hx];rfl
section
variable {h:Hp} {K:Value→Hp→Prop}
theorem sizI6:sizeT Tryz.prog 3 = some 1:=by kernel_rfl
theorem rext_x (s t:Value) (L:List Ev) (o:List Int) (hL:RdE h s L) (ho:RdN h t o) (hl:L.length≤2 ^ 30) (hl2:o.length≤2 ^ 40) (hk:∀ b:Bool,(b=true↔extP L o)→K (.bool b) h):X Tryz.prog 13 #[s,t] h K:=by
 obtain ⟨b2,c2,rfl,f2⟩:=rdN ho
 obtain ⟨b1,c1,e1,f1⟩:=rdE hL
 subst e1
 have hno:¬ extP L o→K (.bool false) h:=fun hn=>hk false (by simp [hn])
 refine fnv (args:=_) mixed [] [] [] Tryz.func13 rfl (by kernel_rfl) (cw_ ?_)
 refine br_ (fun q1=>?_) fun q1=>?_
 ·conv=>whnf
  exact hno fun e=>q1 (by rw [e.1])
 have hlen:o.length=L.length:=by omega
 conv=>whnf
 refine loop_at [5] [] (fun r vs cs h'=>h=h'∧∃ i:Nat,i≤o.length∧r=o.length - i∧vs=[.v (zi i)]∧∀ (j:Nat) (a:Int),j<i→o[j]? = some a→(0≤a∧a<L.length)∧∀ (k:Nat) (c:Int),k<j→o[k]? = some c→c≠a∧mustB L a c=false) o.length ⟨rfl,0,by omega,by omega,rfl,fun j a hj=>by omega⟩ ?_
 rintro r vs cs mm bx _ ⟨rfl,i,hi,rfl,rfl,hg⟩
 conv=>whnf
 refine br_ (fun q2=>?_) fun q2=>?_
 ·obtain ⟨a,ha⟩:∃ a,o[i]? = some a:=⟨_,List.getElem?_eq_getElem (by omega)⟩
  obtain ⟨ab,rfl,la⟩:=f2 i a ha
  have la:loadH Tryz.prog 3 h (ab.add (((i:Nat):Int).toNat*1))=some (zi a):=by rw [Int.toNat_natCast];exact la
  conv=>whnf
  refine n_ ?_
  refine ⟨_,la,cw_ ?_⟩
  refine br_ (fun q3=>?_) fun q3=>?_
  ·conv=>whnf
   exact hno fun e=>by have:=(e.2 i a ha).1;omega
  conv=>whnf
  refine n_ ?_
  refine ⟨_,la,cw_ ?_⟩
  refine br_ (fun q4=>?_) fun q4=>?_
  ·conv=>whnf
   exact hno fun e=>by have:=(e.2 i a ha).1;omega
  conv=>whnf
  refine loop_at [6] [] (fun r vs cs h'=>h=h'∧∃ k:Nat,k≤i∧r=i - k∧vs=[.v (zi k)]∧∀ (j:Nat) (c:Int),j<k→o[j]? = some c→c≠a∧mustB L a c=false) i ⟨rfl,0,by omega,by omega,rfl,fun j a hj=>by omega⟩ ?_
  rintro r vs cs mm2 bx2 _ ⟨rfl,k,hki,rfl,rfl,hg2⟩
  conv=>whnf
  refine br_ (fun q5=>?_) fun q5=>?_
  ·obtain ⟨c,hc⟩:∃ c,o[k]? = some c:=⟨_,List.getElem?_eq_getElem (by omega)⟩
   obtain ⟨ab2,e2,lc⟩:=f2 k c hc
   cases e2
   have lc:loadH Tryz.prog 3 h (ab.add (((k:Nat):Int).toNat*1))=some (zi c):=by rw [Int.toNat_natCast];exact lc
   conv=>whnf
   refine n_ ?_
   refine ⟨_,lc,cw_ ?_⟩
   refine n_ ?_
   refine ⟨_,la,cw_ ?_⟩
   refine br_ (fun q6=>?_) fun q6=>?_
   ·conv=>whnf
    exact hno fun e=>((e.2 i a ha).2 k c (by omega) hc).1 q6
   conv=>whnf
   refine n_ ?_
   refine ⟨_,la,cw_ ?_⟩
   refine n_ ?_
   refine ⟨_,lc,cw_ ?_⟩
   refine rmust_x _ L hL a c ?_
   cases hm:mustB L a c with
   | true =>
    refine ⟨trivial,cw_ ?_⟩
    exact hno fun e=>by have:=((e.2 i a ha).2 k c (by omega) hc).2;rw [hm] at this;cases this
   | false =>
    refine ⟨trivial,cw_ ?_⟩
    refine n_ ?_
    refine ⟨i - (k+1),by omega,rfl,k+1,by omega,rfl,rfl,fun j d hj hd=>?_⟩
    by_cases e:j=k
    ·subst e;rw [hc] at hd;cases hd;exact ⟨q6,hm⟩
    ·exact hg2 j d (by omega) hd
  ·conv=>whnf
   refine n_ ?_
   refine ⟨o.length - (i+1),by omega,rfl,i+1,by omega,rfl,rfl,fun j d hj hd=>?_⟩
   by_cases e:j=i
   ·subst e;rw [ha] at hd;cases hd;exact ⟨⟨by omega,by omega⟩,fun k' c hk' hc=>hg2 k' c (by omega) hc⟩
   ·exact hg j d (by omega) hd
 ·conv=>whnf
  exact hk true ⟨fun _=>⟨hlen,fun i' a ha=>hg i' a (by have:=(List.getElem?_eq_some_iff.1 ha).1;omega) ha⟩,fun _=>rfl⟩
end
end Go.Proofs.YtnjlneefddlaoaaGreat
