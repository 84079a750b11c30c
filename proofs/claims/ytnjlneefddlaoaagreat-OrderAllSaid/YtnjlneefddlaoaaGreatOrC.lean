/-
  Orders: the search, plainly, and as it lies.
-/
import Derived.Test.YtnjlneefddlaoaaGreatOrB
import Derived.Test.YtnjlneefddlaoaaGreatMidM
set_option linter.unusedSimpArgs false
set_option linter.unusedVariables false
set_option maxHeartbeats 8000000
set_option maxRecDepth 10000
set_option linter.unusedSimpArgs false
set_option linter.unusedVariables false
namespace Go.Proofs.YtnjlneefddlaoaaGreat
open Go Go.Mid Go.RowKit
attribute [local irreducible] mid
def readyB (must:Nat→Nat→Bool) (n:Nat) (o:List Nat) (p:Nat):Bool:=(List.range n).all (fun i=>decide (i ∈ o) || !must i p) && decide (p ∉ o)
def dfs {W:Type} (must:Nat→Nat→Bool) (n:Nat) (enter:W→Nat→Option W):Nat→W→List Nat→List (List Nat)
 | 0,_,o=>[o]
 | f+1,w,o=>(List.range n).flatMap fun p=>if readyB must n o p=true then match enter w p with
  | none=>[]
  | some w'=>dfs must n enter f w' (o++[p]) else []
def runP (more:Nat→Bool):Nat→Nat→Nat×Bool
 | m,0=>(m,true)
 | m,k+1=>if more m=true then runP more (m+1) k else (m+1,false)
theorem runP_add (more:Nat→Bool):∀ (a m b:Nat),runP more m (a+b)=if (runP more m a).2=true then runP more (runP more m a).1 b else runP more m a
 | 0,m,b=>by rw [Nat.zero_add];rfl
 | a+1,m,b=>by
  rw [show a+1+b=(a+b)+1 by omega,runP,runP]
  by_cases h:more m=true
  ·rw [if_pos h,if_pos h,runP_add more a (m+1) b]
  ·rw [if_neg h,if_neg h];rfl
theorem runP_true {more:Nat→Bool}:∀ {a m:Nat},(runP more m a).2=true→(runP more m a).1=m+a
 | 0,m,_=>rfl
 | a+1,m,h=>by
  rw [runP] at h ⊢
  by_cases hm:more m=true
  ·rw [if_pos hm] at h ⊢;rw [runP_true h];omega
  ·rw [if_neg hm] at h;cases h
def YX (P:Program) (y:Value) (args:List Value) (g:Hp) (K:Value→Hp→Prop):Prop:=∃ f a1 a2,y=.func (.func f) a1 a2∧callable P f=true∧X P f (a1.toList++(args++a2.toList)).toArray g K
theorem YX.yv {P:Program} {y:Value} {args:List Value} {g h:Hp} {K' K:Value→Hp→Prop} (x:YX P y args g K') (hg:g.le h) (hK:∀ v g' h',K' v g'→Turned h g h' g'→K v h'):YV P y args h K:=by
 obtain ⟨f,a1,a2,rfl,hc,hx⟩:=x
 exact yv_x hc (X.frame hg hx hK)
theorem YX.mono {P:Program} {y:Value} {args:List Value} {g:Hp} {K K':Value→Hp→Prop} (x:YX P y args g K) (hk:∀ v h,K v h→K' v h):YX P y args g K':=by
 obtain ⟨f,a1,a2,rfl,hc,hx⟩:=x
 exact ⟨f,a1,a2,rfl,hc,hx.mono hk⟩
abbrev seaT:TypeId := 40
def usedC (n:Nat) (o:List Nat):List Value:=(List.range n).map fun i=>.int .i64 (if i ∈ o then 1 else 0:Nat)
abbrev ni (n:Nat):Value:=.int .i64 n
structure SrN (g h:Hp) (s:Nat) (ls:Value) (n:Nat) (o:List Nat) (ef ff:Value):Prop where
 le:g.le h
 go:∃ ub os ob,h s=some (rowO seaT [ls,.slice (some ⟨ub,0,none⟩) n n,os,ef,ff])∧h ub=some (rowO 3 (usedC n o))∧Gr h 3 1 os o.length (o.map ni) ob∧g s=none∧g ub=none∧∀ x,ob=some x→g x=none∧x≠ub
theorem turned_none {h g h' g':Hp} (u:Turned h g h' g') {x:Nat} {v:Obj} (hx:h x=some v) (hg:g x=none):h' x=some v∧g' x=none:=by
 refine ⟨u.kept x v hx hg,?_⟩
 cases hq:g' x with
 | none=>rfl
 | some q=>have:=u.new x q hq hg;rw [hx] at this;cases this
theorem SrN.turned {g h g' h':Hp} {s:Nat} {ls:Value} {n:Nat} {o:List Nat} {ef ff:Value} (r:SrN g h s ls n o ef ff) (u:Turned h g h' g'):SrN g' h' s ls n o ef ff:=by
 obtain ⟨le,ub,os,ob,h1,h2,h3,h4,h5,h6⟩:=r
 have q1:=turned_none u h1 h4
 have q2:=turned_none u h2 h5
 have q3:∀ x,ob=some x→h' x=h x∧g' x=none:=fun x e=>by
  obtain ⟨_,⟨e2,_⟩ | ⟨bb,_,_,e2,_,_,_,hb⟩⟩:=h3
  ·rw [e2] at e;cases e
  ·rw [e2] at e;cases e
   obtain ⟨a,b⟩:=turned_none u hb (h6 _ e2).1
   exact ⟨by rw [a,hb],b⟩
 exact ⟨u.le,ub,os,ob,q1.1,q2.1,h3.agree fun x e=>(q3 x e).1,q1.2,q2.2,fun x e=>⟨(q3 x e).2,(h6 x e).2⟩⟩
theorem SrN.up {g h h':Hp} {s:Nat} {ls:Value} {n:Nat} {o:List Nat} {ef ff:Value} (r:SrN g h s ls n o ef ff) (hle:h.le h'):SrN g h' s ls n o ef ff:=by
 obtain ⟨le,ub,os,ob,h1,h2,h3,h4,h5,h6⟩:=r
 exact ⟨Hp.le_trans le hle,ub,os,ob,hle _ _ h1,hle _ _ h2,h3.le hle,h4,h5,h6⟩
theorem SrN.new {g h h':Hp} {s z:Nat} {ls:Value} {n:Nat} {o:List Nat} {ef ff:Value} {x:Obj} (r:SrN g h s ls n o ef ff) (hz:h z=none) (hle:h.le h') (hat:h' z=some x):SrN (g.set z x) h' s ls n o ef ff:=by
 obtain ⟨le,ub,os,ob,h1,h2,h3,h4,h5,h6⟩:=r
 have nn:∀ {y o},g y=none→h y=some o→g.set z x y=none:=fun {y o} e1 e2=>by
  rw [Hp.set_other _ _ (fun e=>by subst e;rw [hz] at e2;cases e2)];exact e1
 refine ⟨fun y v e=>?_,ub,os,ob,hle _ _ h1,hle _ _ h2,h3.le hle,nn h4 h1,nn h5 h2,fun y e=>⟨?_,(h6 y e).2⟩⟩
 ·by_cases hy:y=z
  ·subst hy;rw [Hp.set_same] at e;cases e;exact hat
  ·rw [Hp.set_other _ _ hy] at e;exact hle _ _ (le _ _ e)
 ·obtain ⟨_,⟨e2,_⟩ | ⟨bb,_,_,e2,_,_,_,hb⟩⟩:=h3
  ·rw [e2] at e;cases e
  ·rw [e2] at e;cases e
   exact nn (h6 _ e2).1 hb
section
variable {h:Hp} {K:Value→Hp→Prop}
theorem aggEs:isAggT Tryz.prog 22 = some false:=by kernel_rfl
theorem aggIs:isAggT Tryz.prog 29 = some false:=by kernel_rfl
theorem sizIs:sizeT Tryz.prog 29 = some 1:=by kernel_rfl
theorem usedC_at {n i:Nat} (o:List Nat) (h:i<n):(usedC n o)[i]? = some (ni (if i ∈ o then 1 else 0)):=by
 unfold usedC
 rw [List.getElem?_map,List.getElem?_range h]
 rfl
theorem usedC_len (n:Nat) (o:List Nat):(usedC n o).length=n:=by simp [usedC]
theorem ready_x {g:Hp} {s:Nat} {ls ef ff:Value} {o:List Nat} {L:List Ev} (r:SrN g h s ls L.length o ef ff) (hL:RdE h ls L) (p:Nat) (hp:p<L.length) (hl:L.length≤2 ^ 20) (hk:K (.bool (readyB (fun i k=>mustB L i k) L.length o p)) h):X Tryz.prog 24 #[.pointer (some ⟨s,0,none⟩),.int .i64 p] h K:=by
 obtain ⟨le,ub,os,ob,h1,h2,h3,h4,h5,h6⟩:=r
 obtain ⟨base,cap,rfl,fL⟩:=rdE hL
 refine fnv (args:=_) mixed [] [] [] Tryz.func24 rfl (by kernel_rfl) (cw_ ?_)
 refine ⟨_,loadC0 aggEs h1 rfl,cw_ ?_⟩
 refine loop_at [11] [] (fun r vs _ h'=>h=h'∧∃ j:Nat,j≤L.length∧r=L.length - j∧vs=[.v (.int .i64 j)]∧∀ i,i<j→i ∈ o∨mustB L i p=false) L.length ⟨rfl,0,by omega,by omega,rfl,fun i hi=>by omega⟩ ?_
 rintro r vs cs mm bx _ ⟨rfl,j,hj,rfl,rfl,hg⟩
 conv=>whnf
 refine br_ (fun q1=>?_) fun q1=>?_
 ·have hjL:j<L.length:=by omega
  conv=>whnf
  refine ⟨_,loadC (i:=1) aggIs h1 rfl,cw_ ?_⟩
  refine n_ ?_
  have hu:=usedC_at o hjL
  by_cases hm:j ∈ o
  ·rw [if_pos hm] at hu
   refine ⟨_,loadI aggIn h2 rfl hu,cw_ ?_⟩
   refine n_ ?_
   exact ⟨L.length - (j+1),by omega,rfl,j+1,by omega,rfl,rfl,fun i hi=>by
    by_cases e:i=j
    ·subst e;exact .inl hm
    ·exact hg i (by omega)⟩
  ·rw [if_neg hm] at hu
   refine ⟨_,loadI aggIn h2 rfl hu,cw_ ?_⟩
   refine ⟨_,loadC0 aggEs h1 rfl,cw_ ?_⟩
   refine must_x _ L hL j p (cw_ ?_)
   cases hb:mustB L j p with
   | true =>
    rw [show readyB (fun i k=>mustB L i k) L.length o p=false by
     unfold readyB
     rw [Bool.and_eq_false_iff]
     left
     rw [List.all_eq_false]
     exact ⟨j,List.mem_range.2 hjL,by simp [hm,hb]⟩] at hk
    conv=>whnf
    exact hk
   | false =>
    conv=>whnf
    refine n_ ?_
    exact ⟨L.length - (j+1),by omega,rfl,j+1,by omega,rfl,rfl,fun i hi=>by
     by_cases e:i=j
     ·subst e;exact .inr hb
     ·exact hg i (by omega)⟩
 ·obtain rfl:j=L.length:=by omega
  conv=>whnf
  refine ⟨_,loadC (i:=1) aggIs h1 rfl,cw_ ?_⟩
  refine n_ ?_
  refine ⟨_,loadI aggIn h2 rfl (usedC_at o hp),cw_ ?_⟩
  trace_state
  refine kq hk (bI ?_)
  have:(List.range L.length).all (fun i=>decide (i ∈ o) || !mustB L i p)=true:=by
   rw [List.all_eq_true]
   intro i hi
   rcases hg i (List.mem_range.1 hi) with hh | hh <;> simp [hh]
  unfold readyB
  rw [this]
  by_cases hm:p ∈ o <;> simp [hm]
end
end Go.Proofs.YtnjlneefddlaoaaGreat
