/-
  Orders: all of them, plainly.
-/
import Derived.Test.YtnjlneefddlaoaaGreatOrC
set_option linter.unusedSimpArgs false
set_option linter.unusedVariables false
set_option maxHeartbeats 8000000
set_option maxRecDepth 10000
set_option linter.unusedSimpArgs false
set_option linter.unusedVariables false
namespace Go.Proofs.YtnjlneefddlaoaaGreat
open Go Go.Mid Go.RowKit
attribute [local irreducible] mid
def scI (l:List Nat):Nat→Nat
 | 0=>0
 | c+1=>if l.getD (c+1) 0<l.getD c 0 then scI l c else c+1
def scK (l:List Nat) (v:Nat):Nat→Nat
 | 0=>0
 | k+1=>if l.getD (k+1) 0<v then scK l v k else k+1
def swapN (l:List Nat) (a b:Nat):List Nat:=(l.set a (l.getD b 0)).set b (l.getD a 0)
def revN:List Nat→Nat→Nat→Nat→List Nat
 | l,0,_,_=>l
 | l,f+1,a,b=>if a<b then revN (swapN l a b) f (a+1) (b - 1) else l
def nextN (l:List Nat):List Nat×Bool :=
 let c:=scI l (l.length - 1)
 if c=0 then (l,false) else
  let k:=scK l (l.getD (c - 1) 0) (l.length - 1)
  (revN (swapN l (c - 1) k) l.length c (l.length - 1),true)
def permL (n:Nat):List (List Nat):=dfs (fun _ _=>false) n (fun (_:Unit) _=>some ()) n () []
theorem perm_first:∀ n:Nat,n≤5→(permL n)[0]? = some (List.range n)
 | 0,_ | 1,_ | 2,_ | 3,_ | 4,_ | 5,_=>by decide +kernel
 | _+6,h=>absurd h (by omega)
def chain:List (List Nat)→Bool
 | []=>true
 | [a]=>!(nextN a).2
 | a :: b :: r=>decide (nextN a=(b,true)) && chain (b :: r)
theorem perm_chain:∀ n:Nat,n≤5→chain (permL n)=true
 | 0,_ | 1,_ | 2,_ | 3,_ | 4,_ | 5,_=>by decide +kernel
 | _+6,h=>absurd h (by omega)
theorem chain_next:∀ {l:List (List Nat)} {k:Nat} {a:List Nat},chain l=true→l[k]? = some a→(l[k+1]? = none∧(nextN a).2=false)∨∃ b,l[k+1]? = some b∧nextN a=(b,true)
 | [],k,a,_,h=>by simp at h
 | [x],0,a,hc,h=>by
  simp only [List.getElem?_cons_zero,Option.some.injEq] at h
  subst h
  exact .inl ⟨rfl,by simpa [chain] using hc⟩
 | [x],k+1,a,hc,h=>by simp at h
 | x :: y :: r,0,a,hc,h=>by
  simp only [List.getElem?_cons_zero,Option.some.injEq] at h
  subst h
  rw [chain,Bool.and_eq_true] at hc
  exact .inr ⟨y,rfl,of_decide_eq_true hc.1⟩
 | x :: y :: r,k+1,a,hc,h=>by
  rw [chain,Bool.and_eq_true] at hc
  exact chain_next (l:=y :: r) (k:=k) hc.2 h
theorem dfs_mem {n:Nat}:∀ (f:Nat) (o q:List Nat),o.length+f=n→o.Nodup→(∀ x ∈ o,x<n)→q ∈ dfs (fun _ _=>false) n (fun (_:Unit) _=>some ()) f () o→(∃ r,q=o++r)∧q.length=n∧q.Nodup∧∀ x ∈ q,x<n
 | 0,o,q,hl,hn,hb,hq=>by
  rw [dfs,List.mem_singleton] at hq
  subst hq
  exact ⟨⟨[],by simp⟩,by omega,hn,hb⟩
 | f+1,o,q,hl,hn,hb,hq=>by
  rw [dfs,List.mem_flatMap] at hq
  obtain ⟨p,hp,hq⟩:=hq
  split at hq
  ·rename_i hr
   simp only at hq
   have hpo:p ∉ o:=by
    unfold readyB at hr
    rw [Bool.and_eq_true] at hr
    exact of_decide_eq_true hr.2
   obtain ⟨⟨r,rfl⟩,h2,h3,h4⟩:=dfs_mem f (o++[p]) q (by rw [List.length_append,List.length_singleton];omega) (by
    rw [List.nodup_append]
    exact ⟨hn,by simp,fun x hx y hy=>by rw [List.mem_singleton] at hy;subst hy;exact fun e=>hpo (e ▸ hx)⟩) (fun x hx=>by
    rcases List.mem_append.1 hx with hx | hx
    ·exact hb x hx
    ·rw [List.mem_singleton] at hx;subst hx;exact List.mem_range.1 hp) hq
   exact ⟨⟨p :: r,by rw [List.append_assoc];rfl⟩,h2,h3,h4⟩
  ·cases hq
def fromP (must:Nat→Nat→Bool) (m:Nat) (q:List Nat):Prop:=∀ a b x y,m≤a→a<b→q[a]? = some x→q[b]? = some y→must y x=false
theorem nodup_len:∀ (n:Nat) (l:List Nat),l.Nodup→(∀ x ∈ l,x<n)→l.length≤n
 | 0,l,_,h=>by
  cases l with
  | nil=>exact Nat.le_refl _
  | cons a r=>exact absurd (h a (by simp)) (by omega)
 | n+1,l,hn,h=>by
  have h1:=nodup_len n (l.erase n) (hn.erase n) fun x hx=>by
   have hm:=(List.Nodup.mem_erase_iff hn).1 hx
   have:=h x hm.2
   have:=hm.1
   omega
  by_cases hm:n ∈ l
  ·rw [List.length_erase_of_mem hm] at h1;omega
  ·rw [List.erase_of_not_mem hm] at h1;omega
theorem all_in {n:Nat} {q:List Nat} (hl:q.length=n) (hn:q.Nodup) (hb:∀ x ∈ q,x<n):∀ i,i<n→i ∈ q:=by
 intro i hi
 apply Classical.byContradiction
 intro hni
 have h3:=nodup_len n (i :: q) (List.nodup_cons.2 ⟨hni,hn⟩) fun x hx=>by
  rcases List.mem_cons.1 hx with rfl | hx
  ·exact hi
  ·exact hb x hx
 rw [List.length_cons,hl] at h3
 omega
theorem flat_congr {α β:Type} {f g:α→List β}:∀ {l:List α},(∀ x ∈ l,f x=g x)→l.flatMap f=l.flatMap g
 | [],_=>rfl
 | a :: l,h=>by rw [List.flatMap_cons,List.flatMap_cons,h a (by simp),flat_congr fun x hx=>h x (by simp [hx])]
open Classical in
theorem dfs_filter {must:Nat→Nat→Bool} {n:Nat} (hirr:∀ i,must i i=false):∀ (f:Nat) (o:List Nat),o.length+f=n→o.Nodup→(∀ x ∈ o,x<n)→dfs must n (fun (_:Unit) _=>some ()) f () o=(dfs (fun _ _=>false) n (fun (_:Unit) _=>some ()) f () o).filter fun q=>decide (fromP must o.length q)
 | 0,o,hl,_,_=>by
  rw [dfs,dfs,List.filter_cons_of_pos]
  ·rfl
  ·refine decide_eq_true fun a b x y h1 h2 hx hy=>?_
   have:=(List.getElem?_eq_some_iff.1 hx).1
   omega
 | f+1,o,hl,hn,hb=>by
  rw [dfs,dfs,List.filter_flatMap]
  refine flat_congr fun p hpr=>?_
  have hpn:=List.mem_range.1 hpr
  by_cases hpo:p ∉ o
  ·have hr0:readyB (fun _ _=>false) n o p=true:=by
    unfold readyB
    rw [Bool.and_eq_true]
    exact ⟨by simp,decide_eq_true hpo⟩
   rw [if_pos hr0]
   simp only
   have hl':(o++[p]).length+f=n:=by rw [List.length_append,List.length_singleton];omega
   have hn':(o++[p]).Nodup:=by
    rw [List.nodup_append]
    exact ⟨hn,by simp,fun x hx y hy=>by rw [List.mem_singleton] at hy;subst hy;exact fun e=>hpo (e ▸ hx)⟩
   have hb':∀ x ∈ o++[p],x<n:=fun x hx=>by
    rcases List.mem_append.1 hx with hx | hx
    ·exact hb x hx
    ·rw [List.mem_singleton] at hx;subst hx;exact hpn
   have hmem:=fun q hq=>dfs_mem (n:=n) f (o++[p]) q hl' hn' hb' hq
   have hat:∀ q,q ∈ dfs (fun _ _=>false) n (fun (_:Unit) _=>some ()) f () (o++[p])→q[o.length]? = some p:=fun q hq=>by
    obtain ⟨⟨r,rfl⟩,_⟩:=hmem q hq
    rw [List.append_assoc,List.getElem?_append_right (Nat.le_refl _),Nat.sub_self]
    rfl
   by_cases hr:readyB must n o p=true
   ·rw [if_pos hr,dfs_filter hirr f (o++[p]) hl' hn' hb']
    refine List.filter_congr fun q hq=>?_
    unfold readyB at hr
    rw [Bool.and_eq_true,List.all_eq_true] at hr
    have hall:∀ i,i<n→i ∈ o∨must i p=false:=fun i hi=>by
     have:=hr.1 i (List.mem_range.2 hi)
     simpa using this
    obtain ⟨⟨r,hqr⟩,h2,h3,h4⟩:=hmem q hq
    rw [decide_eq_decide]
    constructor
    ·intro h a b x y h1 h12 hx hy
     by_cases ha:a=o.length
     ·subst ha
      have hxp:x=p:=by have:=hat q hq;rw [hx] at this;exact Option.some.inj this
      subst hxp
      rcases hall y (h4 y (List.mem_of_getElem? hy)) with hyo | hm
      ·obtain ⟨j,hj,e⟩:=List.getElem_of_mem hyo
       have hj2:q[j]? = some y:=by rw [hqr,List.append_assoc,List.getElem?_append_left hj,List.getElem?_eq_getElem hj,e]
       obtain ⟨h5,e5⟩:=List.getElem?_eq_some_iff.1 hj2
       obtain ⟨h6,e6⟩:=List.getElem?_eq_some_iff.1 hy
       have:=(List.getElem_inj h3 (h₀:=h5) (h₁:=h6)).1 (by rw [e5,e6])
       omega
      ·exact hm
     ·exact h a b x y (by rw [List.length_append,List.length_singleton];omega) h12 hx hy
    ·intro h a b x y h1 h12 hx hy
     exact h a b x y (by rw [List.length_append,List.length_singleton] at h1;omega) h12 hx hy
   ·rw [if_neg hr]
    symm
    rw [List.filter_eq_nil_iff]
    intro q hq hc
    have hc:=of_decide_eq_true hc
    apply hr
    obtain ⟨⟨r,hqr⟩,h2,h3,h4⟩:=hmem q hq
    unfold readyB
    rw [Bool.and_eq_true,List.all_eq_true]
    refine ⟨fun i hi=>?_,decide_eq_true hpo⟩
    by_cases hio:i ∈ o
    ·simp [hio]
    ·by_cases hip:i=p
     ·subst hip;simp [hirr]
     ·have hiq:=all_in h2 h3 h4 i (List.mem_range.1 hi)
      obtain ⟨j,hj,e⟩:=List.getElem_of_mem hiq
      have hjo:o.length<j:=by
       apply Classical.byContradiction
       intro hh
       have:q[j]? = some i:=by rw [List.getElem?_eq_getElem hj,e]
       rcases Nat.lt_or_eq_of_le (Nat.le_of_not_lt hh) with h5 | h5
       ·rw [hqr,List.append_assoc,List.getElem?_append_left h5] at this
        exact hio (List.mem_of_getElem? this)
       ·subst h5
        rw [hat q hq] at this
        exact hip (Option.some.inj this).symm
      have:=hc o.length j p i (Nat.le_refl _) hjo (hat q hq) (by rw [List.getElem?_eq_getElem hj,e])
      simp [this]
  ·have hno:∀ m:Nat→Nat→Bool,¬ readyB m n o p=true:=fun m hh=>by
    unfold readyB at hh
    rw [Bool.and_eq_true] at hh
    exact hpo (of_decide_eq_true hh.2)
   rw [if_neg (hno _),if_neg (hno _)]
   rfl
theorem must_irr (L:List Ev) (i:Nat):mustB L i i=false:=mustB_out (by omega)
theorem ext_from {L:List Ev} {q:List Nat} (hl:q.length=L.length) (hn:q.Nodup) (hb:∀ x ∈ q,x<L.length):extP L (q.map fun n:Nat=>(n:Int))↔fromP (fun i k=>mustB L i k) 0 q:=by
 unfold extP fromP
 simp only [List.length_map,List.getElem?_map]
 constructor
 ·rintro ⟨_,h⟩ a b x y _ h12 hx hy
  exact ((h b y (by rw [hy];rfl)).2 a x h12 (by rw [hx];rfl)).2
 ·intro h
  refine ⟨hl,fun i a hi=>?_⟩
  cases hq:q[i]? with
  | none=>rw [hq] at hi;cases hi
  | some y =>
   rw [hq] at hi
   obtain rfl:(y:Int)=a:=Option.some.inj hi
   refine ⟨⟨by omega,by have:=hb y (List.mem_of_getElem? hq);omega⟩,fun k c hki hc=>?_⟩
   cases hk:q[k]? with
   | none=>rw [hk] at hc;cases hc
   | some x =>
    rw [hk] at hc
    obtain rfl:(x:Int)=c:=Option.some.inj hc
    refine ⟨fun e=>?_,h k i x y (Nat.zero_le _) hki hk hq⟩
    have e:x=y:=by omega
    subst e
    obtain ⟨h5,e5⟩:=List.getElem?_eq_some_iff.1 hk
    obtain ⟨h6,e6⟩:=List.getElem?_eq_some_iff.1 hq
    have:=(List.getElem_inj hn (h₀:=h5) (h₁:=h6)).1 (by rw [e5,e6])
    omega
open Classical in
noncomputable def ordL (L:List Ev):List (List Nat):=(permL L.length).filter fun q=>decide (extP L (q.map fun n:Nat=>(n:Int)))
theorem perm_ok {n:Nat} {q:List Nat} (h:q ∈ permL n):q.length=n∧q.Nodup∧∀ x ∈ q,x<n:=(dfs_mem n [] q (by simp) List.nodup_nil (fun x hx=>by cases hx) h).2
theorem ord_dfs (L:List Ev):dfs (fun i k=>mustB L i k) L.length (fun (_:Unit) _=>some ()) L.length () []=ordL L:=by
 rw [dfs_filter (must:=fun i k=>mustB L i k) (fun i=>must_irr L i) L.length [] (by simp) List.nodup_nil (fun x hx=>by cases hx)]
 unfold ordL permL
 refine List.filter_congr fun q hq=>?_
 obtain ⟨_,h2,h3,h4⟩:=dfs_mem L.length [] q (by simp) List.nodup_nil (fun x hx=>by cases hx) hq
 rw [decide_eq_decide]
 exact (ext_from h2 h3 h4).symm
end Go.Proofs.YtnjlneefddlaoaaGreat
