/-
  Lists of lines: is a number among them?
-/
import Derived.Test.YtnjlneefddlaoaaGreatTrcD
set_option linter.unusedSimpArgs false
set_option linter.unusedVariables false
set_option maxHeartbeats 8000000
set_option maxRecDepth 10000
set_option linter.unusedSimpArgs false
set_option linter.unusedVariables false
namespace Go.Proofs.YtnjlneefddlaoaaGreat
open Go Go.Mid Go.RowKit
attribute [local irreducible] mid
section
variable {h:Hp} {K:Value→Hp→Prop}
abbrev RdU (h:Hp) (s:Value) (L:List Nat):Prop:=Rd Tryz.prog 52 1 h s (L.map uv)
theorem rdU {s:Value} {L:List Nat} (r:RdU h s L):∃ base cap,s=.slice base L.length cap∧∀ (i x:Nat),L[i]? = some x→∃ a,base=some a∧loadH Tryz.prog 52 h (a.add (((i:Int)).toNat*1))=some (uv x):=by
 obtain ⟨base,cap,e,f⟩:=r
 refine ⟨base,cap,by rw [e];simp,fun i x hx=>?_⟩
 rw [Int.toNat_natCast]
 exact f i _ (by rw [List.getElem?_map,hx];rfl)
theorem linesA_len (a:Ak) (ha:a.ok):(linesA a).length≤8:=by
 unfold linesA
 split
 ·rename_i hh
  obtain ⟨m1,m2,m3,m4⟩:=(mayB_iff a).1 hh.2
  have:=dl_len_le ((List.range a.size.toNat).map fun i=>byteN a.addr a.next a.cut i / 64)
  rw [List.length_map,List.length_range] at this
  unfold accL
  omega
 ·simp
theorem mem_at {L:List Nat} {v:Nat} (h:∀ j x,j<L.length→L[j]? = some x→x≠v):v ∉ L:=fun hm=>by
 obtain ⟨j,hj,e⟩:=List.getElem_of_mem hm
 exact h j v hj (by rw [List.getElem?_eq_getElem hj,e]) rfl
theorem index_x (s:Value) (L:List Nat) (v:Nat) (hr:RdU h s L) (hL:L.length≤100) (hk:∀ i:Int,(0≤i↔v ∈ L)→K (.int .i64 i) h):X Tryz.prog 102 #[s,uv v] h K:=by
 obtain ⟨base,cap,rfl,f⟩:=rdU hr
 refine fnv (args:=_) mixed [] [] [] Tryz.func102 rfl (by kernel_rfl) (cw_ ?_)
 refine loop_at [8] [] (fun r vs cs h'=>h=h'∧∃ i:Nat,i≤L.length∧r=L.length - i∧vs=[.v (.int .i64 i)]∧∀ j x,j<i→L[j]? = some x→x≠v) L.length ⟨rfl,0,by omega,by omega,rfl,fun j x hj=>by omega⟩ ?_
 rintro r vs cs mm bx _ ⟨rfl,i,hi,rfl,rfl,hg⟩
 conv=>whnf
 refine br_ (fun q1=>?_) fun q1=>?_
 ·have hiL:i<L.length:=by omega
  obtain ⟨x,hx⟩:∃ x,L[i]? = some x:=⟨_,List.getElem?_eq_getElem hiL⟩
  obtain ⟨a3,rfl,e2⟩:=f i x hx
  conv=>whnf
  refine n_ ?_
  refine ⟨_,e2,cw_ ?_⟩
  refine br_ (fun q2=>?_) fun q2=>?_
  ·have hxn:x=v:=by omega
   conv=>whnf
   exact hk _ ⟨fun _=>hxn ▸ List.mem_of_getElem? hx,fun _=>by omega⟩
  ·conv=>whnf
   refine n_ ?_
   refine ⟨L.length - (i+1),by omega,rfl,i+1,by omega,rfl,rfl,fun j y hj hy=>?_⟩
   by_cases e:j=i
   ·subst e;rw [hx] at hy;cases hy;omega
   ·exact hg j y (by omega) hy
 ·have hn:=mem_at (v:=v) fun j x hj hx=>hg j x (by omega) hx
  conv=>whnf
  exact hk _ ⟨fun hh=>by omega,fun hh=>absurd hh hn⟩
theorem contains_xU (s:Value) (L:List Nat) (v:Nat) (hr:RdU h s L) (hL:L.length≤100) (hk:K (.bool (decide (v ∈ L))) h):X Tryz.prog 72 #[s,uv v] h K:=by
 refine fnv (args:=_) mixed [] [] [] Tryz.func72 rfl (by kernel_rfl) (cw_ ?_)
 refine index_x s L v hr hL fun i hi=>(cw_ ?_)
 exact kq hk (bI (by rw [Bool.eq_iff_iff];simpa using hi))
end
end Go.Proofs.YtnjlneefddlaoaaGreat
