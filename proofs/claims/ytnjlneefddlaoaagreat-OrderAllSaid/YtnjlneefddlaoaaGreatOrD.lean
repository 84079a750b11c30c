/-
  Orders: the search goes on.
-/
import Derived.Test.YtnjlneefddlaoaaGreatOrC
set_option linter.unusedSimpArgs false
set_option linter.unusedVariables false
set_option maxHeartbeats 8000000
set_option maxRecDepth 10000
set_option linter.unusedSimpArgs false
set_option linter.unusedVariables false
namespace Go.Proofs.YtnjlneefddlaoaaGreat
open Go Go.Mid Go.RowKit
attribute [local irreducible] mid
structure SeaH {W:Type} (J:List (Value×W)→Nat→Bool→Hp→Prop) (enter:W→Nat→Option W) (more:Nat→Bool) (ef ff ls:Value) (L:List Ev) (all:List (List Nat)):Prop where
 rd:∀ st m b g,J st m b g→RdE g ls L
 ent:∀ c w st m p g,p<L.length→J ((c,w) :: st) m true g→YX Tryz.prog ef [ni p] g fun v g'=>match enter w p with
  | none=>(∃ lv,v=.tuple #[lv,.bool false])∧J ((c,w) :: st) m true g'
  | some w'=>∃ lv,v=.tuple #[lv,.bool true]∧J ((lv,w') :: (c,w) :: st) m true g'
 lv:∀ c w x st m b g,J ((c,w) :: x :: st) m b g→YX Tryz.prog c [] g fun v g'=>J (x :: st) m b g'
 fnd:∀ c w st m o g gp sl,all[m]? = some o→J ((c,w) :: st) m true g→Owns g gp 3 1 sl o.length (o.map ni)→YX Tryz.prog ff [sl] gp fun v g'=>v=.bool (more m)∧J ((c,w) :: st) (m+1) (more m) g'
theorem SrN.piece {g h h':Hp} {s:Nat} {ls sl:Value} {n m:Nat} {o:List Nat} {ef ff:Value} {cs:List Value} (r:SrN g h s ls n o ef ff) (hO:Owns h h' 3 1 sl m cs):∃ gp,Owns g gp 3 1 sl m cs∧SrN gp h' s ls n o ef ff:=by
 obtain ⟨ob,gr,le,no⟩:=hO
 obtain ⟨hl,⟨e1,e2,e3⟩ | ⟨b,cap,rest,e1,e2,q1,q2,q3⟩⟩:=gr
 ·exact ⟨g,⟨ob,⟨hl,.inl ⟨e1,e2,e3⟩⟩,Hp.le_refl _,fun c e=>(by rw [e1] at e;cases e)⟩,r.up le⟩
 ·have nb:=no b e1
  have gb:=Hp.none_le r.le nb
  exact ⟨g.set b (rowO 3 (cs++rest)),⟨ob,⟨hl,.inr ⟨b,cap,rest,e1,e2,q1,q2,Hp.set_same _ _ _⟩⟩,Hp.le_set' gb,fun c e=>(by rw [e1] at e;cases e;exact gb)⟩,r.new nb le q3⟩
theorem SrN.own {g h:Hp} {s:Nat} {ls:Value} {n:Nat} {o:List Nat} {ef ff:Value} (r:SrN g h s ls n o ef ff):∃ l,h s=some (rowO seaT l)∧g s=none:=by
 obtain ⟨le,ub,os,ob,h1,h2,h3,h4,h5,h6⟩:=r
 exact ⟨_,h1,h4⟩
theorem Gr_back {h:Hp} {el n:Nat} {b:Option Addr} {cap:Nat} {cs:List Value} {v:Value} {ob:Option Nat} (g:Gr h el 1 (.slice b (n+1) cap) (n+1) (cs++[v]) ob):Gr h el 1 (.slice b n cap) n cs ob:=by
 obtain ⟨hl,⟨_,e,_⟩ | ⟨bb,c,rest,e1,e2,h1,h2,h3⟩⟩:=g
 ·cases e
 ·cases e2
  rw [List.length_append,List.length_singleton] at hl
  refine ⟨by omega,.inr ⟨bb,cap,v :: rest,e1,rfl,by omega,by rw [List.length_cons,h2];omega,by rw [h3,List.append_assoc];rfl⟩⟩
theorem used_in {n p:Nat} {o:List Nat}:(usedC n o).set p (.int .i64 1)=usedC n (o++[p]):=by
 apply List.ext_getElem?
 intro i
 rw [List.getElem?_set]
 unfold usedC
 simp only [List.getElem?_map,List.length_map,List.length_range]
 by_cases hi:i<n
 ·rw [List.getElem?_range hi]
  by_cases e:p=i
  ·subst e;simp [hi]
  ·have:¬ i=p:=fun e2=>e e2.symm
   simp [e,this]
 ·have:(List.range n)[i]? = none:=List.getElem?_eq_none (by simp;omega)
  rw [this]
  by_cases e:p=i
  ·subst e;simp;omega
  ·simp [e]
theorem used_out {n p:Nat} {o:List Nat} (hp:p ∉ o):(usedC n (o++[p])).set p (.int .i64 0)=usedC n o:=by
 apply List.ext_getElem?
 intro i
 rw [List.getElem?_set]
 unfold usedC
 simp only [List.getElem?_map,List.length_map,List.length_range]
 by_cases hi:i<n
 ·rw [List.getElem?_range hi]
  by_cases e:p=i
  ·subst e;simp [hi,hp]
  ·have:¬ i=p:=fun e2=>e e2.symm
   simp [e,this]
 ·have:(List.range n)[i]? = none:=List.getElem?_eq_none (by simp;omega)
  rw [this]
  by_cases e:p=i
  ·subst e;simp;omega
  ·simp [e]
section
variable {h:Hp} {K:Value→Hp→Prop}
theorem ni_one (o:List Nat):(o.map ni).all Value.oneCell'=true:=by simp [ni,Value.oneCell']
theorem cloneI_x {s:Value} {o:List Nat} {ob:Option Nat} (gr:Gr h 3 1 s o.length (o.map ni) ob) (hl:o.length≤2 ^ 30) (hk:∀ s' h',Owns h h' 3 1 s' o.length (o.map ni)→K s' h'):X Tryz.prog 23 #[s] h K:=by
 obtain ⟨_,⟨_,rfl,h0⟩ | ⟨b,cap,rest,_,rfl,hc,_,hb⟩⟩:=gr
 ·have hA:o=[]:=List.eq_nil_of_length_eq_zero h0
  subst hA
  refine fnv (args:=_) mixed [] [] [] Tryz.func23 rfl (by kernel_rfl) (cw_ ?_)
  exact hk _ h (Owns.nil (Hp.le_refl _))
 ·refine fnv (args:=_) mixed [] [] [] Tryz.func23 rfl (by kernel_rfl) (cw_ ?_)
  refine new_intro (o:=rowO 3 []) (fun z0 h1 n_z0 le_z0 at_z0 ot_z0=>cw_ ?_)
  have hO0:Owns h h1 3 1 (.slice (some ⟨z0,0,none⟩) 0 0) 0 []:=⟨some z0,⟨rfl,.inr ⟨z0,0,[],rfl,rfl,Nat.le_refl _,rfl,at_z0⟩⟩,le_z0,fun c e=>by cases e;exact n_z0⟩
  refine Owns.appN (z:=.int .i64 0) (news:=o.map ni) (bytes:=8) (by kernel_rfl) (show Tryz.prog.info? 3 = some Tryz.prog.types[3] by kernel_rfl) (by kernel_rfl) (by kernel_rfl) (by kernel_rfl) rfl (by decide) rfl rfl rfl hO0 (by rw [List.length_map];exact (Nat.mul_one _).symm) (fun j v hj=>⟨_,rfl,cell_le le_z0 ?_⟩) (fun e=>by cases e) (ni_one _) (by omega) fun s3 h3 hO3=>?_
  ·rw [addr_add,Nat.zero_add]
   exact cell_row hb (by rw [List.getElem?_append_left (List.getElem?_eq_some_iff.1 hj).1];exact hj)
  rw [Nat.zero_add,List.nil_append] at hO3
  conv=>whnf
  exact hk _ _ hO3
end
end Go.Proofs.YtnjlneefddlaoaaGreat
