/-
  Orders: which place must stand ahead of which.
-/
import Derived.Test.YtnjlneefddlaoaaGreatEvD
set_option linter.unusedSimpArgs false
set_option linter.unusedVariables false
set_option maxHeartbeats 8000000
set_option maxRecDepth 10000
set_option linter.unusedSimpArgs false
set_option linter.unusedVariables false
namespace Go.Proofs.YtnjlneefddlaoaaGreat
open Go Go.Mid Go.RowKit
attribute [local irreducible] mid
def aheadB (x y:Ev) (a b:Int):Bool:=decide (x.to<y.from_∨(0≤x.hart∧x.hart=y.hart∧(x.from_<y.from_∨(x.from_=y.from_∧a<b))))
def mustB (L:List Ev) (a b:Int):Bool:=if a<0∨b<0∨(L.length:Int)≤a∨(L.length:Int)≤b∨a=b then false else match L[a.toNat]?,L[b.toNat]? with
 | some x,some y=>aheadB x y a b
 | _,_=>false
theorem mustB_out {L:List Ev} {a b:Int} (h:a<0∨b<0∨(L.length:Int)≤a∨(L.length:Int)≤b∨a=b):mustB L a b=false:=if_pos h
theorem mustB_in {L:List Ev} {a b:Int} {x y:Ev} (h:¬ (a<0∨b<0∨(L.length:Int)≤a∨(L.length:Int)≤b∨a=b)) (ha:L[a.toNat]? = some x) (hb:L[b.toNat]? = some y):mustB L a b=aheadB x y a b:=by
 unfold mustB
 rw [if_neg h,ha,hb]
section
variable {h:Hp} {K:Value→Hp→Prop}
theorem must_x (s:Value) (L:List Ev) (hL:RdE h s L) (a b:Int) (hk:K (.bool (mustB L a b)) h):X Tryz.prog 10 #[s,.int .i64 a,.int .i64 b] h K:=by
 obtain ⟨base,cap,rfl,f⟩:=rdE hL
 refine X.forget ?_
 refine fnv (args:=_) mixed [] [] [39] Tryz.func10 rfl (by kernel_rfl) (cw_ ?_)
 refine br_ (fun q1=>?_) fun q1=>?_
 ·rw [mustB_out (by omega)] at hk
  conv=>whnf
  exact ⟨h,Hp.le_refl _,hk⟩
 conv=>whnf
 refine br_ (fun q2=>?_) fun q2=>?_
 ·rw [mustB_out (by omega)] at hk
  conv=>whnf
  exact ⟨h,Hp.le_refl _,hk⟩
 conv=>whnf
 refine br_ (fun q3=>?_) fun q3=>?_
 ·rw [mustB_out (by omega)] at hk
  conv=>whnf
  exact ⟨h,Hp.le_refl _,hk⟩
 conv=>whnf
 refine br_ (fun q4=>?_) fun q4=>?_
 ·rw [mustB_out (by omega)] at hk
  conv=>whnf
  exact ⟨h,Hp.le_refl _,hk⟩
 conv=>whnf
 refine br_ (fun q5=>?_) fun q5=>?_
 ·rw [mustB_out (by omega)] at hk
  conv=>whnf
  exact ⟨h,Hp.le_refl _,hk⟩
 obtain ⟨x,hx⟩:∃ x,L[a.toNat]? = some x:=⟨_,List.getElem?_eq_getElem (by omega)⟩
 obtain ⟨y,hy⟩:∃ y,L[b.toNat]? = some y:=⟨_,List.getElem?_eq_getElem (by omega)⟩
 obtain ⟨a1,rfl,e1⟩:=f a.toNat x hx
 obtain ⟨a2,h2,e2⟩:=f b.toNat y hy
 cases h2
 rw [mustB_in (by omega) hx hy] at hk
 conv=>whnf
 refine ⟨fun z=>h.le z,fun _ _ i l=>Hp.le_trans i l,Hp.le_refl _,cw_ ?_⟩
 refine n_ ?_
 refine ⟨_,e1,cw_ ?_⟩
 refine n_ ?_
 refine ⟨_,fun _ e=>loadH_le e e2,cw_ ?_⟩
 refine new_intro (o:=_) (fun bx h1 n_bx le_bx at_bx ot_bx=>cw_ ?_)
 refine new_intro (o:=_) (fun by_ h2 n_by_ le_by_ at_by_ ot_by_=>cw_ ?_)
 refine wr_intro (by exact storeA0 (z:=.agg x.cs.toArray) sizEv (le_by_ _ _ at_bx) rfl (ev_len x) (ev_one x)) (fun h3 at_h3 ot_h3=>cw_ ?_)
 have le3:h.le h3:=fun c o hc=>by
  rw [ot_h3 c (Hp.ne n_bx hc)];exact le_by_ _ _ (le_bx _ _ hc)
 have nxy:by_≠bx:=fun e=>by subst e;rw [n_by_] at at_bx;cases at_bx
 refine ⟨le3,cw_ ?_⟩
 refine wr_intro (by exact storeA0 (z:=.agg y.cs.toArray) sizEv ((ot_h3 by_ nxy).trans at_by_) rfl (ev_len y) (ev_one y)) (fun h4 at_h4 ot_h4=>cw_ ?_)
 have hx4:h4 bx=some (rowO 64 x.cs):=(ot_h4 bx (Ne.symm nxy)).trans at_h3
 have hy4:h4 by_=some (rowO 64 y.cs):=at_h4
 have le4:h.le h4:=fun c o hc=>by
  have c1:c≠bx:=Hp.ne n_bx hc
  have c2:c≠by_:=Hp.ne n_by_ (le_bx _ _ hc)
  rw [ot_h4 c c2,ot_h3 c c1];exact le_by_ _ _ (le_bx _ _ hc)
 refine ⟨le4,cw_ ?_⟩
 have fin:∀ c,c=aheadB x y a b→∃ g:Hp,g.le h4∧K (.bool c) g:=fun c hc=>⟨h,le4,by rw [hc];exact hk⟩
 unfold aheadB at fin
 refine ⟨_,loadC (i:=64) aggIn hx4 rfl,cw_ ?_⟩
 refine ⟨_,loadC (i:=62) aggIn hy4 rfl,cw_ ?_⟩
 refine br_ (fun q6=>?_) fun q6=>?_
 ·conv=>whnf
  exact fin _ (by symm;simp;omega)
 conv=>whnf
 refine ⟨_,loadC0 aggIn hx4 rfl,cw_ ?_⟩
 refine br_ (fun q7=>?_) fun q7=>?_
 ·conv=>whnf
  refine ⟨_,loadC0 aggIn hx4 rfl,cw_ ?_⟩
  refine ⟨_,loadC0 aggIn hy4 rfl,cw_ ?_⟩
  refine br_ (fun q8=>?_) fun q8=>?_
  ·conv=>whnf
   refine ⟨_,loadC (i:=62) aggIn hx4 rfl,cw_ ?_⟩
   refine ⟨_,loadC (i:=62) aggIn hy4 rfl,cw_ ?_⟩
   refine br_ (fun q9=>?_) fun q9=>?_
   ·conv=>whnf
    exact fin _ (by symm;simp;omega)
   ·conv=>whnf
    refine ⟨_,loadC (i:=62) aggIn hx4 rfl,cw_ ?_⟩
    refine ⟨_,loadC (i:=62) aggIn hy4 rfl,cw_ ?_⟩
    refine br_ (fun q10=>?_) fun q10=>?_
    ·conv=>whnf
     exact fin _ (by rw [Bool.eq_iff_iff];simp;omega)
    ·conv=>whnf
     exact fin _ (by symm;simp;omega)
  ·conv=>whnf
   exact fin _ (by symm;simp;omega)
 ·conv=>whnf
  exact fin _ (by symm;simp;omega)
theorem rmust_x (s:Value) (L:List Ev) (hL:RdE h s L) (a b:Int) (hk:K (.bool (mustB L a b)) h):X Tryz.prog 11 #[s,.int .i64 a,.int .i64 b] h K:=by
 obtain ⟨base,cap,rfl,f⟩:=rdE hL
 refine fnv (args:=_) mixed [] [] [] Tryz.func11 rfl (by kernel_rfl) (cw_ ?_)
 refine br_ (fun q1=>?_) fun q1=>?_
 ·rw [mustB_out (by omega)] at hk
  conv=>whnf
  exact hk
 conv=>whnf
 refine br_ (fun q2=>?_) fun q2=>?_
 ·rw [mustB_out (by omega)] at hk
  conv=>whnf
  exact hk
 conv=>whnf
 refine br_ (fun q3=>?_) fun q3=>?_
 ·rw [mustB_out (by omega)] at hk
  conv=>whnf
  exact hk
 conv=>whnf
 refine br_ (fun q4=>?_) fun q4=>?_
 ·rw [mustB_out (by omega)] at hk
  conv=>whnf
  exact hk
 conv=>whnf
 refine br_ (fun q5=>?_) fun q5=>?_
 ·rw [mustB_out (by omega)] at hk
  conv=>whnf
  exact hk
 obtain ⟨x,hx⟩:∃ x,L[a.toNat]? = some x:=⟨_,List.getElem?_eq_getElem (by omega)⟩
 obtain ⟨y,hy⟩:∃ y,L[b.toNat]? = some y:=⟨_,List.getElem?_eq_getElem (by omega)⟩
 obtain ⟨a1,rfl,e1⟩:=f a.toNat x hx
 obtain ⟨a2,h2,e2⟩:=f b.toNat y hy
 cases h2
 rw [mustB_in (by omega) hx hy] at hk
 have cx:∀ k v,x.cs[k]? = some v→h.cell? ((a1.add (a.toNat*65)).add k)=some v:=fun k v hv=>loadH_cellOf aggEv sizEv e1 (by simpa using hv)
 have cy:∀ k v,y.cs[k]? = some v→h.cell? ((a1.add (b.toNat*65)).add k)=some v:=fun k v hv=>loadH_cellOf aggEv sizEv e2 (by simpa using hv)
 have fin:∀ c,c=aheadB x y a b→K (.bool c) h:=fun c hc=>by rw [hc];exact hk
 unfold aheadB at fin
 conv=>whnf
 refine n_ ?_
 refine ⟨_,(loadH_cell aggIn _ _).trans (cx 64 _ rfl),cw_ ?_⟩
 refine n_ ?_
 refine ⟨_,(loadH_cell aggIn _ _).trans (cy 62 _ rfl),cw_ ?_⟩
 refine br_ (fun q6=>?_) fun q6=>?_
 ·conv=>whnf
  exact fin _ (by symm;simp;omega)
 conv=>whnf
 refine n_ ?_
 refine ⟨_,(loadH_cell aggIn _ _).trans (cx 0 _ rfl),cw_ ?_⟩
 refine br_ (fun q7=>?_) fun q7=>?_
 ·conv=>whnf
  exact fin _ (by symm;simp;omega)
 conv=>whnf
 refine n_ ?_
 refine ⟨_,(loadH_cell aggIn _ _).trans (cx 0 _ rfl),cw_ ?_⟩
 refine n_ ?_
 refine ⟨_,(loadH_cell aggIn _ _).trans (cy 0 _ rfl),cw_ ?_⟩
 refine br_ (fun q8=>?_) fun q8=>?_
 ·conv=>whnf
  exact fin _ (by symm;simp;omega)
 conv=>whnf
 refine n_ ?_
 refine ⟨_,(loadH_cell aggIn _ _).trans (cx 62 _ rfl),cw_ ?_⟩
 refine n_ ?_
 refine ⟨_,(loadH_cell aggIn _ _).trans (cy 62 _ rfl),cw_ ?_⟩
 refine br_ (fun q9=>?_) fun q9=>?_
 ·conv=>whnf
  exact fin _ (by symm;simp;omega)
 ·conv=>whnf
  refine n_ ?_
  refine ⟨_,(loadH_cell aggIn _ _).trans (cx 62 _ rfl),cw_ ?_⟩
  refine n_ ?_
  refine ⟨_,(loadH_cell aggIn _ _).trans (cy 62 _ rfl),cw_ ?_⟩
  refine br_ (fun q10=>?_) fun q10=>?_
  ·conv=>whnf
   exact fin _ (by rw [Bool.eq_iff_iff];simp;omega)
  ·conv=>whnf
   exact fin _ (by symm;simp;omega)
end
end Go.Proofs.YtnjlneefddlaoaaGreat
