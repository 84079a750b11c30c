/-
  Orders: what goes through in a world.
-/
import Derived.Test.YtnjlneefddlaoaaGreatOrE
import Derived.Test.YtnjlneefddlaoaaGreatEvQ
import Derived.Test.YtnjlneefddlaoaaGreatWoH
set_option linter.unusedSimpArgs false
set_option linter.unusedVariables false
set_option maxHeartbeats 8000000
set_option maxRecDepth 10000
set_option linter.unusedSimpArgs false
set_option linter.unusedVariables false
namespace Go.Proofs.YtnjlneefddlaoaaGreat
open Go Go.Mid Go.RowKit
attribute [local irreducible] mid
def enterW (doP:Wd→Int→Ak→Wd×An×Bool) (L:List Ev) (W:Wd) (p:Nat):Option Wd:=match L[p]? with
 | none=>none
 | some e=>if (doP W e.hart e.ask).2.2=true∧(doP W e.hart e.ask).2.1=e.ans then some (doP W e.hart e.ask).1 else none
abbrev wpt (w:Nat):Value:=.pointer (some ⟨w,0,none⟩)
abbrev wpT:TypeId := 44
def WS (k:Hp) (nb:Nat):List (Value×Wd)→Nat→Hp→Prop
 | [],_,_=>False
 | [x],w,g=>WoN k g w x.2
 | x :: y :: st,w,g=>∃ k' w1 wb,WS k nb (y :: st) w1 k'∧k' wb=none∧WoN (k'.set wb (rowO wpT [wpt w1])) g w x.2∧x.1=.func (.func 31) #[] #[wpt wb,wpt nb]
theorem WS.le {k:Hp} {nb:Nat}:∀ {st:List (Value×Wd)} {w:Nat} {g:Hp},WS k nb st w g→k.le g
 | [],_,_,h=>False.elim h
 | [_],_,_,h=>WoN.le h
 | _ :: _ :: _,_,_,⟨_,_,_,h1,h2,h3,_⟩=>Hp.le_trans (WS.le h1) (Hp.le_trans (Hp.le_set' h2) (WoN.le h3))
structure WitJ (k:Hp) (nb tb kb:Nat) (all:List (List Nat)) (st:List (Value×Wd)) (m:Nat) (b:Bool) (g:Hp):Prop where
 now:∃ w gw,g nb=some (rowO wpT [wpt w])∧WS k nb st w gw∧gw.le g∧gw nb=none∧gw tb=none∧gw kb=none
 out:(m=0∧b=true∧(∃ s0,g tb=some (rowO 29 [s0]))∧g kb=some (rowO 4 [.bool false]))∨(m=1∧b=false∧∃ sl o ob,all[0]? = some o∧g tb=some (rowO 29 [sl])∧g kb=some (rowO 4 [.bool true])∧Gr g 3 1 sl o.length (o.map ni) ob)
theorem WitJ.le {k g:Hp} {nb tb kb m:Nat} {all:List (List Nat)} {st:List (Value×Wd)} {b:Bool} (j:WitJ k nb tb kb all st m b g):k.le g:=by
 obtain ⟨⟨w,gw,h1,h2,h3,_⟩,_⟩:=j
 exact Hp.le_trans h2.le h3
section
variable {h:Hp} {K:Value→Hp→Prop}
theorem wok_len {W:Wd} (o:W.ok):W.ram.length≤2 ^ 30:=by
 have h1:=o.c
 have h2:=o.ram
 simp [wrightB] at h1
 omega
theorem row_ne {t1 t2:TypeId} {u v:Nat} {l1 l2:List Value} (ht:t1≠t2) (h1:h u=some (rowO t1 l1)) (h2:h v=some (rowO t2 l2)):u≠v:=fun e=>by
 subst e;rw [h1] at h2;exact ht (rowO_el (Option.some.inj h2))
theorem aggWp:isAggT Tryz.prog 44 = some false:=by kernel_rfl
theorem sizWp:sizeT Tryz.prog 44 = some 1:=by kernel_rfl
def DoH (doP:Wd→Int→Ak→Wd×An×Bool) (L:List Ev):Prop:=∀ (k h:Hp) (w:Nat) (W:Wd) (e:Ev) (K:Value→Hp→Prop),e ∈ L→WoN k h w W→(∀ h',WoN k h' w (doP W e.hart e.ask).1→K (.tuple #[.agg (doP W e.hart e.ask).2.1.cs.toArray,.bool (doP W e.hart e.ask).2.2]) h')→X Tryz.prog 30 #[wpt w,.int .i64 e.hart,.agg e.ask.cs.toArray] h K
theorem leave_x {k g:Hp} {nb tb kb m:Nat} {all:List (List Nat)} {st:List (Value×Wd)} {b:Bool} {c:Value} {W:Wd} {x:Value×Wd} (j:WitJ k nb tb kb all ((c,W) :: x :: st) m b g):YX Tryz.prog c [] g fun _ g'=>WitJ k nb tb kb all (x :: st) m b g':=by
 obtain ⟨⟨w,gw,h1,⟨k',w1,wb,s1,s2,s3,rfl⟩,h3,h4,h5,h6⟩,ho⟩:=j
 refine ⟨_,_,_,rfl,by kernel_rfl,?_⟩
 have hwb:g wb=some (rowO wpT [wpt w1]):=h3 _ _ (s3.le _ _ (Hp.set_same _ _ _))
 have lk:k'.le gw:=Hp.le_trans (Hp.le_set' s2) s3.le
 show X Tryz.prog _ #[wpt wb,wpt nb] g _
 refine fnv (args:=_) mixed [] [] [] Tryz.func31 rfl (by kernel_rfl) (cw_ ?_)
 refine ⟨_,loadC0 aggWp hwb rfl,cw_ ?_⟩
 refine wr_intro (by exact storeC0 sizWp h1 (Nat.zero_lt_succ 0) rfl rfl) (fun g1 at_g1 ot_g1=>cw_ ?_)
 refine ⟨⟨w1,k',at_g1,s1,fun d q e=>by rw [ot_g1 d (fun e2=>by subst e2;rw [Hp.none_le lk h4] at e;cases e)];exact h3 _ _ (lk _ _ e),Hp.none_le lk h4,Hp.none_le lk h5,Hp.none_le lk h6⟩,?_⟩
 rcases ho with ⟨e1,e2,⟨s0,e3⟩,e4⟩ | ⟨e1,e2,sl,o,ob,e3,e4,e5,e6⟩
 ·exact .inl ⟨e1,e2,⟨s0,(ot_g1 tb (row_ne (by decide) e3 h1)).trans e3⟩,(ot_g1 kb (row_ne (by decide) e4 h1)).trans e4⟩
 ·exact .inr ⟨e1,e2,sl,o,ob,e3,(ot_g1 tb (row_ne (by decide) e4 h1)).trans e4,(ot_g1 kb (row_ne (by decide) e5 h1)).trans e5,e6.agree fun x e=>ot_g1 x (e6.offR h1 (by decide) x e)⟩
theorem found_x {k g gp:Hp} {nb tb kb m:Nat} {all:List (List Nat)} {st:List (Value×Wd)} {o:List Nat} {sl:Value} (hm:all[m]? = some o) (j:WitJ k nb tb kb all st m true g) (hO:Owns g gp 3 1 sl o.length (o.map ni)):X Tryz.prog 32 #[sl,wpt tb,wpt kb] gp fun v g'=>v=.bool false∧WitJ k nb tb kb all st (m+1) false g':=by
 obtain ⟨⟨w,gw,h1,s1,h3,h4,h5,h6⟩,ho⟩:=j
 rcases ho with ⟨e1,_,⟨s0,e3⟩,e4⟩ | ⟨_,hh,_⟩
 ·subst e1
  have l0:=hO.le
  obtain ⟨ob,gr,le,no⟩:=hO
  obtain ⟨a,c,rfl⟩:=gr.shape
  have t1:=le _ _ e3
  have t2:=le _ _ e4
  have tk:=row_ne (by decide) t1 t2
  refine fnv (args:=_) mixed [] [] [] Tryz.func32 rfl (by kernel_rfl) (cw_ ?_)
  refine wr_intro (by exact storeC0 sizIs t1 (Nat.zero_lt_succ 0) rfl rfl) (fun g1 at_g1 ot_g1=>cw_ ?_)
  refine wr_intro (by exact storeC0 sizBo ((ot_g1 kb (Ne.symm tk)).trans t2) (Nat.zero_lt_succ 0) rfl rfl) (fun g2 at_g2 ot_g2=>cw_ ?_)
  refine ⟨rfl,⟨w,gw,?_,s1,fun d q e=>?_,h4,h5,h6⟩,.inr ⟨rfl,rfl,_,o,ob,hm,(ot_g2 tb tk).trans at_g1,at_g2,gr.agree fun x e=>?_⟩⟩
  ·have q1:=le _ _ h1
   rw [ot_g2 nb (row_ne (by decide) q1 t2),ot_g1 nb (row_ne (by decide) q1 t1)];exact q1
  ·rw [ot_g2 d (fun e2=>by subst e2;rw [h6] at e;cases e),ot_g1 d (fun e2=>by subst e2;rw [h5] at e;cases e)]
   exact le _ _ (h3 _ _ e)
  ·rw [ot_g2 x (gr.offR t2 (by decide) x e),ot_g1 x (gr.offR t1 (by decide) x e)]
 ·cases hh
end
end Go.Proofs.YtnjlneefddlaoaaGreat
