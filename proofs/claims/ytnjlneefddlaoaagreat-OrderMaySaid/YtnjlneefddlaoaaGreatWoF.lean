/-
  Worlds: loads and stores that may be.
-/
import Derived.Test.YtnjlneefddlaoaaGreatWoE
set_option linter.unusedSimpArgs false
set_option linter.unusedVariables false
set_option maxHeartbeats 8000000
set_option maxRecDepth 10000
set_option linter.unusedSimpArgs false
set_option linter.unusedVariables false
namespace Go.Proofs.YtnjlneefddlaoaaGreat
open Go Go.Mid Go.RowKit
attribute [local irreducible] mid
def shapedL (a:Ak):Bool:=decide ((a.size=1∨a.size=2∨a.size=4∨a.size=8)∧0≤a.cut∧a.cut<a.size)
section
variable {h:Hp} {K:Value→Hp→Prop}
theorem shapedL_x (a:Ak) (ha:a.kind=2∨a.kind=3) (hk:K (.bool (shapedL a)) h):X Tryz.prog 46 #[.agg a.cs.toArray] h K:=by
 refine X.forget ?_
 have hk2:∀ b,b=shapedL a→∃ g:Hp,g.le h∧K (.bool b) g:=fun b e=>⟨h,Hp.le_refl _,by rw [e];exact hk⟩
 unfold shapedL at hk2
 refine fnv (args:=_) mixed [] [] [] Tryz.func46 rfl (by kernel_rfl) (cw_ ?_)
 refine new_intro (o:=rowO 59 a.cs) (fun z h1 n_z le_z at_z ot_z=>cw_ ?_)
 have hk3:∀ b,b=shapedL a→∃ g:Hp,g.le h1∧K (.bool b) g:=fun b e=>⟨h,le_z,by rw [e];exact hk⟩
 unfold shapedL at hk3
 repeat' first
  | (refine ⟨_,loadC0 aggIn at_z rfl,cw_ ?_⟩)
  | (refine ⟨_,loadC (i:=4) aggIn at_z rfl,cw_ ?_⟩)
  | (refine ⟨_,loadC (i:=3) aggIn at_z rfl,cw_ ?_⟩)
  | (exfalso;omega)
  | (refine br_ (fun hq=>cw_ ?_) fun hq=>cw_ ?_)
 all_goals exact hk3 _ (by first | (symm;simp;omega) | (rw [Bool.eq_iff_iff];simp;omega) | (simp;omega))
end
end Go.Proofs.YtnjlneefddlaoaaGreat
