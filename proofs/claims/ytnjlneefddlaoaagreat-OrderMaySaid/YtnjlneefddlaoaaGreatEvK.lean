/-
  Events: known kinds.
-/
import Derived.Test.YtnjlneefddlaoaaGreatEvD
set_option linter.unusedSimpArgs false
set_option linter.unusedVariables false
set_option maxHeartbeats 8000000
set_option maxRecDepth 10000
set_option linter.unusedSimpArgs false
set_option linter.unusedVariables false
namespace Go.Proofs.YtnjlneefddlaoaaGreat
open Go Go.Mid Go.RowKit
attribute [local irreducible] mid
section
variable {h:Hp} {K:Value→Hp→Prop}
theorem known_x (n:Int) (hk:K (.bool (decide (1≤n∧n≤20))) h):X Tryz.prog 50 #[.int .i64 n] h K:=by
 refine fnv (args:=_) mixed [] [] [] Tryz.func50 rfl (by kernel_rfl) (cw_ ?_)
 refine br_ (fun q1=>?_) fun q1=>?_
 ·conv=>whnf
  exact kq hk (bI (by rw [Bool.eq_iff_iff];simp;omega))
 ·conv=>whnf
  exact kq hk (bI (by rw [Bool.eq_iff_iff];simp;omega))
end
end Go.Proofs.YtnjlneefddlaoaaGreat
