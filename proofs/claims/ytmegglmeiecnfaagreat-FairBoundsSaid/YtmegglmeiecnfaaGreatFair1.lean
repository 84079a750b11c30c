/-
  Whether picks are fair (package fair), over the middle layer.
-/
import Derived.Test.YtmegglmeiecnfaaGreatMidV
import Derived.Test.YtmegglmeiecnfaaGreatProg
import Derived.KernelRfl
import Derived.IntWalk
namespace Go.Proofs.YtmegglmeiecnfaaGreat
open Go Go.Mid Go.RowKit
attribute [local irreducible] X MLoop mid
theorem mixed : Tryz.prog.follows .mixedOrders = true := by kernel_rfl
theorem cellH (h : Hp) (a : Addr) : loadH Tryz.prog 3 h a = h.cell? a := by
  have : isAggT Tryz.prog 3 = some false := by kernel_rfl
  unfold loadH; rw [this]
/-- how long since h -/
def gone (h : Int) (l : List Int) : Nat := l.foldl (fun g p => if p = h then 0 else g + 1) 0
theorem gone_snoc (h : Int) (l : List Int) (j : Nat) (hj : j < l.length) : gone h (l.take (j + 1)) = if l.getD j 0 = h then 0 else gone h (l.take j) + 1 := by
  unfold gone
  rw [List.take_succ_eq_append_getElem hj, List.foldl_append]
  simp [hj]
theorem gone_le (h : Int) : ∀ (l : List Int), gone h l ≤ l.length := by
  intro l
  have : ∀ (l : List Int) (g : Nat), l.foldl (fun g p => if p = h then 0 else g + 1) g ≤ g + l.length := by
    intro l
    induction l with
    | nil => intro g; simp
    | cons p l ih => intro g; simp only [List.foldl_cons, List.length_cons]; have h1 := ih 0; have h2 := ih (g + 1); split <;> omega
  have := this l 0
  unfold gone; omega
def okUpto (l : List Int) (k : Int) (m : Nat) : Prop := ∀ m' : Nat, m' < m → ∀ j, j ≤ l.length → (gone m' (l.take j) : Int) < k
theorem vint {a b : Int} (h : a = b) : MV.v (.int .i64 a) = MV.v (.int .i64 b) := by rw [h]
end Go.Proofs.YtmegglmeiecnfaaGreat
