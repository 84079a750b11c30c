/-
  THE MIDDLE LAYER: what an interface value holds, asserted.
-/
import Derived.Test.YtlobclgbbhoeiaaGreatDoorMidUa
import Derived.Test.YtlobclgbbhoeiaaGreatDoorMidW
namespace Go.Mid
set_option linter.unusedSimpArgs false
set_option linter.unusedVariables false
open Go Go.RowKit
/-- It holds a value of the asserted type. -/
theorem sem_ta {P : Program} {xt asserted : TypeId} {v : Value} {u : TypeDesc} (hu : P.underlying asserted = some u) (hni : ∀ ms, u ≠ .interface ms)
    {ρ : Operand → Value} {o : Oper} {x : Operand} {h : Hp} {K : Next → Hp → Prop} (ho : o.op = .typeAssert x xt asserted true) (hx : ρ x = .iface asserted v) (hk : K (.value (.tuple #[v, .bool true])) h) : semK P (execOp ρ o) h K := by
  refine ⟨?_⟩
  have e : execOp ρ o = (Instr.typeAssert (.iface asserted v) xt asserted true >>= fun v => Pure.pure (Next.value v)) := by
    unfold execOp
    simp only [ho, hx]
  rw [e]
  refine mid_bind2 ?_
  unfold Instr.typeAssert
  refine mid_bind2 (mid_underlying hu ?_)
  cases u <;> first
    | exact (hni _ rfl).elim
    | (simp only [if_true]; exact hk)
theorem XD.arg {P : Program} {f : FuncId} {args args' : Array Value} {u : FrameMode} {h : Hp} {K : FrameMode → Hp → Prop} (e : args = args') (x : XD P f args' u h K) : XD P f args u h K := e ▸ x
theorem settle_ret : settle .returning ≠ .run := by simp [settle]
theorem settle_rec {v : Value} {r : List PanicEntry} (hr : r.dropWhile (!·.goexit) = []) : settle (.panicking ({ v := v, recovered := true } :: r)) = .returning := by
  unfold settle
  simp [hr]
end Go.Mid
