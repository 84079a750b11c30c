/-
  THE MIDDLE LAYER, PART NINE: the form that functions are proved in: the checks of all regions at once, ahead.
-/
import Derived.Test.YtmegglmeiecnfaaGreatMidH
namespace Go.Mid
open Go Go.RowKit

/-- Which operations leave the heap alone (a), only read it (b; d: in the regions dr, what stays as it is), or turn it (c). pf: functions that leave it as it is. -/
def clOf (P : Program) (rf : RF) (pf dr : List Nat) (id : Nat) (o : Oper) : Cl :=
  match o.op with
  | .move _ | .assign _ | .pick .. | .unOp .. | .field .. | .extract .. | .build .. | .makeFunc .. | .fieldAddr .. | .indexAddr .. | .nilCheck .. | .index .. | .slice .. | .makeInterface .. | .binOp .. => .a
  | .convert src dst _ => match P.underlying src, P.underlying dst with
    | some (.int _), some (.int _) => .a
    | some .string, some .string => .a
    | _, _ => .c
  | .alloc _ | .box _ _ => match o.dst with
    | some d => if rf.of d = some d then .a else .c
    | none => .c
  | .load _ (.tmp t) => match rf.of t with
    | some _ => .a
    | none => if dr.contains id = true then .d else .b
  | .load _ _ => .b
  | .store _ (.tmp t) _ => match rf.of t with
    | some _ => .a
    | none => .c
  | .lookup .. => .b
  | .call c => match c.callee with
    | .builtin .len => match c.argTypes.toList with
      | [t] => match P.underlying t with
        | some (.map _ _) => .b
        | _ => .a
      | _ => .c
    | .builtin .cap | .builtin .min | .builtin .max => .a
    | .value (.func f) => if pf.contains f = true then .b else .c
    | _ => .c
  | _ => .c
def okC (N : Nat) (rf : RF) (cl : Nat → Oper → Cl) : Code → Bool
  | .region id ops draw => okR N rf (cl id) ops draw
  | .seq a b => okC N rf cl a && okC N rf cl b
  | .cond _ a b => okC N rf cl a && okC N rf cl b
  | .block _ b => okC N rf cl b
  | .loop b => okC N rf cl b
  | .scope b => okC N rf cl b
  | _ => true
end Go.Mid
