/-
  THE MIDDLE LAYER, PART NINE: the form that functions are proved in: the checks of all regions at once, ahead.
-/
import Derived.Test.YtnjlneefddlaoaaGreatMidH
set_option linter.unusedSimpArgs false
set_option linter.unusedVariables false
set_option maxHeartbeats 8000000
set_option maxRecDepth 10000
set_option linter.unusedSimpArgs false
set_option linter.unusedVariables false
namespace Go.Mid
open Go Go.RowKit
def dstIn (dr:List Nat) (o:Oper):Bool:=match o.dst with
 | some d=>dr.contains d
 | none=>false
def clOf (P:Program) (rf:RF) (pf dr:List Nat) (_:Nat) (o:Oper):Cl :=
 match o.op with
 | .move _ | .assign _ | .pick .. | .unOp .. | .field .. | .extract .. | .build .. | .makeFunc .. | .fieldAddr .. | .indexAddr .. | .nilCheck .. | .index .. | .slice .. | .makeInterface .. | .binOp ..=>.a
 | .convert src dst _=>match P.underlying src,P.underlying dst with
  | some (.int _),some (.int _)=>.a
  | some .string,some .string=>.a
  | _,_=>.c
 | .alloc _ | .box _ _=>match o.dst with
  | some d=>if rf.of d=some d then .a else .n
  | none=>.n
 | .buildSlice .. | .makeSlice .. | .makeMap .. | .range ..=>.n
 | .load _ (.tmp t)=>match rf.of t with
  | some _=>.a
  | none=>if dstIn dr o=true then .d else .b
 | .load _ _=>if dstIn dr o=true then .d else .b
 | .store _ (.tmp t) _=>match rf.of t with
  | some _=>.a
  | none=>.c
 | .entryStore ..=>.e
 | .lookup ..=>if dstIn dr o=true then .d else .b
 | .call c=>match c.callee with
  | .builtin .len=>match c.argTypes.toList with
   | [t]=>match P.underlying t with
    | some (.map _ _)=>if dstIn dr o=true then .d else .b
    | _=>.a
   | _=>.c
  | .builtin .cap | .builtin .min | .builtin .max=>.a
  | .value (.func f)=>if pf.contains f=true then .b else .c
  | _=>.c
 | _=>.c
def okRU (rf:RF) (cl:Oper→Cl) (pm:List (Nat×List Nat)) (id:Nat) (ops:Array Oper) (draw:Bool):Bool:=match draw with
 | false=>true
 | true=>match memU id (pansOf pm) with
  | true=>okU rf cl pm id ops
  | false=>true
def okC (N:Nat) (rf:RF) (cl:Nat→Oper→Cl) (pm:List (Nat×List Nat)):Code→Bool
 | .region id ops draw=>okR N rf (cl id) pm id ops draw && okRU rf (cl id) pm id ops draw
 | .seq a b=>okC N rf cl pm a && okC N rf cl pm b
 | .cond _ a b=>okC N rf cl pm a && okC N rf cl pm b
 | .block _ b=>okC N rf cl pm b
 | .loop b=>okC N rf cl pm b
 | .scope b=>okC N rf cl pm b
 | .rangeFunc _ ps a b=>(flat a && flat b) && (ps.toList.all (fun t=>decide (t<N)) && (okC N rf cl pm a && okC N rf cl pm b))
 | _=>true
end Go.Mid
