/-
  Events as data.
-/
import Derived.Test.YtnjlneefddlaoaaGreatMidW
import Derived.Test.YtnjlneefddlaoaaGreatProg
import Derived.KernelRfl
import Derived.Test.YtnjlneefddlaoaaGreatMidY
set_option linter.unusedSimpArgs false
set_option linter.unusedVariables false
set_option maxHeartbeats 8000000
set_option maxRecDepth 10000
set_option linter.unusedSimpArgs false
set_option linter.unusedVariables false
namespace Go.Proofs.YtnjlneefddlaoaaGreat
open Go Go.Mid Go.RowKit
theorem mixed:Tryz.prog.follows .mixedOrders=true:=by kernel_rfl
abbrev Str:=List UInt8
theorem aggU:isAggT Tryz.prog 52 = some false:=by kernel_rfl
theorem sizU:sizeT Tryz.prog 52 = some 1:=by kernel_rfl
theorem aggBo:isAggT Tryz.prog 4 = some false:=by kernel_rfl
theorem sizBo:sizeT Tryz.prog 4 = some 1:=by kernel_rfl
theorem aggIn:isAggT Tryz.prog 3 = some false:=by kernel_rfl
theorem sizIn:sizeT Tryz.prog 3 = some 1:=by kernel_rfl
theorem aggU8:isAggT Tryz.prog 5 = some false:=by kernel_rfl
theorem sizU8:sizeT Tryz.prog 5 = some 1:=by kernel_rfl
end Go.Proofs.YtnjlneefddlaoaaGreat
namespace Go.Proofs.YtnjlneefddlaoaaGreat
open Go Go.Mid Go.RowKit
attribute [local irreducible] mid
structure Rq where
 s:Bool
 v:Bool
 a:Bool
 va:Nat
 asid:Int
structure En where
 asid:Int
 page:Nat
 level:Int
 pte:Nat
structure Ak where
 kind:Int
 addr:Nat
 next:Nat
 cut:Int
 size:Int
 op:Int
 data:Nat
 old:Nat
 live:Bool
 hart:Int
 req:Rq
 ent:En
structure An where
 data:Nat
 good:Bool
 m0:Rq
 m1:Rq
 m2:Rq
 m3:Rq
 m4:Rq
 m5:Rq
 m6:Rq
 m7:Rq
structure Ev where
 hart:Int
 ask:Ak
 ans:An
 from_:Int
 at_:Int
 to:Int
abbrev Rq.cs (q:Rq):List Value:=[.bool q.s,.bool q.v,.bool q.a,.int .u64 q.va,.int .i64 q.asid]
abbrev En.cs (q:En):List Value:=[.int .i64 q.asid,.int .u64 q.page,.int .i64 q.level,.int .u64 q.pte]
def Ak.cs (a:Ak):List Value:=[.int .i64 a.kind,.int .u64 a.addr,.int .u64 a.next,.int .i64 a.cut,.int .i64 a.size,.int .i64 a.op,.int .u64 a.data,.int .u64 a.old,.bool a.live,.int .i64 a.hart]++(a.req.cs++a.ent.cs)
def An.ms (b:An):List Rq:=[b.m0,b.m1,b.m2,b.m3,b.m4,b.m5,b.m6,b.m7]
def An.cs (b:An):List Value:=[.int .u64 b.data,.bool b.good]++b.ms.flatMap Rq.cs
def Ev.cs (e:Ev):List Value:=[.int .i64 e.hart]++(e.ask.cs++(e.ans.cs++[.int .i64 e.from_,.int .i64 e.at_,.int .i64 e.to]))
def Rq.val (q:Rq):Value:=.agg q.cs.toArray
def Ak.val (a:Ak):Value:=.agg a.cs.toArray
def An.val (b:An):Value:=.agg b.cs.toArray
def Ev.val (e:Ev):Value:=.agg e.cs.toArray
attribute [irreducible] Ak.val An.val Ev.val Rq.val
structure Rq.ok (q:Rq):Prop where
 va:q.va<18446744073709551616
 lo : -9223372036854775808≤q.asid
 hi:q.asid≤9223372036854775807
abbrev Rq.zero:Rq:=⟨false,false,false,0,0⟩
abbrev En.zero:En:=⟨0,0,0,0⟩
abbrev An.zero:An:=⟨0,false,Rq.zero,Rq.zero,Rq.zero,Rq.zero,Rq.zero,Rq.zero,Rq.zero,Rq.zero⟩
theorem aggAk:isAggT Tryz.prog 59 = some true:=by kernel_rfl
theorem sizAk:sizeT Tryz.prog 59 = some 19:=by kernel_rfl
theorem aggAn:isAggT Tryz.prog 62 = some true:=by kernel_rfl
theorem sizAn:sizeT Tryz.prog 62 = some 42:=by kernel_rfl
structure En.ok (q:En):Prop where
 lo : -9223372036854775808≤q.asid
 hi:q.asid≤9223372036854775807
 pg:q.page<18446744073709551616
 lo2 : -9223372036854775808≤q.level
 hi2:q.level≤9223372036854775807
 pt:q.pte<18446744073709551616
structure Ak.ok (a:Ak):Prop where
 addr:a.addr<18446744073709551616
 next:a.next<18446744073709551616
 cut0 : -9223372036854775808≤a.cut
 cut1:a.cut≤9223372036854775807
 size0 : -9223372036854775808≤a.size
 size1:a.size≤9223372036854775807
 data:a.data<18446744073709551616
 old:a.old<18446744073709551616
 hart0 : -9223372036854775808≤a.hart
 hart1:a.hart≤9223372036854775807
 req:a.req.ok
 ent:a.ent.ok
structure An.ok (b:An):Prop where
 data:b.data<18446744073709551616
 ms:∀ q ∈ b.ms,q.ok
structure Ev.ok (e:Ev):Prop where
 hart0 : -9223372036854775808≤e.hart
 hart1:e.hart≤9223372036854775807
 ask:e.ask.ok
 ans:e.ans.ok
 from0 : -9223372036854775808≤e.from_
 from1:e.from_≤9223372036854775807
 at0 : -9223372036854775808≤e.at_
 at1:e.at_≤9223372036854775807
 to0 : -9223372036854775808≤e.to
 to1:e.to≤9223372036854775807
section
variable {h:Hp} {K:Value→Hp→Prop}
abbrev shRq:Sh:=.struct [.bool,.bool,.bool,(.int .u64),(.int .i64)]
abbrev shEn:Sh:=.struct [(.int .i64),(.int .u64),(.int .i64),(.int .u64)]
abbrev shAk:Sh:=.struct [(.int .i64),(.int .u64),(.int .u64),(.int .i64),(.int .i64),(.int .i64),(.int .u64),(.int .u64),.bool,(.int .i64),shRq,shEn]
abbrev shAn:Sh:=.struct [(.int .u64),.bool,(.array 8 shRq)]
abbrev shEv:Sh:=.struct [(.int .i64),shAk,shAn,(.int .i64),(.int .i64),(.int .i64)]
theorem rq_of {cs:List Value} (w:Wf h shRq cs):∃ q:Rq,q.ok∧cs=q.cs:=by
 obtain ⟨a1,b1,rfl,w1,w⟩:=wfC (wfS w)
 obtain ⟨a2,b2,rfl,w2,w⟩:=wfC w
 obtain ⟨a3,b3,rfl,w3,w⟩:=wfC w
 obtain ⟨a4,b4,rfl,w4,w⟩:=wfC w
 obtain ⟨a5,b5,rfl,w5,w⟩:=wfC w
 obtain rfl:=wfN w
 obtain ⟨x1,rfl⟩:=wfB w1
 obtain ⟨x2,rfl⟩:=wfB w2
 obtain ⟨x3,rfl⟩:=wfB w3
 obtain ⟨x4,rfl,p4⟩:=wfU w4
 obtain ⟨x5,rfl,p5,q5⟩:=wfI w5
 exact ⟨⟨x1,x2,x3,x4,x5⟩,⟨p4,p5,q5⟩,rfl⟩
theorem en_of {cs:List Value} (w:Wf h shEn cs):∃ q:En,q.ok∧cs=q.cs:=by
 obtain ⟨a1,b1,rfl,w1,w⟩:=wfC (wfS w)
 obtain ⟨a2,b2,rfl,w2,w⟩:=wfC w
 obtain ⟨a3,b3,rfl,w3,w⟩:=wfC w
 obtain ⟨a4,b4,rfl,w4,w⟩:=wfC w
 obtain rfl:=wfN w
 obtain ⟨x1,rfl,p1,q1⟩:=wfI w1
 obtain ⟨x2,rfl,p2⟩:=wfU w2
 obtain ⟨x3,rfl,p3,q3⟩:=wfI w3
 obtain ⟨x4,rfl,p4⟩:=wfU w4
 exact ⟨⟨x1,x2,x3,x4⟩,⟨p1,q1,p2,p3,q3,p4⟩,rfl⟩
theorem ak_of {cs:List Value} (w:Wf h shAk cs):∃ q:Ak,q.ok∧cs=q.cs:=by
 obtain ⟨a1,b1,rfl,w1,w⟩:=wfC (wfS w)
 obtain ⟨a2,b2,rfl,w2,w⟩:=wfC w
 obtain ⟨a3,b3,rfl,w3,w⟩:=wfC w
 obtain ⟨a4,b4,rfl,w4,w⟩:=wfC w
 obtain ⟨a5,b5,rfl,w5,w⟩:=wfC w
 obtain ⟨a6,b6,rfl,w6,w⟩:=wfC w
 obtain ⟨a7,b7,rfl,w7,w⟩:=wfC w
 obtain ⟨a8,b8,rfl,w8,w⟩:=wfC w
 obtain ⟨a9,b9,rfl,w9,w⟩:=wfC w
 obtain ⟨a10,b10,rfl,w10,w⟩:=wfC w
 obtain ⟨a11,b11,rfl,w11,w⟩:=wfC w
 obtain ⟨a12,b12,rfl,w12,w⟩:=wfC w
 obtain rfl:=wfN w
 obtain ⟨x1,rfl,p1,q1⟩:=wfI w1
 obtain ⟨x2,rfl,p2⟩:=wfU w2
 obtain ⟨x3,rfl,p3⟩:=wfU w3
 obtain ⟨x4,rfl,p4,q4⟩:=wfI w4
 obtain ⟨x5,rfl,p5,q5⟩:=wfI w5
 obtain ⟨x6,rfl,p6,q6⟩:=wfI w6
 obtain ⟨x7,rfl,p7⟩:=wfU w7
 obtain ⟨x8,rfl,p8⟩:=wfU w8
 obtain ⟨x9,rfl⟩:=wfB w9
 obtain ⟨x10,rfl,p10,q10⟩:=wfI w10
 obtain ⟨x11,p11,rfl⟩:=rq_of w11
 obtain ⟨x12,p12,rfl⟩:=en_of w12
 exact ⟨⟨x1,x2,x3,x4,x5,x6,x7,x8,x9,x10,x11,x12⟩,⟨p2,p3,p4,q4,p5,q5,p7,p8,p10,q10,p11,p12⟩,by simp [Ak.cs]⟩
theorem an_of {cs:List Value} (w:Wf h shAn cs):∃ q:An,q.ok∧cs=q.cs:=by
 obtain ⟨a1,b1,rfl,w1,w⟩:=wfC (wfS w)
 obtain ⟨a2,b2,rfl,w2,w⟩:=wfC w
 obtain ⟨a3,b3,rfl,w3,w⟩:=wfC w
 obtain rfl:=wfN w
 obtain ⟨x1,rfl,p1⟩:=wfU w1
 obtain ⟨x2,rfl⟩:=wfB w2
 obtain ⟨l,hl,ho,rfl⟩:=wfA (fun _=>rq_of) w3
 match l,hl with
 | [m0,m1,m2,m3,m4,m5,m6,m7],_=>exact ⟨⟨x1,x2,m0,m1,m2,m3,m4,m5,m6,m7⟩,⟨p1,ho⟩,by simp [An.cs,An.ms]⟩
theorem ev_of {cs:List Value} (w:Wf h shEv cs):∃ q:Ev,q.ok∧cs=q.cs:=by
 obtain ⟨a1,b1,rfl,w1,w⟩:=wfC (wfS w)
 obtain ⟨a2,b2,rfl,w2,w⟩:=wfC w
 obtain ⟨a3,b3,rfl,w3,w⟩:=wfC w
 obtain ⟨a4,b4,rfl,w4,w⟩:=wfC w
 obtain ⟨a5,b5,rfl,w5,w⟩:=wfC w
 obtain ⟨a6,b6,rfl,w6,w⟩:=wfC w
 obtain rfl:=wfN w
 obtain ⟨x1,rfl,p1,q1⟩:=wfI w1
 obtain ⟨x2,p2,rfl⟩:=ak_of w2
 obtain ⟨x3,p3,rfl⟩:=an_of w3
 obtain ⟨x4,rfl,p4,q4⟩:=wfI w4
 obtain ⟨x5,rfl,p5,q5⟩:=wfI w5
 obtain ⟨x6,rfl,p6,q6⟩:=wfI w6
 exact ⟨⟨x1,x2,x3,x4,x5,x6⟩,⟨p1,q1,p2,p3,p4,q4,p5,q5,p6,q6⟩,by simp [Ev.cs]⟩
theorem aggKi:isAggT Tryz.prog 51 = some false:=by kernel_rfl
theorem aggEv:isAggT Tryz.prog 64 = some true:=by kernel_rfl
theorem sizEv:sizeT Tryz.prog 64 = some 65:=by kernel_rfl
abbrev RdE (h:Hp) (s:Value) (L:List Ev):Prop:=Rd Tryz.prog 64 65 h s (L.map fun e=>Value.agg e.cs.toArray)
theorem rdE {s:Value} {L:List Ev} (r:RdE h s L):∃ base cap,s=.slice base L.length cap∧∀ i x,L[i]? = some x→∃ a,base=some a∧loadH Tryz.prog 64 h (a.add (i*65))=some (.agg x.cs.toArray):=by
 obtain ⟨base,cap,e,f⟩:=r
 refine ⟨base,cap,by rw [e];simp,fun i x hx=>f i _ ?_⟩
 rw [List.getElem?_map,hx];rfl
theorem ev_len (e:Ev):e.cs.length=65:=by simp [Ev.cs,Ak.cs,An.cs,An.ms]
theorem ev_one (e:Ev):e.cs.all Value.oneCell'=true:=by simp [Ev.cs,Ak.cs,An.cs,An.ms,Value.oneCell']
theorem rq0_ok:Rq.zero.ok:=⟨by decide,by decide,by decide⟩
end
end Go.Proofs.YtnjlneefddlaoaaGreat
