/-
  The laws on harts: HartNone's arguments.
-/
import Derived.Test.YtdhlpighdlnohaaGreatHnA
import Derived.Test.YtdhlpighdlnohaaGreatEvD
import Derived.Test.YtdhlpighdlnohaaGreatHnC
set_option linter.unusedSimpArgs false
set_option linter.unusedVariables false
set_option maxHeartbeats 8000000
set_option maxRecDepth 10000
set_option linter.unusedSimpArgs false
set_option linter.unusedVariables false
namespace Go.Proofs.YtdhlpighdlnohaaGreat
open Go Go.Mid Go.RowKit Go.Bits
attribute [local irreducible] mid
section
variable {h:Hp}
abbrev shCn:Sh:=.struct [(.int .i64),(.int .i64),(.int .i64),(.int .i64)]
abbrev shIn:Sh:=.struct [(.int .i64),(.int .i64),(.int .i64),(.int .i64),(.int .i64),(.int .i64),.bool,.bool]
abbrev shDe:Sh:=.struct [(.int .i64),shIn,(.int .u64),(.int .u64),.bool]
abbrev shFr:Sh:=.struct [(.slice shDe),(.int .u64),(.int .i64),(.array 32 (.int .u64)),.bool,.bool,(.slice shEn)]
theorem cn_of {cs:List Value} (w:Wf h shCn cs):∃ c:Cn,cs=c.cs:=by
 obtain ⟨a1,b1,rfl,w1,w⟩:=wfC (wfS w)
 obtain ⟨a2,b2,rfl,w2,w⟩:=wfC w
 obtain ⟨a3,b3,rfl,w3,w⟩:=wfC w
 obtain ⟨a4,b4,rfl,w4,w⟩:=wfC w
 obtain rfl:=wfN w
 obtain ⟨x1,rfl,_⟩:=wfI w1
 obtain ⟨x2,rfl,_⟩:=wfI w2
 obtain ⟨x3,rfl,_⟩:=wfI w3
 obtain ⟨x4,rfl,_⟩:=wfI w4
 exact ⟨⟨x1,x2,x3,x4⟩,rfl⟩
theorem in_of {cs:List Value} (w:Wf h shIn cs):∃ x:Ins,cs=x.cs:=by
 obtain ⟨a1,b1,rfl,w1,w⟩:=wfC (wfS w)
 obtain ⟨a2,b2,rfl,w2,w⟩:=wfC w
 obtain ⟨a3,b3,rfl,w3,w⟩:=wfC w
 obtain ⟨a4,b4,rfl,w4,w⟩:=wfC w
 obtain ⟨a5,b5,rfl,w5,w⟩:=wfC w
 obtain ⟨a6,b6,rfl,w6,w⟩:=wfC w
 obtain ⟨a7,b7,rfl,w7,w⟩:=wfC w
 obtain ⟨a8,b8,rfl,w8,w⟩:=wfC w
 obtain rfl:=wfN w
 obtain ⟨x1,rfl,_⟩:=wfI w1
 obtain ⟨x2,rfl,_⟩:=wfI w2
 obtain ⟨x3,rfl,_⟩:=wfI w3
 obtain ⟨x4,rfl,_⟩:=wfI w4
 obtain ⟨x5,rfl,_⟩:=wfI w5
 obtain ⟨x6,rfl,_⟩:=wfI w6
 obtain ⟨x7,rfl⟩:=wfB w7
 obtain ⟨x8,rfl⟩:=wfB w8
 exact ⟨⟨x1,x2,x3,x4,x5,x6,x7,x8⟩,rfl⟩
theorem de_of {cs:List Value} (w:Wf h shDe cs):∃ d:De,d.ok∧cs=d.cs:=by
 obtain ⟨a1,b1,rfl,w1,w⟩:=wfC (wfS w)
 obtain ⟨a2,b2,rfl,w2,w⟩:=wfC w
 obtain ⟨a3,b3,rfl,w3,w⟩:=wfC w
 obtain ⟨a4,b4,rfl,w4,w⟩:=wfC w
 obtain ⟨a5,b5,rfl,w5,w⟩:=wfC w
 obtain rfl:=wfN w
 obtain ⟨x1,rfl,_⟩:=wfI w1
 obtain ⟨x2,rfl⟩:=in_of w2
 obtain ⟨x3,rfl,p3⟩:=wfU w3
 obtain ⟨x4,rfl,p4⟩:=wfU w4
 obtain ⟨x5,rfl⟩:=wfB w5
 exact ⟨⟨x1,x2,x3,x4,x5⟩,⟨p3,p4⟩,by simp [De.cs]⟩
theorem rdA_of {α:Type} {ok:α→Prop} {cells:α→List Value} {t:TypeId} {n:Nat} {e:Sh} {cs:List Value} (ht:isAggT Tryz.prog t=some true) (hn:sizeT Tryz.prog t=some n) (hpos:0<n) (he:e.n=n) (hc:∀ es,Wf h e es→∃ x,ok x∧es=cells x) (w:Wf h (.slice e) cs):∃ (s:Value) (L:List α),cs=[s]∧(∀ x ∈ L,ok x)∧Rd Tryz.prog t n h s (L.map fun x=>.agg (cells x).toArray):=by
 obtain ⟨a,cap,L,rfl,_,hok,hL⟩:=slice_of (P:=Tryz.prog) ht hn hpos he hc w
 refine ⟨.slice a L.length cap,L,rfl,hok,a,cap,by rw [List.length_map],fun i v hv=>?_⟩
 rw [List.getElem?_map] at hv
 cases hx:L[i]? with
 | none=>rw [hx] at hv;cases hv
 | some x=>rw [hx] at hv;cases hv;exact hL i x hx
theorem fr_of {cs:List Value} (w:Wf h shFr cs):∃ (x:Fr) (d e:Value),x.ok∧cs=x.cs d e∧Rd Tryz.prog deT 12 h d (x.deeds.map fun d=>.agg d.cs.toArray)∧Rd Tryz.prog 78 4 h e (x.L.map fun e=>.agg e.cs.toArray):=by
 obtain ⟨a1,b1,rfl,w1,w⟩:=wfC (wfS w)
 obtain ⟨a2,b2,rfl,w2,w⟩:=wfC w
 obtain ⟨a3,b3,rfl,w3,w⟩:=wfC w
 obtain ⟨a4,b4,rfl,w4,w⟩:=wfC w
 obtain ⟨a5,b5,rfl,w5,w⟩:=wfC w
 obtain ⟨a6,b6,rfl,w6,w⟩:=wfC w
 obtain ⟨a7,b7,rfl,w7,w⟩:=wfC w
 obtain rfl:=wfN w
 obtain ⟨d,D,rfl,okD,rd⟩:=rdA_of aggDe sizDe (by decide) rfl (fun es hw=>de_of hw) w1
 obtain ⟨x2,rfl,p2⟩:=wfU w2
 obtain ⟨x3,rfl,_⟩:=wfI w3
 obtain ⟨r,hr,okr,rfl⟩:=wfA (ok:=fun n:Nat=>n<18446744073709551616) (f:=fun n:Nat=>[.int .u64 n]) (n:=32) (fun cs hw=>by obtain ⟨n,e,p⟩:=wfU hw;exact ⟨n,p,e⟩) w4
 obtain ⟨x5,rfl⟩:=wfB w5
 obtain ⟨x6,rfl⟩:=wfB w6
 obtain ⟨e,L,rfl,okL,re⟩:=rdA_of (t := 78) (by kernel_rfl) (by kernel_rfl) (by decide) rfl (fun es hw=>en_of hw) w7
 refine ⟨⟨D,x2,x3,r,x5,x6,L⟩,d,e,⟨okD,p2,hr,okr,fun q hq=>⟨(okL q hq).pg,(okL q hq).pt⟩⟩,?_,rd,re⟩
 have:(r.flatMap fun n:Nat=>[Value.int .u64 n])=wcs r:=(List.map_eq_flatMap (f:=fun n:Nat=>Value.int .u64 n) (l:=r)).symm
 rw [this]
 simp [Fr.cs]
end
end Go.Proofs.YtdhlpighdlnohaaGreat
namespace Go.Proofs.YtdhlpighdlnohaaGreat
open Go Go.Mid Go.RowKit Go.Bits
attribute [local irreducible] mid
theorem hartNone_w {cs0 cs1 cs2 cs3:List Value} (w:World) (w0:Wf (whole w) shCn cs0) (l0:cs0.length=Sh.n shCn) (w1:Wf (whole w) shFr cs1) (l1:cs1.length=Sh.n shFr) (w2:Wf (whole w) (.slice shAn) cs2) (l2:cs2.length=Sh.n (.slice shAn)) (w3:Wf (whole w) (.array 8 shRq) cs3) (l3:cs3.length=Sh.n (.array 8 shRq)) :
  X Tryz.prog 6 #[Sh.v shCn cs0,Sh.v shFr cs1,Sh.v (.slice shAn) cs2,Sh.v (.array 8 shRq) cs3] (whole w) fun v h'=>v=.bool true∧(whole w).le h':=by
 obtain ⟨c,rfl⟩:=cn_of w0
 obtain ⟨x,d,e,o,rfl,rd,re⟩:=fr_of w1
 obtain ⟨s,L,rfl,okL,rs⟩:=rdA_of aggAn sizAn (by decide) rfl (fun es hw=>an_of hw) w2
 obtain ⟨M,hM,okM,rfl⟩:=wfA (ok:=Rq.ok) (f:=Rq.cs) (n:=8) (fun cs hw=>by obtain ⟨q,o,e⟩:=rq_of hw;exact ⟨q,o,e⟩) w3
 match M,hM,okM with
 | [m0,m1,m2,m3,m4,m5,m6,m7],_,okM=>exact hartnone_x c x o d e s L m0 m1 m2 m3 m4 m5 m6 m7 rd re rs okL okM fun h' hle=>⟨rfl,hle⟩
end Go.Proofs.YtdhlpighdlnohaaGreat
