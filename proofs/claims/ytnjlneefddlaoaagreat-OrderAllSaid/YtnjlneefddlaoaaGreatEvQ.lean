/-
  Events as data: are two the same?
-/
import Derived.Test.YtnjlneefddlaoaaGreatEvD
set_option linter.unusedSimpArgs false
set_option linter.unusedVariables false
set_option maxHeartbeats 8000000
set_option maxRecDepth 10000
set_option linter.unusedSimpArgs false
set_option linter.unusedVariables false
namespace Go.Proofs.YtnjlneefddlaoaaGreat
open Go Go.Mid Go.RowKit
attribute [local irreducible] mid
section
deriving instance DecidableEq for Rq
deriving instance DecidableEq for En
deriving instance DecidableEq for An
def rqEq (q r:Rq):Bool:=(q.s==r.s) && ((q.v==r.v) && ((q.a==r.a) && (((q.va:Int)==(r.va:Int)) && ((q.asid==r.asid) && true))))
theorem rqEq_of (q r:Rq):rqEq q r=decide (q=r):=by
 obtain ⟨s,v,a,va,asid⟩:=q
 obtain ⟨s',v',a',va',asid'⟩:=r
 unfold rqEq
 rw [Bool.eq_iff_iff]
 simp
 omega
theorem eqAn0 (q r:An):eqW Tryz.prog 10000 62 (.agg q.cs.toArray) (.agg r.cs.toArray)=some (((q.data:Int)==(r.data:Int)) && ((q.good==r.good) && ((rqEq q.m0 r.m0 && (rqEq q.m1 r.m1 && (rqEq q.m2 r.m2 && (rqEq q.m3 r.m3 && (rqEq q.m4 r.m4 && (rqEq q.m5 r.m5 && (rqEq q.m6 r.m6 && (rqEq q.m7 r.m7 && true)))))))) && true))):=by kernel_rfl
theorem eqAn (q r:An):eqW Tryz.prog 10000 62 (.agg q.cs.toArray) (.agg r.cs.toArray)=some (decide (q=r)):=by
 rw [eqAn0]
 congr 1
 simp only [rqEq_of]
 obtain ⟨d,g,m0,m1,m2,m3,m4,m5,m6,m7⟩:=q
 obtain ⟨d',g',n0,n1,n2,n3,n4,n5,n6,n7⟩:=r
 rw [Bool.eq_iff_iff]
 simp
 omega
end
end Go.Proofs.YtnjlneefddlaoaaGreat
