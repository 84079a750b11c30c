/-
  Orders: the statement OrderMay's arguments.
-/
import Derived.Test.YtnjlneefddlaoaaGreatOrI
import Derived.Test.YtnjlneefddlaoaaGreatOrB
import Derived.Test.YtnjlneefddlaoaaGreatRows
set_option linter.unusedSimpArgs false
set_option linter.unusedVariables false
set_option maxHeartbeats 8000000
set_option maxRecDepth 10000
set_option linter.unusedSimpArgs false
set_option linter.unusedVariables false
namespace Go.Proofs.YtnjlneefddlaoaaGreat
open Go Go.Mid Go.RowKit
attribute [local irreducible] mid
section
variable {h:Hp} {K:Value→Hp→Prop}
theorem ordermay_x (s t:Value) (L:List Ev) (p0 p1:Int) (o:List Int) (hL:RdE h s L) (ho:RdN h t o) (hcap:∀ b n c,t=.slice b n c→n≤c) (hk:∀ h',h.le h'→K (.bool true) h'):X Tryz.prog 4 #[s,.agg #[.int .i64 p0,.int .i64 p1],t] h K:=by
 have hL0:=hL
 have ho0:=ho
 obtain ⟨b1,c1,rfl,f1⟩:=rdE hL0
 obtain ⟨b2,c2,rfl,f2⟩:=rdN ho0
 refine fnv (args:=_) mixed [(4,4),(17,4),(19,4),(23,4),(25,4)] [] [] Tryz.func4 rfl (by kernel_rfl) (cw_ ?_)
 refine br_ (fun q0=>?_) fun q0=>?_
 ·conv=>whnf
  refine live39_x fun h' hle=>(cw_ ?_)
  exact hk _ hle
 have hl:L.length≤20:=by omega
 conv=>whnf
 refine br_ (fun q1=>?_) fun q1=>?_
 ·conv=>whnf
  refine live39_x fun h' hle=>(cw_ ?_)
  exact hk _ hle
 have hl2:o.length≤30:=by omega
 conv=>whnf
 refine must_x _ L hL p0 p1 ?_
 refine ⟨trivial,cw_ ?_⟩
 refine rmust_x _ L hL p0 p1 ?_
 generalize mustB L p0 p1=d
 refine ⟨trivial,cw_ ?_⟩
 have hext:∀ b c:Bool,(b=true↔extP L o)→(c=true↔extP L o)→b=c:=fun b c h1 h2=>by rw [Bool.eq_iff_iff,h1,h2]
 cases d
 all_goals
  conv=>whnf
  refine ext_x _ _ L o hL ho hcap (by omega) (by omega) fun b hb=>?_
  refine ⟨trivial,cw_ ?_⟩
  refine rext_x _ _ L o hL ho (by omega) (by omega) fun c hc=>?_
  obtain rfl:=hext b c hb hc
  cases b
  all_goals
   refine ⟨trivial,cw_ ?_⟩
   refine live39_x fun h' hle=>?_
   refine ⟨trivial,cw_ ?_⟩
   exact hk _ hle
end
end Go.Proofs.YtnjlneefddlaoaaGreat
namespace Go.Proofs.YtnjlneefddlaoaaGreat
open Go Go.Mid Go.RowKit
attribute [local irreducible] mid
theorem rdE_of {h:Hp} {cs:List Value} (w:Wf h (.slice shEv) cs):∃ s L,cs=[s]∧RdE h s L∧∀ e ∈ L,e.ok:=by
 obtain ⟨a,cap,L,rfl,_,hok,hL2⟩:=slice_of (P:=Tryz.prog) (t := 64) (n:=65) (ok:=Ev.ok) (cells:=Ev.cs) aggEv sizEv (by decide) rfl (fun es hw=>ev_of hw) w
 refine ⟨.slice a L.length cap,L,rfl,⟨a,cap,by rw [List.length_map],fun i v hv=>?_⟩,hok⟩
 rw [List.getElem?_map] at hv
 cases hx:L[i]? with
 | none=>rw [hx] at hv;cases hv
 | some x=>rw [hx] at hv;cases hv;exact hL2 i x hx
theorem rdN_of {h:Hp} {cs:List Value} (w:Wf h (.slice (.int .i64)) cs):∃ s L,cs=[s]∧RdN h s L∧∀ b n c,s=.slice b n c→n≤c:=by
 have hcap:∀ b n c,cs=[.slice b n c]→n≤c:=fun b n c e=>by
  unfold Wf at w
  rcases w with e2 | ⟨a,len,cap,e2,h1,_⟩
  ·rw [e] at e2;cases e2;exact Nat.le_refl _
  ·rw [e] at e2;cases e2;exact h1
 obtain ⟨a,cap,L,rfl,_,_,hL2⟩:=slice_of1 (P:=Tryz.prog) (t := 3) (ok:=fun _=>True) (val:=zi) aggIn rfl (fun es hw=>by obtain ⟨n,e,_⟩:=wfI hw;exact ⟨n,trivial,e⟩) w
 refine ⟨.slice a L.length cap,L,rfl,⟨a,cap,by rw [List.length_map],fun i v hv=>?_⟩,fun b n c e=>hcap b n c (by rw [e])⟩
 rw [List.getElem?_map] at hv
 cases hx:L[i]? with
 | none=>rw [hx] at hv;cases hv
 | some x=>rw [hx] at hv;cases hv;exact hL2 i x hx
theorem orderMay_w {cs0 cs1 cs2:List Value} (w:World) (w0:Wf (whole w) (.slice shEv) cs0) (l0:cs0.length=Sh.n (.slice shEv)) (w1:Wf (whole w) (.array 2 (.int .i64)) cs1) (l1:cs1.length=Sh.n (.array 2 (.int .i64))) (w2:Wf (whole w) (.slice (.int .i64)) cs2) (l2:cs2.length=Sh.n (.slice (.int .i64))) :
  X Tryz.prog 4 #[Sh.v (.slice shEv) cs0,Sh.v (.array 2 (.int .i64)) cs1,Sh.v (.slice (.int .i64)) cs2] (whole w) fun v h'=>v=.bool true∧(whole w).le h':=by
 obtain ⟨s,L,rfl,hL,_⟩:=rdE_of w0
 obtain ⟨P,hP,_,rfl⟩:=wfA (ok:=fun _=>True) (f:=fun n:Int=>[.int .i64 n]) (n:=2) (fun cs hw=>by obtain ⟨n,e,_⟩:=wfI hw;exact ⟨n,trivial,e⟩) w1
 obtain ⟨t,o,rfl,ho,hcap⟩:=rdN_of w2
 match P,hP with
 | [p0,p1],_=>exact ordermay_x s t L p0 p1 o hL ho hcap fun h' hle=>⟨rfl,hle⟩
end Go.Proofs.YtnjlneefddlaoaaGreat
