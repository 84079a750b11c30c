/-
  Orders: the chapter's example.
-/
import Derived.Test.YtnjlneefddlaoaaGreatOrH
import Derived.Test.YtnjlneefddlaoaaGreatWoI
set_option linter.unusedSimpArgs false
set_option linter.unusedVariables false
set_option maxHeartbeats 8000000
set_option maxRecDepth 10000
set_option linter.unusedSimpArgs false
set_option linter.unusedVariables false
namespace Go.Proofs.YtnjlneefddlaoaaGreat
open Go Go.Mid Go.RowKit
attribute [local irreducible] mid
section
variable {h:Hp} {K:Value→Hp→Prop}
theorem intsN_x (s1 s2:Value) (A:List Nat) (r1:Rd Tryz.prog 3 1 h s1 (A.map ni)) (r2:Rd Tryz.prog 3 1 h s2 (A.map ni)) (hA:A.length≤1000) (hk:K (.bool true) h):X Tryz.prog 9 #[s1,s2] h K:=by
 obtain ⟨b1,c1,rfl,f1⟩:=r1
 obtain ⟨b2,c2,rfl,f2⟩:=r2
 rw [List.length_map] at *
 refine fnv (args:=_) mixed [] [] [] Tryz.func9 rfl (by kernel_rfl) (cw_ ?_)
 refine bf_ ?_
 refine loop_at [5] [] (fun r vs cs h'=>h=h'∧∃ i:Nat,i≤A.length∧r=A.length - i∧vs=[.v (.int .i64 i)]) A.length ⟨rfl,0,by omega,by omega,rfl⟩ ?_
 rintro r vs cs mm bx _ ⟨rfl,i,hi,rfl,rfl⟩
 conv=>whnf
 refine br_ (fun q1=>?_) fun q1=>?_
 ·have hiA:i<A.length:=by omega
  obtain ⟨v,hv⟩:∃ v,A[i]? = some v:=⟨_,List.getElem?_eq_getElem hiA⟩
  have hv2:(A.map ni)[i]? = some (ni v):=by rw [List.getElem?_map,hv];rfl
  obtain ⟨a1,rfl,l1⟩:=f1 i _ hv2
  obtain ⟨a2,rfl,l2⟩:=f2 i _ hv2
  have l1:loadH Tryz.prog 3 h (a1.add (((i:Nat):Int).toNat*1))=some (ni v):=by rw [Int.toNat_natCast];exact l1
  have l2:loadH Tryz.prog 3 h (a2.add (((i:Nat):Int).toNat*1))=some (ni v):=by rw [Int.toNat_natCast];exact l2
  conv=>whnf
  refine n_ ?_
  refine ⟨_,l1,cw_ ?_⟩
  refine n_ ?_
  refine ⟨_,l2,cw_ ?_⟩
  refine bf_ ?_
  refine n_ ?_
  exact ⟨A.length - (i+1),by omega,rfl,i+1,by omega,rfl,rfl⟩
 ·conv=>whnf
  exact hk
abbrev cn39:Cn:=⟨3,1,1,1⟩
theorem line39_x (hk:K (.agg cn39.cs.toArray) h):X Tryz.prog 21 #[] h K:=by
 refine X.forget ?_
 refine fnv (args:=_) mixed [] [] [] Tryz.func21 rfl (by kernel_rfl) (cw_ ?_)
 refine new_intro (o:=_) (fun z h1 n_z le_z at_z ot_z=>cw_ ?_)
 refine wr_intro (by exact storeA0 (z:=.agg cn39.cs.toArray) sizCn at_z rfl rfl rfl) (fun h2 at_h2 ot_h2=>cw_ ?_)
 refine ⟨_,loadA0 aggCn sizCn at_h2 rfl,cw_ ?_⟩
 exact ⟨h,Hp.le_st n_z le_z ot_h2,hk⟩
def doLs (W:Wd) (i:Int) (a:Ak):Wd×An×Bool:=(doL W i a,ansL W i a,mayL W i a)
theorem doLs_h (L:List Ev) (hL:∀ e ∈ L,e.ok∧(e.ask.kind=2∨e.ask.kind=3)):DoH doLs L:=fun k h w W e K he o hk=>do1_x o (wok_len o.ok) e.hart e.ask (hL e he).1.ask (hL e he).2 hk
abbrev en0:En:=⟨0,0,0,0⟩
def ak39 (kd:Int) (v:Nat):Ak:=⟨kd,2147483648,0,0,1,0,v,0,false,0,.zero,en0⟩
def ev39:List Ev:=[⟨0,ak39 3 1,.zero,0,1,4⟩,⟨1,ak39 3 2,.zero,1,2,3⟩,⟨2,ak39 2 0,.ofN 1 false,5,6,7⟩]
theorem ev39_wit:(witL doLs ev39 (Wd.new cn39)).head? = some [1,0,2]:=by decide +kernel
theorem en0_ok:en0.ok:=⟨by decide,by decide,by decide,by decide,by decide,by decide⟩
theorem ak39_ok (kd:Int) (v:Nat) (hv:v<18446744073709551616):(ak39 kd v).ok:=⟨by show (2147483648:Nat)<_;decide,by show (0:Nat)<_;decide,by show _≤(0:Int);decide,by show (0:Int)≤_;decide,by show _≤(1:Int);decide,by show (1:Int)≤_;decide,hv,by show (0:Nat)<_;decide,by show _≤(0:Int);decide,by show (0:Int)≤_;decide,rq0_ok,en0_ok⟩
theorem anN_ok (n:Nat) (g:Bool) (hn:n<18446744073709551616):(An.ofN n g).ok:=⟨hn,fun q hq=>by
 have:q=.zero:=by
  simp [An.ms,An.ofN] at hq
  exact hq
 rw [this];exact rq0_ok⟩
theorem ev39_ok:∀ e ∈ ev39,e.ok∧(e.ask.kind=2∨e.ask.kind=3):=by
 intro e he
 simp only [ev39,List.mem_cons,List.not_mem_nil,or_false] at he
 rcases he with rfl | rfl | rfl
 ·exact ⟨⟨by decide,by decide,ak39_ok _ _ (by decide),anN_ok 0 false (by decide),by decide,by decide,by decide,by decide,by decide,by decide⟩,.inr rfl⟩
 ·exact ⟨⟨by decide,by decide,ak39_ok _ _ (by decide),anN_ok 0 false (by decide),by decide,by decide,by decide,by decide,by decide,by decide⟩,.inr rfl⟩
 ·exact ⟨⟨by decide,by decide,ak39_ok _ _ (by decide),anN_ok 1 false (by decide),by decide,by decide,by decide,by decide,by decide,by decide⟩,.inl rfl⟩
theorem live39_x (hk:∀ h',h.le h'→K (.bool true) h'):X Tryz.prog 7 #[] h K:=by
 refine fnv (args:=_) mixed [] [] [] Tryz.func7 rfl (by kernel_rfl) (cw_ ?_)
 refine line39_x (cw_ ?_)
 refine flatNew_x cn39 rfl 3 rfl fun w h1 o1=>(cw_ ?_)
 refine big_by (v:=.agg (ak39 3 1).cs.toArray) (by kernel_rfl) (cw_ ?_)
 refine new_intro (o:=_) (fun s1 h2 n_s1 le_s1 at_s1 ot_s1=>cw_ ?_)
 refine wr_intro (by exact storeA0 (z:=.agg (ak39 3 1).cs.toArray) sizAk at_s1 rfl rfl rfl) (fun h3 at_h3 ot_h3=>cw_ ?_)
 refine big_by (v:=.agg (ak39 3 2).cs.toArray) (by kernel_rfl) (cw_ ?_)
 refine new_intro (o:=_) (fun s2 h4 n_s2 le_s2 at_s2 ot_s2=>cw_ ?_)
 refine wr_intro (by exact storeA0 (z:=.agg (ak39 3 2).cs.toArray) sizAk at_s2 rfl rfl rfl) (fun h5 at_h5 ot_h5=>cw_ ?_)
 have b3:=(ot_h5 s1 (Hp.ne n_s2 at_h3)).trans (le_s2 _ _ at_h3)
 have l13:h1.le h3:=Hp.le_st n_s1 le_s1 ot_h3
 have l15:h1.le h5:=Hp.le_trans l13 (Hp.le_st n_s2 le_s2 ot_h5)
 refine ⟨_,loadA0 aggAk sizAk b3 rfl,cw_ ?_⟩
 refine big_by (v:=.agg (ev39.getD 0 ⟨0,ak39 3 1,.zero,0,1,4⟩).cs.toArray) (by kernel_rfl) (cw_ ?_)
 refine ⟨_,loadA0 aggAk sizAk at_h5 rfl,cw_ ?_⟩
 refine big_by (v:=.agg (ev39.getD 1 ⟨0,ak39 3 1,.zero,0,1,4⟩).cs.toArray) (by kernel_rfl) (cw_ ?_)
 refine big_by (v:=.agg (ak39 2 0).cs.toArray) (by kernel_rfl) (cw_ ?_)
 refine big_by (v:=.agg (An.ofN 1 false).cs.toArray) (by kernel_rfl) (cw_ ?_)
 refine big_by (v:=.agg (ev39.getD 2 ⟨0,ak39 3 1,.zero,0,1,4⟩).cs.toArray) (by kernel_rfl) (cw_ ?_)
 refine new_intro (o:=_) (fun lb h6 n_lb le_lb at_lb ot_lb=>?_)
 have at_lb:h6 lb=some (rowO 64 (ev39.flatMap Ev.cs++[])):=at_lb
 have hL:RdE h6 (.slice (some ⟨lb,0,none⟩) 3 3) ev39:=Gr.rdN (f:=Ev.cs) aggEv sizEv ev_len ⟨rfl,.inr ⟨lb,3,[],rfl,rfl,Nat.le_refl _,rfl,at_lb⟩⟩
 clear at_lb
 conv=>whnf
 refine witness_x (doLs_h ev39 ev39_ok) (o1.up (Hp.le_trans l15 le_lb)) _ hL (by decide) (fun e=>?_) fun q R sl h7 e l7 hr=>?_
 ·have:=ev39_wit;rw [e] at this;cases this
 obtain rfl:q=[1,0,2]:=by have:=ev39_wit;rw [e] at this;cases this;rfl
 obtain ⟨sb,sc,rfl,_⟩:=id hr
 conv=>whnf
 refine new_intro (o:=_) (fun zb h8 n_zb le_zb at_zb ot_zb=>?_)
 have hK:=hk h8 (Hp.le_trans o1.le (Hp.le_trans l15 (Hp.le_trans le_lb (Hp.le_trans l7 le_zb))))
 conv=>whnf
 refine intsN_x _ _ [1,0,2] (hr.le le_zb) (Rd.row (l:=[1,0,2].map ni) (r:=[]) aggIn at_zb) (by decide) (cw_ ?_)
 exact hK
end
end Go.Proofs.YtnjlneefddlaoaaGreat
