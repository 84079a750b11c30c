/-
  Worlds: loads and stores that may be.
-/
import Derived.Test.YtnjlneefddlaoaaGreatBitO
set_option linter.unusedSimpArgs false
set_option linter.unusedVariables false
set_option maxHeartbeats 8000000
set_option maxRecDepth 10000
set_option linter.unusedSimpArgs false
set_option linter.unusedVariables false
namespace Go.Proofs.YtnjlneefddlaoaaGreat
open Go Go.Mid Go.RowKit Go.Bits
attribute [local irreducible] mid
def leN:Str→Nat
 | []=>0
 | c :: r=>c.toNat+256*leN r
theorem leN_lt:∀ l:Str,leN l<256 ^ l.length
 | []=>by decide
 | c :: r=>by
  have h1:=leN_lt r
  have h2:=c.toNat_lt
  rw [leN,List.length_cons,Nat.pow_succ]
  omega
theorem leN_8 {l:Str} (h:l.length≤8):leN l<18446744073709551616:=Nat.lt_of_lt_of_le (leN_lt l) (Nat.le_trans (Nat.pow_le_pow_right (by decide) h) (by decide))
theorem leN_7 {l:Str} (h:l.length≤7):leN l<72057594037927936:=Nat.lt_of_lt_of_le (leN_lt l) (Nat.le_trans (Nat.pow_le_pow_right (by decide) h) (by decide))
theorem le_shl (v:Nat) (h:v<72057594037927936):IntKind.u64.wrap ((v:Int)*2 ^ (min (Int.toNat 8) IntKind.u64.bits))=((256*v:Nat):Int):=(shl64 v 8 (by decide)).trans (by rw [Nat.mod_eq_of_lt (by omega)];congr 1;omega)
theorem le_or (v c:Nat) (h:v<72057594037927936) (hc:c<256):(256*v ||| c)=c+256*v:=by
 rw [show 256*v=2 ^ 8*v from rfl,← Nat.two_pow_add_eq_or_of_lt (i:=8) hc]
 omega
structure RdY (h:Hp) (s:Value) (l:Str):Prop where
 go:∃ base cap,s=.slice base l.length cap∧∀ (i:Nat) (c:UInt8),l[i]? = some c→∃ a,base=some a∧h.cell? (a.add i)=some (byV c)
section
variable {h:Hp} {K:Value→Hp→Prop}
theorem aggY8:isAggT Tryz.prog 5 = some false:=by kernel_rfl
theorem number_x (s t:Value) (A B:Str) (hA:RdY h s A) (hB:RdY h t B) (hl:A.length+B.length≤8) (hk:K (.int .u64 (leN (A++B):Nat)) h):X Tryz.prog 51 #[s,t] h K:=by
 obtain ⟨b1,c1,rfl,f1⟩:=hA.go
 obtain ⟨b2,c2,rfl,f2⟩:=hB.go
 refine fnv (args:=_) mixed [] [] [] Tryz.func51 rfl (by kernel_rfl) (cw_ ?_)
 refine loop_step (cw_ ?_)
 refine n_ ?_
 refine loop_at [8,5] [] (fun r vs _ h'=>h=h'∧∃ i:Nat,i≤B.length∧i=r∧vs=[.v (.int .i64 ((i:Int) - 1)),.v (.int .u64 (leN (B.drop i++[]):Nat))]) B.length ⟨rfl,B.length,Nat.le_refl _,rfl,by rw [List.drop_length];rfl⟩ ?_
 rintro r vs cs mm1 bx1 _ ⟨rfl,i,hi,rfl,rfl⟩
 conv=>whnf
 refine br_ (fun q1=>?_) fun q1=>?_
 ·obtain ⟨j,rfl⟩:∃ j,i=j+1:=⟨i - 1,by omega⟩
  obtain ⟨c,hc⟩:∃ c,B[j]? = some c:=⟨_,List.getElem?_eq_getElem (by omega)⟩
  obtain ⟨a,rfl,ea⟩:=f2 j c hc
  have hd:leN (B.drop j++[])=c.toNat+256*leN (B.drop (j+1)++[]):=by
   rw [List.drop_eq_getElem_cons (show j<B.length by omega),(List.getElem?_eq_some_iff.1 hc).2]
   rfl
  have h7:leN (B.drop (j+1)++[])<72057594037927936:=leN_7 (by simp;omega)
  obtain ⟨v,hv⟩:∃ v,leN (B.drop (j+1)++[])=v:=⟨_,rfl⟩
  rw [hv] at hd h7 ⊢
  have hc8:=c.toNat_lt
  have ea2:h.cell? (a.add ((((j+1:Nat):Int) - 1).toNat*1))=some (byV c):=by rw [show (((j+1:Nat):Int) - 1).toNat=j by omega,Nat.mul_one];exact ea
  conv=>whnf
  refine ov_by (le_shl v h7) (cw_ ?_)
  refine n_ ?_
  refine ⟨_,(loadH_cell aggY8 _ _).trans ea2,cw_ ?_⟩
  refine ov_u64 (by omega) (cw_ ?_)
  refine val_by (y:=((c.toNat+256*v:Nat):Int)) ((or64 (show 256*v<2 ^ 64 by omega) (show c.toNat<2 ^ 64 by omega)).trans (by rw [le_or v _ h7 hc8])) (cw_ ?_)
  refine n_ ?_
  exact ⟨j,by omega,rfl,j,by omega,rfl,by
   rw [hd]
   show [MV.v (.int .i64 (((j+1:Nat):Int) - 1 - 1)),MV.v (.int .u64 ((c.toNat+256*v:Nat):Int))]=_
   rw [show ((j+1:Nat):Int) - 1 - 1=(j:Int) - 1 by omega]⟩
 ·obtain rfl:i=0:=by omega
  rw [List.drop_zero]
  refine n_ ?_
  refine loop_step (cw_ ?_)
  refine n_ ?_
  refine loop_at [8,5] [] (fun r vs _ h'=>h=h'∧∃ i:Nat,i≤A.length∧i=r∧vs=[.v (.int .i64 ((i:Int) - 1)),.v (.int .u64 (leN (A.drop i++B):Nat))]) A.length ⟨rfl,A.length,Nat.le_refl _,rfl,by rw [List.drop_length,List.append_nil];rfl⟩ ?_
  rintro r vs cs mm2 bx2 _ ⟨rfl,i,hi,rfl,rfl⟩
  conv=>whnf
  refine br_ (fun q2=>?_) fun q2=>?_
  ·obtain ⟨j,rfl⟩:∃ j,i=j+1:=⟨i - 1,by omega⟩
   obtain ⟨c,hc⟩:∃ c,A[j]? = some c:=⟨_,List.getElem?_eq_getElem (by omega)⟩
   obtain ⟨a,rfl,ea⟩:=f1 j c hc
   have hd:leN (A.drop j++B)=c.toNat+256*leN (A.drop (j+1)++B):=by
    rw [List.drop_eq_getElem_cons (show j<A.length by omega),(List.getElem?_eq_some_iff.1 hc).2]
    rfl
   have h7:leN (A.drop (j+1)++B)<72057594037927936:=leN_7 (by simp;omega)
   obtain ⟨v,hv⟩:∃ v,leN (A.drop (j+1)++B)=v:=⟨_,rfl⟩
   rw [hv] at hd h7 ⊢
   have hc8:=c.toNat_lt
   have ea2:h.cell? (a.add ((((j+1:Nat):Int) - 1).toNat*1))=some (byV c):=by rw [show (((j+1:Nat):Int) - 1).toNat=j by omega,Nat.mul_one];exact ea
   conv=>whnf
   refine ov_by (le_shl v h7) (cw_ ?_)
   refine n_ ?_
   refine ⟨_,(loadH_cell aggY8 _ _).trans ea2,cw_ ?_⟩
   refine ov_u64 (by omega) (cw_ ?_)
   refine val_by (y:=((c.toNat+256*v:Nat):Int)) ((or64 (show 256*v<2 ^ 64 by omega) (show c.toNat<2 ^ 64 by omega)).trans (by rw [le_or v _ h7 hc8])) (cw_ ?_)
   refine n_ ?_
   exact ⟨j,by omega,rfl,j,by omega,rfl,by
    rw [hd]
    show [MV.v (.int .i64 (((j+1:Nat):Int) - 1 - 1)),MV.v (.int .u64 ((c.toNat+256*v:Nat):Int))]=_
    rw [show ((j+1:Nat):Int) - 1 - 1=(j:Int) - 1 by omega]⟩
  ·obtain rfl:i=0:=by omega
   rw [List.drop_zero]
   refine n_ ?_
   refine loop_step (cw_ ?_)
   exact hk
end
end Go.Proofs.YtnjlneefddlaoaaGreat
namespace Go.Proofs.YtnjlneefddlaoaaGreat
open Go Go.Mid Go.RowKit
attribute [local irreducible] mid
def shapedL (a:Ak):Bool:=decide ((a.size=1∨a.size=2∨a.size=4∨a.size=8)∧0≤a.cut∧a.cut<a.size)
section
variable {h:Hp} {K:Value→Hp→Prop}
theorem shapedL_x (a:Ak) (ha:a.kind=2∨a.kind=3) (hk:K (.bool (shapedL a)) h):X Tryz.prog 46 #[.agg a.cs.toArray] h K:=by
 refine X.forget ?_
 have hk2:∀ b,b=shapedL a→∃ g:Hp,g.le h∧K (.bool b) g:=fun b e=>⟨h,Hp.le_refl _,by rw [e];exact hk⟩
 unfold shapedL at hk2
 refine fnv (args:=_) mixed [] [] [] Tryz.func46 rfl (by kernel_rfl) (cw_ ?_)
 refine new_intro (o:=rowO 59 a.cs) (fun z h1 n_z le_z at_z ot_z=>cw_ ?_)
 have hk3:∀ b,b=shapedL a→∃ g:Hp,g.le h1∧K (.bool b) g:=fun b e=>⟨h,le_z,by rw [e];exact hk⟩
 unfold shapedL at hk3
 repeat' first
  | (refine ⟨_,loadC0 aggIn at_z rfl,cw_ ?_⟩)
  | (refine ⟨_,loadC (i:=4) aggIn at_z rfl,cw_ ?_⟩)
  | (refine ⟨_,loadC (i:=3) aggIn at_z rfl,cw_ ?_⟩)
  | (exfalso;omega)
  | (refine br_ (fun hq=>cw_ ?_) fun hq=>cw_ ?_)
 all_goals exact hk3 _ (by first | (symm;simp;omega) | (rw [Bool.eq_iff_iff];simp;omega) | (simp;omega))
end
end Go.Proofs.YtnjlneefddlaoaaGreat
