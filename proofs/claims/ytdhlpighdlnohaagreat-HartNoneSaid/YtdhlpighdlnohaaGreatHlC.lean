/-
  The laws on harts: links.
-/
import Derived.Test.YtdhlpighdlnohaaGreatEvD
import Derived.Test.YtdhlpighdlnohaaGreatHnA
import Derived.Test.YtdhlpighdlnohaaGreatRcCu
set_option linter.unusedSimpArgs false
set_option linter.unusedVariables false
set_option maxHeartbeats 8000000
set_option maxRecDepth 10000
set_option linter.unusedSimpArgs false
set_option linter.unusedVariables false
namespace Go.Proofs.YtdhlpighdlnohaaGreat
open Go Go.Mid Go.RowKit
attribute [local irreducible] mid
section
deriving instance DecidableEq for Rq
deriving instance DecidableEq for En
deriving instance DecidableEq for An
theorem aggEn:isAggT Tryz.prog 78 = some true:=by kernel_rfl
theorem sizEn:sizeT Tryz.prog 78 = some 4:=by kernel_rfl
theorem aggM:isAggT Tryz.prog 61 = some true:=by kernel_rfl
def rqEq (q r:Rq):Bool:=(q.s==r.s) && ((q.v==r.v) && ((q.a==r.a) && (((q.va:Int)==(r.va:Int)) && ((q.asid==r.asid) && true))))
theorem rqEq_of (q r:Rq):rqEq q r=decide (q=r):=by
 obtain ⟨s,v,a,va,asid⟩:=q
 obtain ⟨s',v',a',va',asid'⟩:=r
 unfold rqEq
 rw [Bool.eq_iff_iff]
 simp
 omega
end
end Go.Proofs.YtdhlpighdlnohaaGreat
namespace Go.Proofs.YtdhlpighdlnohaaGreat
open Go Go.Mid Go.RowKit
attribute [local irreducible] mid
section
deriving instance DecidableEq for Ak
def enEq (q r:En):Bool:=(q.asid==r.asid) && (((q.page:Int)==(r.page:Int)) && ((q.level==r.level) && (((q.pte:Int)==(r.pte:Int)) && true)))
theorem enEq_of (q r:En):enEq q r=decide (q=r):=by
 obtain ⟨s,v,a,va⟩:=q
 obtain ⟨s',v',a',va'⟩:=r
 unfold enEq
 rw [Bool.eq_iff_iff]
 simp
 omega
theorem eqAk0 (a b:Ak):eqW Tryz.prog 10000 80 (.agg a.cs.toArray) (.agg b.cs.toArray)=some ((a.kind==b.kind) && (((a.addr:Int)==(b.addr:Int)) && (((a.next:Int)==(b.next:Int)) && ((a.cut==b.cut) && ((a.size==b.size) && ((a.op==b.op) && (((a.data:Int)==(b.data:Int)) && (((a.old:Int)==(b.old:Int)) && ((a.live==b.live) && ((a.hart==b.hart) && (rqEq a.req b.req && (enEq a.ent b.ent && true)))))))))))):=by kernel_rfl
theorem eqAk (a b:Ak):eqW Tryz.prog 10000 80 (.agg a.cs.toArray) (.agg b.cs.toArray)=some (decide (a=b)):=by
 rw [eqAk0]
 congr 1
 simp only [rqEq_of,enEq_of]
 obtain ⟨k,a1,a2,a3,a4,a5,a6,a7,a8,a9,a10,a11⟩:=a
 obtain ⟨l,b1,b2,b3,b4,b5,b6,b7,b8,b9,b10,b11⟩:=b
 rw [Bool.eq_iff_iff]
 simp [Int.natCast_inj]
end
end Go.Proofs.YtdhlpighdlnohaaGreat
namespace Go.Proofs.YtdhlpighdlnohaaGreat
open Go Go.Mid Go.RowKit Go.Bits
abbrev rfXHnB0:Go.Mid.RF:=[(1,1),(3,1),(7,1),(12,1),(17,1),(22,1),(27,1),(32,1),(37,1)]
attribute [local irreducible] mid
section
set_option maxHeartbeats 16000000
variable {h:Hp} {K:Value→Hp→Prop}
theorem ask0_x (hk:K (.agg (Ak.cs .zero).toArray) h):X Tryz.prog 13 #[.pointer none] h K:=by
 refine X.forget ?_
 refine fnv (args:=_) mixed [] [44] [] Tryz.func13 rfl (by kernel_rfl) (cw_ ?_)
 refine new_intro (o:=_) (fun z h1 n_z le_z at_z ot_z=>cw_ ?_)
 refine big_by (v:=.agg (Ak.cs .zero).toArray) (by kernel_rfl) (cw_ ?_)
 refine wr_intro (by exact storeA0 (z:=.agg (Ak.cs .zero).toArray) sizAk at_z rfl (ak_len _) (ak_one _)) (fun h2 at_h2 ot_h2=>cw_ ?_)
 refine ⟨_,loadA0 aggAk sizAk at_h2 (ak_len _),cw_ ?_⟩
 exact ⟨h,Hp.le_st n_z le_z ot_h2,hk⟩
theorem tell0_x (a:An) (hk:K (.slice none 0 0) h):X Tryz.prog 15 #[.pointer none,.agg a.cs.toArray] h K:=by
 refine X.forget ?_
 refine fnv (args:=_) mixed [] [] [] Tryz.func15 rfl (by kernel_rfl) (cw_ ?_)
 refine new_intro (o:=rowO 86 a.cs) (fun z h1 n_z le_z at_z ot_z=>cw_ ?_)
 exact ⟨h,le_z,hk⟩
theorem rests0_x (hk:K (.bool false) h):X Tryz.prog 20 #[.pointer none] h K:=by
 refine fnv (args:=_) mixed [] [] [] Tryz.func20 rfl (by kernel_rfl) (cw_ ?_)
 exact hk
theorem parked0_x (hk:K (.bool false) h):X Tryz.prog 27 #[.pointer none] h K:=by
 refine fnv (args:=_) mixed [] [] [] Tryz.func27 rfl (by kernel_rfl) (cw_ ?_)
 exact hk
theorem wakes0_x (l:Nat) (hk:K (.bool false) h):X Tryz.prog 28 #[.pointer none,ux l] h K:=by
 refine fnv (args:=_) mixed [] [] [] Tryz.func28 rfl (by kernel_rfl) (cw_ ?_)
 exact hk
theorem turns0_x (hk:K (.int .i64 0) h):X Tryz.prog 18 #[.pointer none] h K:=by
 refine fnv (args:=_) mixed [] [] [] Tryz.func18 rfl (by kernel_rfl) (cw_ ?_)
 exact hk
theorem retired0_x (hk:K (.int .i64 0) h):X Tryz.prog 19 #[.pointer none] h K:=by
 refine fnv (args:=_) mixed [] [] [] Tryz.func19 rfl (by kernel_rfl) (cw_ ?_)
 exact hk
def sta0:Sta:=⟨0,0,List.replicate 32 0,⟨0,List.replicate 22 0,false,false⟩,false,false,[]⟩
theorem put0_x (hk:K (.int .i64 10) h):X Tryz.prog 29 #[.pointer none,.agg (sta0.cs (.slice none 0 0)).toArray] h K:=by
 refine X.forget ?_
 refine fnv (args:=_) mixed [(8,8),(11,11)] [] [87,89,94,111] Tryz.func29 rfl (by kernel_rfl) (cw_ ?_)
 refine new_intro (o:=rowO staT (sta0.cs (.slice none 0 0))) (fun z h1 n_z le_z at_z ot_z=>cw_ ?_)
 exact ⟨h,le_z,hk⟩
theorem state0_x (hk:K (.agg (sta0.cs (.slice none 0 0)).toArray) h):X Tryz.prog 12 #[.pointer none] h K:=by
 refine X.forget ?_
 refine fnv (args:=_) mixed [] [41] [9,13,21,25,29,33] Tryz.func12 rfl (by kernel_rfl) (cw_ ?_)
 refine new_intro (o:=_) (fun z h1 n_z le_z at_z ot_z=>cw_ ?_)
 refine big_by (v:=.agg (sta0.cs (.slice none 0 0)).toArray) (by kernel_rfl) (cw_ ?_)
 refine wr_intro (by exact storeA0 (z:=.agg (sta0.cs (.slice none 0 0)).toArray) sizSta at_z rfl rfl rfl) (fun h2 at_h2 ot_h2=>cw_ ?_)
 refine ⟨_,loadA0 aggSta sizSta at_h2 rfl,cw_ ?_⟩
 exact ⟨h,Hp.le_st n_z le_z ot_h2,hk⟩
theorem drained0_x (m:List Rq) (hk:K (.slice none 0 0) h):X Tryz.prog 30 #[.pointer none,.agg (m.flatMap Rq.cs).toArray] h K:=by
 refine X.forget ?_
 refine fnv (args:=_) mixed [] [] [] Tryz.func30 rfl (by kernel_rfl) (cw_ ?_)
 refine new_intro (o:=rowO 61 (m.flatMap Rq.cs)) (fun z h1 n_z le_z at_z ot_z=>cw_ ?_)
 exact ⟨h,le_z,hk⟩
theorem clone0_x (hk:K (.pointer none) h):X Tryz.prog 31 #[.pointer none] h K:=by
 refine fnv (args:=_) mixed [] [] [] Tryz.func31 rfl (by kernel_rfl) (cw_ ?_)
 exact hk
theorem rright_x (c:Cn) (hk:K (.bool (wrightB c)) h):X Tryz.prog 21 #[.agg c.cs.toArray] h K:=by
 obtain ⟨a,b,d,e⟩:=c
 obtain ⟨w,hw⟩:∃ w,wrightB ⟨a,b,d,e⟩=w:=⟨_,rfl⟩
 rw [hw] at hk
 have hx:w=true↔(1≤a∧a≤8)∧(1≤b∧b≤64)∧(1≤d∧d≤4096)∧(1≤e∧e≤32):=by
  rw [← hw];unfold wrightB;simp only [Bool.and_eq_true,decide_eq_true_eq,and_assoc]
 have hf:¬ ((1≤a∧a≤8)∧(1≤b∧b≤64)∧(1≤d∧d≤4096)∧(1≤e∧e≤32))→K (.bool false) h:=fun e2=>by
  cases w with
  | false=>exact hk
  | true=>exact absurd (hx.1 rfl) e2
 refine fnv (args:=_) mixed rfXHnB0 [] [] Tryz.func21 rfl (by kernel_rfl) (cw_ ?_)
 by_cases q0:a>0
 rotate_left
 ·rw [decide_eq_false q0]
  conv=>whnf
  exact hf (by omega)
 rw [decide_eq_true q0]
 conv=>whnf
 by_cases q1:a<9
 rotate_left
 ·rw [decide_eq_false q1]
  conv=>whnf
  exact hf (by omega)
 rw [decide_eq_true q1]
 conv=>whnf
 by_cases q2:b>0
 rotate_left
 ·rw [decide_eq_false q2]
  conv=>whnf
  exact hf (by omega)
 rw [decide_eq_true q2]
 conv=>whnf
 by_cases q3:b<65
 rotate_left
 ·rw [decide_eq_false q3]
  conv=>whnf
  exact hf (by omega)
 rw [decide_eq_true q3]
 conv=>whnf
 by_cases q4:d>0
 rotate_left
 ·rw [decide_eq_false q4]
  conv=>whnf
  exact hf (by omega)
 rw [decide_eq_true q4]
 conv=>whnf
 by_cases q5:d<4097
 rotate_left
 ·rw [decide_eq_false q5]
  conv=>whnf
  exact hf (by omega)
 rw [decide_eq_true q5]
 conv=>whnf
 by_cases q6:e>0
 rotate_left
 ·rw [decide_eq_false q6]
  conv=>whnf
  exact hf (by omega)
 rw [decide_eq_true q6]
 conv=>whnf
 by_cases q7:e<33
 ·rw [decide_eq_true q7]
  exact kq hk (bI (by rw [hx.2 (by omega)]))
 ·rw [decide_eq_false q7]
  exact hf (by omega)
end
end Go.Proofs.YtdhlpighdlnohaaGreat
namespace Go.Proofs.YtdhlpighdlnohaaGreat
open Go Go.Bits
def runT (H:Hd) (L:List An):Hd:=L.foldl (fun H a=>(H.tell tbT fitsN decH a).1) H
theorem runT_take {H:Hd} {L:List An} {j:Nat} (hj:j<L.length):runT H (L.take (j+1))=((runT H (L.take j)).tell tbT fitsN decH L[j]).1:=by
 unfold runT
 rw [List.take_succ_eq_append_getElem hj,List.foldl_append];rfl
theorem runT_J {H:Hd} (j:H.J):∀ L:List An,(runT H L).J:=by
 intro L
 induction L generalizing H with
 | nil=>exact j
 | cons a L ih=>exact ih (j.tell decH a)
def flAk (q:Rq):Ak:={ Ak.zero with kind:=17,req:=q }
theorem drain_eq (m:List Rq):∀ H:Hd,H.drain tbT m={ H with L:=H.L.filter fun e=>!m.any fun q=>tbT.forgets q e,told:=H.told++(m.filter fun q=>q.s).map flAk }:=by
 induction m with
 | nil =>
  intro H
  have:(H.L.filter fun e=>!(([]:List Rq).any fun q=>tbT.forgets q e))=H.L:=by simp
  rw [this]
  simp [Hd.drain]
 | cons q m ih =>
  intro H
  show Hd.drain tbT (if q.s then H.forget tbT q else H) m=_
  rw [ih]
  cases hq:q.s with
  | true =>
   have e1:(H.forget tbT q).L=H.L.filter fun e=>!tbT.forgets q e:=rfl
   have e2:(H.forget tbT q).told=H.told++[flAk q]:=rfl
   simp only [if_true,List.filter_cons,hq,List.map_cons,List.any_cons,Bool.not_or]
   rw [e1,e2,List.filter_filter,List.append_assoc]
   rw [show (fun a=>(!m.any fun q=>tbT.forgets q a) && !tbT.forgets q a)=(fun a=>!tbT.forgets q a && !m.any fun q=>tbT.forgets q a) from funext fun a=>Bool.and_comm _ _]
   rfl
  | false =>
   have hf:∀ e,tbT.forgets q e=false:=fun e=>by
    show Tb.forgI (toQ q) (toE e)=false
    unfold Tb.forgI toQ
    rw [hq];rfl
   simp only [Bool.false_eq_true,if_false,List.filter_cons,hq,List.any_cons,hf,Bool.false_or]
theorem runT_told {H:Hd} (e:H.told=[]):∀ L:List An,(runT H L).told=[]:=by
 intro L
 induction L generalizing H with
 | nil=>exact e
 | cons a L ih=>exact ih (H:=(H.tell tbT fitsN decH a).1) rfl
theorem filter_nth {α:Type} (p:α→Bool):∀ (l:List α) (i:Nat) (x:α),l[i]? = some x→p x=true→(l.filter p)[((l.take i).filter p).length]? = some x
 | [],i,x,h,_=>by simp at h
 | a :: l,0,x,h,hp=>by
  simp at h;subst h
  rw [List.filter_cons,if_pos hp];rfl
 | a :: l,i+1,x,h,hp=>by
  have ih:=filter_nth p l i x (by simpa using h) hp
  rw [List.take_succ_cons,List.filter_cons,List.filter_cons]
  cases p a with
  | true=>simpa using ih
  | false=>simpa using ih
def stayL (ms:List Rq) (L:List En):List En:=L.filter fun e=>!ms.any fun q=>tbT.forgets q e
theorem stay_snoc (ms:List Rq) {L:List En} {j:Nat} (hj:j<L.length):stayL ms (L.take (j+1))=if (ms.any fun q=>tbT.forgets q L[j])=true then stayL ms (L.take j) else stayL ms (L.take j)++[L[j]]:=by
 unfold stayL
 rw [List.take_succ_eq_append_getElem hj,List.filter_append]
 cases h:ms.any fun q=>tbT.forgets q L[j] with
 | true=>rw [if_pos rfl];simp [h]
 | false=>rw [if_neg (by decide)];simp [h]
end Go.Proofs.YtdhlpighdlnohaaGreat
namespace Go.Proofs.YtdhlpighdlnohaaGreat
open Go Go.Mid Go.RowKit Go.Bits
attribute [local irreducible] mid
abbrev anT:TypeId := 86
theorem j_zero {H:Hd} (e:H.t=.zero) (e2:H.told=[]):H.J:=⟨(by rw [e];exact ⟨by decide,by decide⟩),fun x=>(by rw [e] at x;cases x),(by rw [e2];exact Nat.zero_le _)⟩
section
set_option maxHeartbeats 32000000
variable {k h:Hp} {K:Value→Hp→Prop} {b:Nat} {H:Hd}
end
end Go.Proofs.YtdhlpighdlnohaaGreat
