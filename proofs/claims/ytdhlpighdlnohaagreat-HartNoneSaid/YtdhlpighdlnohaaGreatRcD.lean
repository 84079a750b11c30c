/-
  Control registers, as the document tells them: what is done, and turns (printed by a program).
-/
import Derived.Test.YtdhlpighdlnohaaGreatRcC
import Derived.Test.YtdhlpighdlnohaaGreatRnA
import Derived.Test.YtdhlpighdlnohaaGreatCaA
set_option linter.unusedSimpArgs false
set_option linter.unusedVariables false
set_option maxHeartbeats 8000000
set_option maxRecDepth 10000
set_option linter.unusedSimpArgs false
set_option linter.unusedVariables false
namespace Go.Proofs.YtdhlpighdlnohaaGreat
open Go Go.Mid Go.RowKit Go.Bits
attribute [local irreducible] mid
theorem class_out {n:Int} (h:¬ (1≤n∧n≤98)):classN n=0:=by
 unfold classN
 repeat rw [if_neg (by omega)]
theorem op_cases {n:Int} (h:csrOpB n=true):n=89∨n=90∨n=91∨n=92∨n=93∨n=94:=by
 have:=of_decide_eq_true h
 omega
theorem csr_nms:opName 89=[99,115,114,114,119]∧opName 90=[99,115,114,114,115]∧opName 91=[99,115,114,114,99]∧opName 92=[99,115,114,114,119,105]∧opName 93=[99,115,114,114,115,105]∧opName 94=[99,115,114,114,99,105]:=by decide +kernel
section
set_option maxHeartbeats 16000000
variable {h:Hp} {K:Value→Hp→Prop}
theorem rcls_x (n:Int) (hk:K (.int .i64 (classN n)) h):X Tryz.prog 225 #[.int .i64 n] h K:=by
 by_cases h1:1≤n∧n≤98
 ·exact Rn.rclass_x n h1 hk
 ·rw [class_out h1] at hk
  refine fnv (args:=_) mixed [] [] [] Tryz.func225 rfl (by kernel_rfl) (cw_ ?_)
  refine br_ (fun q1=>?_) fun q1=>?_
  ·conv=>whnf
   exact hk
  ·conv=>whnf
   refine bt_ ?_
   exact hk
theorem cls8 (n:Int):decide (classN n=8)=csrOpB n:=by unfold csrOpB;rw [decide_eq_decide,class8]
theorem rcwrites_x (op rs1:Int) (hk:K (.bool (writesB op rs1)) h):X Tryz.prog 256 #[.int .i64 op,.int .i64 rs1] h K:=by
 refine X.forget ?_
 have h8:=cls8 op
 obtain ⟨w,hw⟩:∃ w,writesB op rs1=w:=⟨_,rfl⟩
 rw [hw] at hk
 by_cases hc:csrOpB op=true
 ·rw [hc] at h8
  have h8:=of_decide_eq_true h8
  unfold writesB at hw
  rw [hc,Bool.true_and] at hw
  have hn:=@Rn.names0_get op ⟨by have:=of_decide_eq_true hc;omega,by have:=of_decide_eq_true hc;omega⟩
  rcases op_cases hc with rfl | rfl | rfl | rfl | rfl | rfl
  ·refine fnv (args:=_) mixed [] [] [] Tryz.func256 rfl (by kernel_rfl) (cw_ ?_)
   refine rcls_x _ ?_
   rw [h8]
   conv=>whnf
   refine Rn.rnames_x fun b1 h1 le1 hb1=>(cw_ ?_)
   refine ⟨_,loadI Rn.aggStr hb1 (j:=89) (by omega) hn,cw_ ?_⟩
   rw [csr_nms.1]
   refine seq_true (rfl) (cw_ ?_)
   refine ⟨h,le1,kq hk (bI ?_)⟩
   rw [← hw];rfl
  ·refine fnv (args:=_) mixed [] [] [] Tryz.func256 rfl (by kernel_rfl) (cw_ ?_)
   refine rcls_x _ ?_
   rw [h8]
   conv=>whnf
   refine Rn.rnames_x fun b1 h1 le1 hb1=>(cw_ ?_)
   refine ⟨_,loadI Rn.aggStr hb1 (j:=90) (by omega) hn,cw_ ?_⟩
   rw [csr_nms.2.1]
   iterate 2 (refine seq_false (by decide) ?_;conv=>whnf)
   refine ⟨h,le1,kq hk (bI ?_)⟩
   rw [← hw,decide_eq_false (by decide),Bool.false_or]
   rw [Bool.eq_iff_iff];simp
  ·refine fnv (args:=_) mixed [] [] [] Tryz.func256 rfl (by kernel_rfl) (cw_ ?_)
   refine rcls_x _ ?_
   rw [h8]
   conv=>whnf
   refine Rn.rnames_x fun b1 h1 le1 hb1=>(cw_ ?_)
   refine ⟨_,loadI Rn.aggStr hb1 (j:=91) (by omega) hn,cw_ ?_⟩
   rw [csr_nms.2.2.1]
   iterate 2 (refine seq_false (by decide) ?_;conv=>whnf)
   refine ⟨h,le1,kq hk (bI ?_)⟩
   rw [← hw,decide_eq_false (by decide),Bool.false_or]
   rw [Bool.eq_iff_iff];simp
  ·refine fnv (args:=_) mixed [] [] [] Tryz.func256 rfl (by kernel_rfl) (cw_ ?_)
   refine rcls_x _ ?_
   rw [h8]
   conv=>whnf
   refine Rn.rnames_x fun b1 h1 le1 hb1=>(cw_ ?_)
   refine ⟨_,loadI Rn.aggStr hb1 (j:=92) (by omega) hn,cw_ ?_⟩
   rw [csr_nms.2.2.2.1]
   refine seq_false ((by decide)) (cw_ ?_)
   refine seq_true (rfl) (cw_ ?_)
   refine ⟨h,le1,kq hk (bI ?_)⟩
   rw [← hw];rfl
  ·refine fnv (args:=_) mixed [] [] [] Tryz.func256 rfl (by kernel_rfl) (cw_ ?_)
   refine rcls_x _ ?_
   rw [h8]
   conv=>whnf
   refine Rn.rnames_x fun b1 h1 le1 hb1=>(cw_ ?_)
   refine ⟨_,loadI Rn.aggStr hb1 (j:=93) (by omega) hn,cw_ ?_⟩
   rw [csr_nms.2.2.2.2.1]
   iterate 2 (refine seq_false (by decide) ?_;conv=>whnf)
   refine ⟨h,le1,kq hk (bI ?_)⟩
   rw [← hw,decide_eq_false (by decide),Bool.false_or]
   rw [Bool.eq_iff_iff];simp
  ·refine fnv (args:=_) mixed [] [] [] Tryz.func256 rfl (by kernel_rfl) (cw_ ?_)
   refine rcls_x _ ?_
   rw [h8]
   conv=>whnf
   refine Rn.rnames_x fun b1 h1 le1 hb1=>(cw_ ?_)
   refine ⟨_,loadI Rn.aggStr hb1 (j:=94) (by omega) hn,cw_ ?_⟩
   rw [csr_nms.2.2.2.2.2]
   iterate 2 (refine seq_false (by decide) ?_;conv=>whnf)
   refine ⟨h,le1,kq hk (bI ?_)⟩
   rw [← hw,decide_eq_false (by decide),Bool.false_or]
   rw [Bool.eq_iff_iff];simp
 ·have hc:csrOpB op=false:=by simpa using hc
  rw [hc] at h8
  have h8:=of_decide_eq_false h8
  have hwf:w=false:=by
   rw [← hw]
   unfold writesB
   rw [hc,Bool.false_and,Bool.or_false]
   refine decide_eq_false fun e=>?_
   have:=of_decide_eq_false hc
   omega
  subst hwf
  refine fnv (args:=_) mixed [] [] [] Tryz.func256 rfl (by kernel_rfl) (cw_ ?_)
  refine rcls_x _ ?_
  generalize classN op=c at h8 ⊢
  refine bt_ ?_ (by simpa using h8)
  exact ⟨h,Hp.le_refl _,hk⟩
theorem base64 {w v:Nat} (hw:w<2 ^ 64):IntKind.u64.wrap ((w:Int) - ((w &&& v:Nat):Int))=((andN w v:Nat):Int):=by
 have e1:=andN_sub v hw
 have l1:w &&& v≤w:=Nat.and_le_left
 have l3:=andN_lt w v
 rw [toU64]
 omega
theorem rcdo_x (f:Csf) (ok:f.ok) (op n rs1:Int) (v lines:Nat) (hv:v<2 ^ 64) (hl:lines<2 ^ 64) (hk:K (.tuple #[.agg (f.doF op n rs1 v).rcs.toArray,uv (f.doR op n lines)]) h):X Tryz.prog 143 #[.agg f.rcs.toArray,.int .i64 op,.int .i64 n,.int .i64 rs1,uv v,uv lines] h K:=by
 refine X.forget ?_
 have h8:=cls8 op
 unfold Csf.doF Csf.doR at hk
 have hg0:=get_lt ok n (lines:=0) (by decide)
 by_cases hc:csrOpB op=true
 rotate_left
 ·have hc:csrOpB op=false:=by simpa using hc
  rw [hc] at h8
  have h8:=of_decide_eq_false h8
  simp only [hc,Bool.false_and,Bool.false_eq_true,if_false] at hk
  refine fnv (args:=_) mixed [] [142, 243, 244] [] Tryz.func143 rfl (by kernel_rfl) (cw_ ?_)
  refine new_intro (o:=rowO rfT f.rcs) (fun z h1 n_z le_z at_z ot_z=>cw_ ?_)
  refine new_intro (o:=_) (fun y h2 n_y le_y at_y ot_y=>cw_ ?_)
  have hz2:=le_y _ _ at_z
  have hle:h.le h2:=Hp.le_trans le_z le_y
  have hyh:h y=none:=Hp.none_le le_z n_y
  refine rcls_x _ ?_
  generalize classN op=c at h8 ⊢
  refine bt_ ?_ (by simpa using h8)
  refine ⟨_,rf_ld hz2,cw_ ?_⟩
  refine wr_intro (by exact rf_st at_y rfl _) (fun h3 at_h3 ot_h3=>cw_ ?_)
  refine ⟨_,rf_ld at_h3,cw_ ?_⟩
  exact ⟨h,Hp.le_st hyh hle ot_h3,hk⟩
 rw [hc] at h8
 have h8:=of_decide_eq_true h8
 simp only [hc,Bool.true_and,if_true] at hk
 obtain ⟨w,hw⟩:∃ w,writesB op rs1=w:=⟨_,rfl⟩
 rw [hw] at hk
 cases w with
 | false =>
  simp only [Bool.false_eq_true,if_false] at hk
  refine fnv (args:=_) mixed [] [142, 243, 244] [] Tryz.func143 rfl (by kernel_rfl) (cw_ ?_)
  refine new_intro (o:=rowO rfT f.rcs) (fun z h1 n_z le_z at_z ot_z=>cw_ ?_)
  refine new_intro (o:=_) (fun y h2 n_y le_y at_y ot_y=>cw_ ?_)
  have hz2:=le_y _ _ at_z
  have hle:h.le h2:=Hp.le_trans le_z le_y
  have hyh:h y=none:=Hp.none_le le_z n_y
  refine rcls_x _ ?_
  rw [h8]
  conv=>whnf
  refine ⟨_,rf_ld hz2,cw_ ?_⟩
  refine rcget_x f ok n lines hl (cw_ ?_)
  refine rcwrites_x op rs1 ?_
  rw [hw]
  conv=>whnf
  refine ⟨_,rf_ld hz2,cw_ ?_⟩
  refine wr_intro (by exact rf_st at_y rfl _) (fun h3 at_h3 ot_h3=>cw_ ?_)
  refine ⟨_,rf_ld at_h3,cw_ ?_⟩
  exact ⟨h,Hp.le_st hyh hle ot_h3,hk⟩
 | true =>
  simp only [if_true] at hk
  have hn:=@Rn.names0_get op ⟨by have:=of_decide_eq_true hc;omega,by have:=of_decide_eq_true hc;omega⟩
  rcases op_cases hc with rfl | rfl | rfl | rfl | rfl | rfl
  ·refine fnv (args:=_) mixed [] [142, 243, 244] [] Tryz.func143 rfl (by kernel_rfl) (cw_ ?_)
   refine new_intro (o:=rowO rfT f.rcs) (fun z h1 n_z le_z at_z ot_z=>cw_ ?_)
   refine new_intro (o:=_) (fun y h2 n_y le_y at_y ot_y=>cw_ ?_)
   have hz2:=le_y _ _ at_z
   have hle:h.le h2:=Hp.le_trans le_z le_y
   have hyh:h y=none:=Hp.none_le le_z n_y
   refine rcls_x _ ?_
   rw [h8]
   conv=>whnf
   refine ⟨_,rf_ld hz2,cw_ ?_⟩
   refine rcget_x f ok n lines hl (cw_ ?_)
   refine rcwrites_x _ rs1 ?_
   rw [hw]
   conv=>whnf
   refine ⟨_,rf_ld hz2,cw_ ?_⟩
   refine rcget_x f ok n 0 (by decide) (cw_ ?_)
   refine Rn.rnames_x fun b1 h3 le3 hb1=>?_
   have hz3:=le3 _ _ hz2
   have hy3:=le3 _ _ at_y
   have hle3:h.le h3:=Hp.le_trans hle le3
   conv=>whnf
   refine ⟨_,loadI Rn.aggStr hb1 (j:=89) (by omega) hn,cw_ ?_⟩
   rw [csr_nms.1]
   iterate 4 (refine seq_false (by decide) ?_;conv=>whnf)
   refine ⟨_,rf_ld hz3,cw_ ?_⟩
   refine rcset_x f ok n v hv (cw_ ?_)
   refine wr_intro (by exact rf_st hy3 rfl _) (fun h4 at_h4 ot_h4=>cw_ ?_)
   refine ⟨_,rf_ld at_h4,cw_ ?_⟩
   exact ⟨h,Hp.le_st hyh hle3 ot_h4,hk⟩
  ·have hk2:K (.tuple #[.agg (f.set n (f.get n 0 ||| v)).rcs.toArray,uv (f.get n lines)]) h:=by
    rw [Nat.or_comm];exact hk
   refine fnv (args:=_) mixed [] [142, 243, 244] [] Tryz.func143 rfl (by kernel_rfl) (cw_ ?_)
   refine new_intro (o:=rowO rfT f.rcs) (fun z h1 n_z le_z at_z ot_z=>cw_ ?_)
   refine new_intro (o:=_) (fun y h2 n_y le_y at_y ot_y=>cw_ ?_)
   have hz2:=le_y _ _ at_z
   have hle:h.le h2:=Hp.le_trans le_z le_y
   have hyh:h y=none:=Hp.none_le le_z n_y
   refine rcls_x _ ?_
   rw [h8]
   conv=>whnf
   refine ⟨_,rf_ld hz2,cw_ ?_⟩
   refine rcget_x f ok n lines hl (cw_ ?_)
   refine rcwrites_x _ rs1 ?_
   rw [hw]
   conv=>whnf
   refine ⟨_,rf_ld hz2,cw_ ?_⟩
   refine rcget_x f ok n 0 (by decide) (cw_ ?_)
   refine Rn.rnames_x fun b1 h3 le3 hb1=>?_
   have hz3:=le3 _ _ hz2
   have hy3:=le3 _ _ at_y
   have hle3:h.le h3:=Hp.le_trans hle le3
   conv=>whnf
   refine ⟨_,loadI Rn.aggStr hb1 (j:=90) (by omega) hn,cw_ ?_⟩
   rw [csr_nms.2.1]
   refine seq_true (rfl) (cw_ ?_)
   refine ⟨_,rf_ld hz3,cw_ ?_⟩
   refine ⟨_,rcor_x _ _ hg0 hv ⟨rfl,rfl⟩,cw_ ?_⟩
   refine ⟨_,rcset_x f ok n _ (Nat.or_lt_two_pow hg0 hv) ⟨rfl,rfl⟩,cw_ ?_⟩
   refine wr_intro (by exact rf_st hy3 rfl _) (fun h4 at_h4 ot_h4=>cw_ ?_)
   refine ⟨trivial,cw_ ?_⟩
   refine ⟨_,rf_ld at_h4,cw_ ?_⟩
   exact ⟨h,Hp.le_st hyh hle3 ot_h4,hk2⟩
  ·refine fnv (args:=_) mixed [] [142, 243, 244] [] Tryz.func143 rfl (by kernel_rfl) (cw_ ?_)
   refine new_intro (o:=rowO rfT f.rcs) (fun z h1 n_z le_z at_z ot_z=>cw_ ?_)
   refine new_intro (o:=_) (fun y h2 n_y le_y at_y ot_y=>cw_ ?_)
   have hz2:=le_y _ _ at_z
   have hle:h.le h2:=Hp.le_trans le_z le_y
   have hyh:h y=none:=Hp.none_le le_z n_y
   refine rcls_x _ ?_
   rw [h8]
   conv=>whnf
   refine ⟨_,rf_ld hz2,cw_ ?_⟩
   refine rcget_x f ok n lines hl (cw_ ?_)
   refine rcwrites_x _ rs1 ?_
   rw [hw]
   conv=>whnf
   refine ⟨_,rf_ld hz2,cw_ ?_⟩
   refine rcget_x f ok n 0 (by decide) (cw_ ?_)
   refine Rn.rnames_x fun b1 h3 le3 hb1=>?_
   have hz3:=le3 _ _ hz2
   have hy3:=le3 _ _ at_y
   have hle3:h.le h3:=Hp.le_trans hle le3
   conv=>whnf
   refine ⟨_,loadI Rn.aggStr hb1 (j:=91) (by omega) hn,cw_ ?_⟩
   rw [csr_nms.2.2.1]
   iterate 2 (refine seq_false (by decide) ?_;conv=>whnf)
   refine seq_true (rfl) (cw_ ?_)
   refine ⟨_,rf_ld hz3,cw_ ?_⟩
   refine ⟨_,rcand_x _ _ hg0 hv ⟨rfl,rfl⟩,cw_ ?_⟩
   refine ov_by (base64 hg0) (cw_ ?_)
   refine ⟨_,rcset_x f ok n _ (andN_lt _ _) ⟨rfl,rfl⟩,cw_ ?_⟩
   refine wr_intro (by exact rf_st hy3 rfl _) (fun h4 at_h4 ot_h4=>cw_ ?_)
   refine ⟨trivial,cw_ ?_⟩
   refine ⟨_,rf_ld at_h4,cw_ ?_⟩
   exact ⟨h,Hp.le_st hyh hle3 ot_h4,hk⟩
  ·refine fnv (args:=_) mixed [] [142, 243, 244] [] Tryz.func143 rfl (by kernel_rfl) (cw_ ?_)
   refine new_intro (o:=rowO rfT f.rcs) (fun z h1 n_z le_z at_z ot_z=>cw_ ?_)
   refine new_intro (o:=_) (fun y h2 n_y le_y at_y ot_y=>cw_ ?_)
   have hz2:=le_y _ _ at_z
   have hle:h.le h2:=Hp.le_trans le_z le_y
   have hyh:h y=none:=Hp.none_le le_z n_y
   refine rcls_x _ ?_
   rw [h8]
   conv=>whnf
   refine ⟨_,rf_ld hz2,cw_ ?_⟩
   refine rcget_x f ok n lines hl (cw_ ?_)
   refine rcwrites_x _ rs1 ?_
   rw [hw]
   conv=>whnf
   refine ⟨_,rf_ld hz2,cw_ ?_⟩
   refine rcget_x f ok n 0 (by decide) (cw_ ?_)
   refine Rn.rnames_x fun b1 h3 le3 hb1=>?_
   have hz3:=le3 _ _ hz2
   have hy3:=le3 _ _ at_y
   have hle3:h.le h3:=Hp.le_trans hle le3
   conv=>whnf
   refine ⟨_,loadI Rn.aggStr hb1 (j:=92) (by omega) hn,cw_ ?_⟩
   rw [csr_nms.2.2.2.1]
   iterate 4 (refine seq_false (by decide) ?_;conv=>whnf)
   refine ⟨_,rf_ld hz3,cw_ ?_⟩
   refine rcset_x f ok n v hv (cw_ ?_)
   refine wr_intro (by exact rf_st hy3 rfl _) (fun h4 at_h4 ot_h4=>cw_ ?_)
   refine ⟨_,rf_ld at_h4,cw_ ?_⟩
   exact ⟨h,Hp.le_st hyh hle3 ot_h4,hk⟩
  ·have hk2:K (.tuple #[.agg (f.set n (f.get n 0 ||| v)).rcs.toArray,uv (f.get n lines)]) h:=by
    rw [Nat.or_comm];exact hk
   refine fnv (args:=_) mixed [] [142, 243, 244] [] Tryz.func143 rfl (by kernel_rfl) (cw_ ?_)
   refine new_intro (o:=rowO rfT f.rcs) (fun z h1 n_z le_z at_z ot_z=>cw_ ?_)
   refine new_intro (o:=_) (fun y h2 n_y le_y at_y ot_y=>cw_ ?_)
   have hz2:=le_y _ _ at_z
   have hle:h.le h2:=Hp.le_trans le_z le_y
   have hyh:h y=none:=Hp.none_le le_z n_y
   refine rcls_x _ ?_
   rw [h8]
   conv=>whnf
   refine ⟨_,rf_ld hz2,cw_ ?_⟩
   refine rcget_x f ok n lines hl (cw_ ?_)
   refine rcwrites_x _ rs1 ?_
   rw [hw]
   conv=>whnf
   refine ⟨_,rf_ld hz2,cw_ ?_⟩
   refine rcget_x f ok n 0 (by decide) (cw_ ?_)
   refine Rn.rnames_x fun b1 h3 le3 hb1=>?_
   have hz3:=le3 _ _ hz2
   have hy3:=le3 _ _ at_y
   have hle3:h.le h3:=Hp.le_trans hle le3
   conv=>whnf
   refine ⟨_,loadI Rn.aggStr hb1 (j:=93) (by omega) hn,cw_ ?_⟩
   rw [csr_nms.2.2.2.2.1]
   refine seq_false ((by decide)) (cw_ ?_)
   refine seq_true (rfl) (cw_ ?_)
   refine ⟨_,rf_ld hz3,cw_ ?_⟩
   refine ⟨_,rcor_x _ _ hg0 hv ⟨rfl,rfl⟩,cw_ ?_⟩
   refine ⟨_,rcset_x f ok n _ (Nat.or_lt_two_pow hg0 hv) ⟨rfl,rfl⟩,cw_ ?_⟩
   refine wr_intro (by exact rf_st hy3 rfl _) (fun h4 at_h4 ot_h4=>cw_ ?_)
   refine ⟨trivial,cw_ ?_⟩
   refine ⟨_,rf_ld at_h4,cw_ ?_⟩
   exact ⟨h,Hp.le_st hyh hle3 ot_h4,hk2⟩
  ·refine fnv (args:=_) mixed [] [142, 243, 244] [] Tryz.func143 rfl (by kernel_rfl) (cw_ ?_)
   refine new_intro (o:=rowO rfT f.rcs) (fun z h1 n_z le_z at_z ot_z=>cw_ ?_)
   refine new_intro (o:=_) (fun y h2 n_y le_y at_y ot_y=>cw_ ?_)
   have hz2:=le_y _ _ at_z
   have hle:h.le h2:=Hp.le_trans le_z le_y
   have hyh:h y=none:=Hp.none_le le_z n_y
   refine rcls_x _ ?_
   rw [h8]
   conv=>whnf
   refine ⟨_,rf_ld hz2,cw_ ?_⟩
   refine rcget_x f ok n lines hl (cw_ ?_)
   refine rcwrites_x _ rs1 ?_
   rw [hw]
   conv=>whnf
   refine ⟨_,rf_ld hz2,cw_ ?_⟩
   refine rcget_x f ok n 0 (by decide) (cw_ ?_)
   refine Rn.rnames_x fun b1 h3 le3 hb1=>?_
   have hz3:=le3 _ _ hz2
   have hy3:=le3 _ _ at_y
   have hle3:h.le h3:=Hp.le_trans hle le3
   conv=>whnf
   refine ⟨_,loadI Rn.aggStr hb1 (j:=94) (by omega) hn,cw_ ?_⟩
   rw [csr_nms.2.2.2.2.2]
   iterate 3 (refine seq_false (by decide) ?_;conv=>whnf)
   refine seq_true (rfl) (cw_ ?_)
   refine ⟨_,rf_ld hz3,cw_ ?_⟩
   refine ⟨_,rcand_x _ _ hg0 hv ⟨rfl,rfl⟩,cw_ ?_⟩
   refine ov_by (base64 hg0) (cw_ ?_)
   refine ⟨_,rcset_x f ok n _ (andN_lt _ _) ⟨rfl,rfl⟩,cw_ ?_⟩
   refine wr_intro (by exact rf_st hy3 rfl _) (fun h4 at_h4 ot_h4=>cw_ ?_)
   refine ⟨trivial,cw_ ?_⟩
   refine ⟨_,rf_ld at_h4,cw_ ?_⟩
   exact ⟨h,Hp.le_st hyh hle3 ot_h4,hk⟩
theorem rcturn_x (f:Csf) (ok:f.ok) (r:Bool) (hk:K (.agg (f.turn r).rcs.toArray) h):X Tryz.prog 146 #[.agg f.rcs.toArray,.bool r] h K:=by
 refine X.forget ?_
 unfold Csf.turn at hk
 simp only at hk
 have m64:∀ n:Nat,n % 18446744073709551616<2 ^ 64:=fun n=>Nat.mod_lt _ (by decide)
 refine fnv (args:=_) mixed [] [132, 115] [] Tryz.func146 rfl (by kernel_rfl) (cw_ ?_)
 refine new_intro (o:=rowO rfT f.rcs) (fun z h1 n_z le_z at_z ot_z=>cw_ ?_)
 refine new_intro (o:=_) (fun y h2 n_y le_y at_y ot_y=>cw_ ?_)
 have hz2:=le_y _ _ at_z
 have hle:h.le h2:=Hp.le_trans le_z le_y
 have hyz:y≠z:=fun e=>by rw [e] at n_y;rw [at_z] at n_y;cases n_y
 have hyh:h y=none:=Hp.none_le le_z n_y
 have hzh:h z=none:=n_z
 have hy2:=at_y
 clear at_y at_z
 have hkk:∀ f1:Csf,(if f.cl=true then f else f.put 2816 ((f.at 2816+1) % 18446744073709551616))=f1→(f1.il=f.il)→(r=true→f1.il=true→K (.agg ({ f1 with cl:=false,il:=false }:Csf).rcs.toArray) h)∧(r=true→f1.il=false→K (.agg ({ (f1.put 2818 ((f1.at 2818+1) % 18446744073709551616)) with cl:=false,il:=false }:Csf).rcs.toArray) h)∧(r=false→K (.agg ({ f1 with cl:=false,il:=false }:Csf).rcs.toArray) h):=by
  rintro f1 e ei
  rw [e,← ei] at hk
  refine ⟨fun e1 e2=>?_,fun e1 e2=>?_,fun e1=>?_⟩
  ·rw [e1,e2] at hk;exact hk
  ·rw [e1,e2] at hk;exact hk
  ·rw [e1] at hk;exact hk
 clear hk
 refine ⟨_,loadCA (k:=35) (by simp [addr_add]) aggB6 hz2 (rcs_flags f).1,cw_ ?_⟩
 by_cases hcl:f.cl=true
 ·have hkr:=hkk f (by rw [if_pos hcl]) rfl
  rw [hcl]
  conv=>whnf
  obtain ⟨f1,hf1⟩:∃ f1,f1=f:=⟨_,rfl⟩
  have hz3:=hz2
  have hy3:=hy2
  have hle3:=hle
  have ok1:=ok
  rw [← hf1] at hz3 hkr ok1
  clear hkk
  cases r with
  | false =>
   have hk:=hkr.2.2 rfl
   obtain ⟨f2,hf2⟩:∃ f2,f2=f1:=⟨_,rfl⟩
   have hz4:=hz3
   have hy4:=hy3
   have hle4:=hle3
   rw [← hf2] at hz4 hk
   conv=>whnf
   refine wr_intro (by exact storeCA (k:=35) (by simp [addr_add]) sizB6 hz4 (by rw [rcs_len];decide) (rcs_cl f2 false) rfl rfl) (fun h5 at_h5 ot_h5=>cw_ ?_)
   refine wr_intro (by exact storeCA (k:=36) (by simp [addr_add]) sizB6 at_h5 (by rw [rcs_len];decide) (rcs_il { f2 with cl:=false } false) rfl rfl) (fun h6 at_h6 ot_h6=>cw_ ?_)
   refine ⟨_,rf_ld at_h6,cw_ ?_⟩
   refine wr_intro (by exact rf_st ((ot_h6 y hyz).trans ((ot_h5 y hyz).trans hy4)) rfl _) (fun h7 at_h7 ot_h7=>cw_ ?_)
   refine ⟨_,rf_ld at_h7,cw_ ?_⟩
   exact ⟨h,Hp.le_st hyh (Hp.le_st hzh (Hp.le_st hzh hle4 ot_h5) ot_h6) ot_h7,hk⟩
  | true =>
   have hkr2:=hkr.1 rfl
   have hkr1:=hkr.2.1 rfl
   conv=>whnf
   refine ⟨_,loadCA (k:=36) (by simp [addr_add]) aggB6 hz3 (rcs_flags f1).2,cw_ ?_⟩
   by_cases hi:f1.il=true
   ·rw [hi]
    conv=>whnf
    obtain ⟨f2,hf2⟩:∃ f2,f2=f1:=⟨_,rfl⟩
    have hz4:=hz3
    have hy4:=hy3
    have hle4:=hle3
    rw [← hf2] at hz4
    have hk:=hkr2 hi
    rw [← hf2] at hk
    refine wr_intro (by exact storeCA (k:=35) (by simp [addr_add]) sizB6 hz4 (by rw [rcs_len];decide) (rcs_cl f2 false) rfl rfl) (fun h5 at_h5 ot_h5=>cw_ ?_)
    refine wr_intro (by exact storeCA (k:=36) (by simp [addr_add]) sizB6 at_h5 (by rw [rcs_len];decide) (rcs_il { f2 with cl:=false } false) rfl rfl) (fun h6 at_h6 ot_h6=>cw_ ?_)
    refine ⟨_,rf_ld at_h6,cw_ ?_⟩
    refine wr_intro (by exact rf_st ((ot_h6 y hyz).trans ((ot_h5 y hyz).trans hy4)) rfl _) (fun h7 at_h7 ot_h7=>cw_ ?_)
    refine ⟨_,rf_ld at_h7,cw_ ?_⟩
    exact ⟨h,Hp.le_st hyh (Hp.le_st hzh (Hp.le_st hzh hle4 ot_h5) ot_h6) ot_h7,hk⟩
   ·have hi:f1.il=false:=by simpa using hi
    rw [hi]
    conv=>whnf
    refine ⟨_,rf_ld hz3,cw_ ?_⟩
    refine ⟨_,rf_ld hz3,cw_ ?_⟩
    refine ⟨_,rcw_x f1 26 2818 (by decide) ⟨rfl,rfl⟩,cw_ ?_⟩
    refine ov_by (inc64 (f1.at 2818)) (cw_ ?_)
    refine ⟨_,rcp_x f1 ok1.len 26 2818 (by decide) _ ⟨rfl,rfl⟩,cw_ ?_⟩
    refine wr_intro (by exact rf_st hz3 (rcs_len _) _) (fun h4 at_h4 ot_h4=>cw_ ?_)
    refine ⟨trivial,cw_ ?_⟩
    have hz4:=at_h4
    have hy4:=(ot_h4 y hyz).trans hy3
    have hle4:h.le h4:=Hp.le_st hzh hle3 ot_h4
    have hk:=hkr1 hi
    clear at_h4
    generalize f1.put 2818 ((f1.at 2818+1) % 18446744073709551616)=f2 at hz4 hk ⊢
    refine wr_intro (by exact storeCA (k:=35) (by simp [addr_add]) sizB6 hz4 (by rw [rcs_len];decide) (rcs_cl f2 false) rfl rfl) (fun h5 at_h5 ot_h5=>cw_ ?_)
    refine wr_intro (by exact storeCA (k:=36) (by simp [addr_add]) sizB6 at_h5 (by rw [rcs_len];decide) (rcs_il { f2 with cl:=false } false) rfl rfl) (fun h6 at_h6 ot_h6=>cw_ ?_)
    refine ⟨_,rf_ld at_h6,cw_ ?_⟩
    refine wr_intro (by exact rf_st ((ot_h6 y hyz).trans ((ot_h5 y hyz).trans hy4)) rfl _) (fun h7 at_h7 ot_h7=>cw_ ?_)
    refine ⟨_,rf_ld at_h7,cw_ ?_⟩
    exact ⟨h,Hp.le_st hyh (Hp.le_st hzh (Hp.le_st hzh hle4 ot_h5) ot_h6) ot_h7,hk⟩
 ·have hkr:=hkk _ (by rw [if_neg hcl]) (put_il 2816 _)
  have hcl:f.cl=false:=by simpa using hcl
  rw [hcl]
  conv=>whnf
  refine ⟨_,rf_ld hz2,cw_ ?_⟩
  refine ⟨_,rf_ld hz2,cw_ ?_⟩
  refine ⟨_,rcw_x f 25 2816 (by decide) ⟨rfl,rfl⟩,cw_ ?_⟩
  refine ov_by (inc64 (f.at 2816)) (cw_ ?_)
  refine ⟨_,rcp_x f ok.len 25 2816 (by decide) _ ⟨rfl,rfl⟩,cw_ ?_⟩
  refine wr_intro (by exact rf_st hz2 (rcs_len _) _) (fun h3 at_h3 ot_h3=>cw_ ?_)
  refine ⟨trivial,cw_ ?_⟩
  have hz3:=at_h3
  have hy3:=(ot_h3 y hyz).trans hy2
  have hle3:h.le h3:=Hp.le_st hzh hle ot_h3
  have ok1:=ok.put 2816 (m64 (f.at 2816+1))
  clear at_h3 hkk
  generalize f.put 2816 ((f.at 2816+1) % 18446744073709551616)=f1 at hz3 hkr ok1 ⊢
  cases r with
  | false =>
   have hk:=hkr.2.2 rfl
   obtain ⟨f2,hf2⟩:∃ f2,f2=f1:=⟨_,rfl⟩
   have hz4:=hz3
   have hy4:=hy3
   have hle4:=hle3
   rw [← hf2] at hz4 hk
   conv=>whnf
   refine wr_intro (by exact storeCA (k:=35) (by simp [addr_add]) sizB6 hz4 (by rw [rcs_len];decide) (rcs_cl f2 false) rfl rfl) (fun h5 at_h5 ot_h5=>cw_ ?_)
   refine wr_intro (by exact storeCA (k:=36) (by simp [addr_add]) sizB6 at_h5 (by rw [rcs_len];decide) (rcs_il { f2 with cl:=false } false) rfl rfl) (fun h6 at_h6 ot_h6=>cw_ ?_)
   refine ⟨_,rf_ld at_h6,cw_ ?_⟩
   refine wr_intro (by exact rf_st ((ot_h6 y hyz).trans ((ot_h5 y hyz).trans hy4)) rfl _) (fun h7 at_h7 ot_h7=>cw_ ?_)
   refine ⟨_,rf_ld at_h7,cw_ ?_⟩
   exact ⟨h,Hp.le_st hyh (Hp.le_st hzh (Hp.le_st hzh hle4 ot_h5) ot_h6) ot_h7,hk⟩
  | true =>
   have hkr2:=hkr.1 rfl
   have hkr1:=hkr.2.1 rfl
   conv=>whnf
   refine ⟨_,loadCA (k:=36) (by simp [addr_add]) aggB6 hz3 (rcs_flags f1).2,cw_ ?_⟩
   by_cases hi:f1.il=true
   ·rw [hi]
    conv=>whnf
    obtain ⟨f2,hf2⟩:∃ f2,f2=f1:=⟨_,rfl⟩
    have hz4:=hz3
    have hy4:=hy3
    have hle4:=hle3
    rw [← hf2] at hz4
    have hk:=hkr2 hi
    rw [← hf2] at hk
    refine wr_intro (by exact storeCA (k:=35) (by simp [addr_add]) sizB6 hz4 (by rw [rcs_len];decide) (rcs_cl f2 false) rfl rfl) (fun h5 at_h5 ot_h5=>cw_ ?_)
    refine wr_intro (by exact storeCA (k:=36) (by simp [addr_add]) sizB6 at_h5 (by rw [rcs_len];decide) (rcs_il { f2 with cl:=false } false) rfl rfl) (fun h6 at_h6 ot_h6=>cw_ ?_)
    refine ⟨_,rf_ld at_h6,cw_ ?_⟩
    refine wr_intro (by exact rf_st ((ot_h6 y hyz).trans ((ot_h5 y hyz).trans hy4)) rfl _) (fun h7 at_h7 ot_h7=>cw_ ?_)
    refine ⟨_,rf_ld at_h7,cw_ ?_⟩
    exact ⟨h,Hp.le_st hyh (Hp.le_st hzh (Hp.le_st hzh hle4 ot_h5) ot_h6) ot_h7,hk⟩
   ·have hi:f1.il=false:=by simpa using hi
    rw [hi]
    conv=>whnf
    refine ⟨_,rf_ld hz3,cw_ ?_⟩
    refine ⟨_,rf_ld hz3,cw_ ?_⟩
    refine ⟨_,rcw_x f1 26 2818 (by decide) ⟨rfl,rfl⟩,cw_ ?_⟩
    refine ov_by (inc64 (f1.at 2818)) (cw_ ?_)
    refine ⟨_,rcp_x f1 ok1.len 26 2818 (by decide) _ ⟨rfl,rfl⟩,cw_ ?_⟩
    refine wr_intro (by exact rf_st hz3 (rcs_len _) _) (fun h4 at_h4 ot_h4=>cw_ ?_)
    refine ⟨trivial,cw_ ?_⟩
    have hz4:=at_h4
    have hy4:=(ot_h4 y hyz).trans hy3
    have hle4:h.le h4:=Hp.le_st hzh hle3 ot_h4
    have hk:=hkr1 hi
    clear at_h4
    generalize f1.put 2818 ((f1.at 2818+1) % 18446744073709551616)=f2 at hz4 hk ⊢
    refine wr_intro (by exact storeCA (k:=35) (by simp [addr_add]) sizB6 hz4 (by rw [rcs_len];decide) (rcs_cl f2 false) rfl rfl) (fun h5 at_h5 ot_h5=>cw_ ?_)
    refine wr_intro (by exact storeCA (k:=36) (by simp [addr_add]) sizB6 at_h5 (by rw [rcs_len];decide) (rcs_il { f2 with cl:=false } false) rfl rfl) (fun h6 at_h6 ot_h6=>cw_ ?_)
    refine ⟨_,rf_ld at_h6,cw_ ?_⟩
    refine wr_intro (by exact rf_st ((ot_h6 y hyz).trans ((ot_h5 y hyz).trans hy4)) rfl _) (fun h7 at_h7 ot_h7=>cw_ ?_)
    refine ⟨_,rf_ld at_h7,cw_ ?_⟩
    exact ⟨h,Hp.le_st hyh (Hp.le_st hzh (Hp.le_st hzh hle4 ot_h5) ot_h6) ot_h7,hk⟩
end
end Go.Proofs.YtdhlpighdlnohaaGreat
