/-
  Control registers, as the document tells them: what is read and set (printed by a program).
-/
import Derived.Test.YtdhlpighdlnohaaGreatRcB
import Derived.Test.YtdhlpighdlnohaaGreatCaA
set_option linter.unusedSimpArgs false
set_option linter.unusedVariables false
set_option maxHeartbeats 8000000
set_option maxRecDepth 10000
set_option linter.unusedSimpArgs false
set_option linter.unusedVariables false
namespace Go.Proofs.YtdhlpighdlnohaaGreat
open Go Go.Mid Go.RowKit Go.Bits
attribute [local irreducible] mid
def rcOut:List Str:=[[115,104,111,111,116],[109,105,115,97],[99,121,99,108,101],[116,105,109,101],[105,110,115,116,114,101,116],[109,118,101,110,100,111,114,105,100],[109,97,114,99,104,105,100],[109,105,109,112,105,100],[109,104,97,114,116,105,100],[115,115,116,97,116,117,115],[115,105,101],[115,105,112]]
theorem own_or:∀ i,i<34→(idxN (csrNums.getD i 0:Nat)).isSome=true∨csrNames.getD i [] ∈ rcOut:=by decide +kernel
theorem csnew_eq (hart:Int):({ hart:=hart,w:=List.replicate 22 0,cl:=false,il:=false }:Csf).put 768 42949672960=Csf.new hart:=rfl
theorem rowRV_is (n:Int):∃ a m,rowRV n=.agg #[a,.string (bs (nameOf n)),m]:=by
 unfold rowRV nameOf
 cases csrAll.find? (fun r=>decide ((r.1.1:Int)=n)) with
 | some r=>exact ⟨_,_,rfl⟩
 | none=>exact ⟨_,_,rfl⟩
theorem told_lt {f:Csf} (ok:f.ok) {lines:Nat} (hl:lines<2 ^ 64):f.at 836 ||| (lines &&& 2696)<2 ^ 64:=Nat.or_lt_two_pow (ok.at_lt 836) (rcand_lt hl)
section
set_option maxHeartbeats 16000000
variable {h:Hp} {K:Value→Hp→Prop}
theorem rcw_x (f:Csf) (i:Nat) (n:Int) (hi:i<34) {nm:Str} (hk:K (uv (f.at n)) h) (hn:((csrNums.getD i 0:Nat):Int)=n:=by rfl) (hnm:csrNames.getD i []=nm:=by rfl):X Tryz.prog 132 #[.agg f.rcs.toArray,.string (bs nm)] h K:=by
 subst hn;subst hnm;exact rcword_x f i hi hk
theorem rcp_x (f:Csf) (hl:f.w.length=22) (i:Nat) (n:Int) (hi:i<34) {q:Nat} {nm:Str} (v:Nat) (hk:K (.agg (f.put n v).rcs.toArray) h) (ho:idxN n=some q:=by rfl) (hn:((csrNums.getD i 0:Nat):Int)=n:=by rfl) (hnm:csrNames.getD i []=nm:=by rfl):X Tryz.prog 115 #[.agg f.rcs.toArray,.string (bs nm),uv v] h K:=by
 subst hn;subst hnm;exact rcwith_x f hl i hi ho v hk
theorem rcnew_x (hart:Int) (hk:K (.agg (Csf.new hart).rcs.toArray) h):X Tryz.prog 68 #[.int .i64 hart] h K:=by
 rw [← csnew_eq] at hk
 refine X.forget ?_
 refine fnv (args:=_) mixed [] [] [] Tryz.func68 rfl (by kernel_rfl) (cw_ ?_)
 refine new_intro (o:=_) (fun y h1 n_y le_y at_y ot_y=>cw_ ?_)
 refine big_by (v:=.agg (({ hart:=hart,w:=List.replicate 22 0,cl:=false,il:=false }:Csf).rcs).toArray) (by kernel_rfl) (cw_ ?_)
 refine rcp_x _ rfl 10 768 (by decide) 42949672960 (cw_ ?_)
 refine wr_intro (by exact rf_st at_y rfl _) (fun h2 at_h2 ot_h2=>cw_ ?_)
 refine ⟨_,rf_ld at_h2,cw_ ?_⟩
 exact ⟨h,Hp.le_st n_y le_y ot_h2,hk⟩
theorem rcget_x (f:Csf) (ok:f.ok) (n:Int) (lines:Nat) (hl:lines<2 ^ 64) (hk:K (uv (f.get n lines)) h):X Tryz.prog 131 #[.agg f.rcs.toArray,.int .i64 n,uv lines] h K:=by
 refine X.forget ?_
 obtain ⟨ra,rm,hR⟩:=rowRV_is n
 have hcs:=row_cases n
 have hnn:=@name_num n
 have hk':∀ m,f.get n lines=m→K (uv m) h:=fun m e=>e ▸ hk
 obtain ⟨nm,hnm⟩:∃ nm,nameOf n=nm:=⟨_,rfl⟩
 rw [hnm] at hR hcs hnn
 refine fnv (args:=_) mixed [] [132, 244] [] Tryz.func131 rfl (by kernel_rfl) (cw_ ?_)
 refine new_intro (o:=rowO rfT f.rcs) (fun z h1 n_z le_z at_z ot_z=>cw_ ?_)
 refine ⟨_,rf_ld at_z,cw_ ?_⟩
 refine rcw_x f 21 836 (by decide) (cw_ ?_)
 refine rcand_x lines 2696 hl (by decide) (cw_ ?_)
 refine rcor_x _ _ (ok.at_lt 836) (rcand_lt hl) (cw_ ?_)
 refine rcof_x n ?_
 rw [hR]
 conv=>whnf
 by_cases c0:nm=[]
 ·refine seq_true (c0) (cw_ ?_)
  have hu:f.get n lines=0:=by
   rcases hcs with ⟨i,hi,e1,e2,_⟩ | ⟨_,e,_⟩
   ·rw [c0] at e2;exact absurd e2.symm (names_some i hi)
   ·have ho:=own_known e
    unfold Csf.get
    rw [if_neg (fun x=>by rw [x] at e;cases e),if_neg (fun x=>by rw [x] at e;cases e),if_neg (fun x=>by rw [x] at e;cases e),if_neg (fun x=>by rw [x] at e;cases e),if_neg (fun x=>by rw [x] at e;cases e),if_neg (fun x=>by rw [x] at e;cases e),if_neg (fun x=>by rw [x] at e;cases e),if_neg (fun x=>by rw [x] at e;cases e)]
    unfold Csf.at
    rw [ho]
  exact ⟨h,le_z,hk' 0 hu⟩
 refine seq_false (c0) (cw_ ?_)
 by_cases c1:nm=[116,105,109,101]
 ·refine seq_true (c1) (cw_ ?_)
  obtain rfl:n=3073:=hnn 28 (by decide) c1
  exact ⟨h,le_z,hk' 0 rfl⟩
 refine seq_false (c1) (cw_ ?_)
 by_cases c2:nm=[115,104,111,111,116]
 ·refine seq_true (c2) (cw_ ?_)
  obtain rfl:n=1474:=hnn 24 (by decide) c2
  exact ⟨h,le_z,hk' 0 rfl⟩
 refine seq_false (c2) (cw_ ?_)
 by_cases c3:nm=[109,118,101,110,100,111,114,105,100]
 ·refine seq_true (c3) (cw_ ?_)
  obtain rfl:n=3857:=hnn 30 (by decide) c3
  exact ⟨h,le_z,hk' 0 rfl⟩
 refine seq_false (c3) (cw_ ?_)
 by_cases c4:nm=[109,97,114,99,104,105,100]
 ·refine seq_true (c4) (cw_ ?_)
  obtain rfl:n=3858:=hnn 31 (by decide) c4
  exact ⟨h,le_z,hk' 0 rfl⟩
 refine seq_false (c4) (cw_ ?_)
 by_cases c5:nm=[109,105,109,112,105,100]
 ·refine seq_true (c5) (cw_ ?_)
  obtain rfl:n=3859:=hnn 32 (by decide) c5
  exact ⟨h,le_z,hk' 0 rfl⟩
 refine seq_false (c5) (cw_ ?_)
 by_cases c6:nm=[115,115,116,97,116,117,115]
 ·refine seq_true (c6) (cw_ ?_)
  obtain rfl:n=256:=hnn 0 (by decide) c6
  refine ⟨_,rf_ld at_z,cw_ ?_⟩
  refine rcw_x f 10 768 (by decide) (cw_ ?_)
  refine rsview_x _ (ok.at_lt 768) ?_
  exact ⟨h,le_z,hk' _ rfl⟩
 refine seq_false (c6) (cw_ ?_)
 by_cases c7:nm=[115,105,101]
 ·refine seq_true (c7) (cw_ ?_)
  obtain rfl:n=260:=hnn 1 (by decide) c7
  refine ⟨_,rf_ld at_z,cw_ ?_⟩
  refine ⟨_,rcw_x f 14 772 (by decide) ⟨rfl,rfl⟩,cw_ ?_⟩
  refine ⟨_,rf_ld at_z,cw_ ?_⟩
  refine ⟨_,rcw_x f 13 771 (by decide) ⟨rfl,rfl⟩,cw_ ?_⟩
  refine ⟨_,rcand_x _ _ (ok.at_lt 772) (ok.at_lt 771) ⟨rfl,rfl⟩,cw_ ?_⟩
  exact ⟨h,le_z,hk' _ rfl⟩
 refine seq_false (c7) (cw_ ?_)
 by_cases c8:nm=[115,105,112]
 ·refine seq_true (c8) (cw_ ?_)
  obtain rfl:n=324:=hnn 8 (by decide) c8
  refine ⟨_,rf_ld at_z,cw_ ?_⟩
  refine rcw_x f 13 771 (by decide) (cw_ ?_)
  refine rcand_x _ _ (told_lt ok hl) (ok.at_lt 771) (cw_ ?_)
  exact ⟨h,le_z,hk' _ rfl⟩
 refine seq_false (c8) (cw_ ?_)
 by_cases c9:nm=[109,105,112]
 ·refine seq_true (c9) (cw_ ?_)
  obtain rfl:n=836:=hnn 21 (by decide) c9
  exact ⟨h,le_z,hk' _ rfl⟩
 refine seq_false (c9) (cw_ ?_)
 by_cases c10:nm=[109,105,115,97]
 ·refine seq_true (c10) (cw_ ?_)
  obtain rfl:n=769:=hnn 11 (by decide) c10
  exact ⟨h,le_z,hk' _ rfl⟩
 refine seq_false (c10) (cw_ ?_)
 by_cases c11:nm=[99,121,99,108,101]
 ·refine seq_true (c11) (cw_ ?_)
  obtain rfl:n=3072:=hnn 27 (by decide) c11
  refine ⟨_,rf_ld at_z,cw_ ?_⟩
  refine rcw_x f 25 2816 (by decide) (cw_ ?_)
  exact ⟨h,le_z,hk' _ rfl⟩
 refine seq_false (c11) (cw_ ?_)
 by_cases c12:nm=[105,110,115,116,114,101,116]
 ·refine seq_true (c12) (cw_ ?_)
  obtain rfl:n=3074:=hnn 29 (by decide) c12
  refine ⟨_,rf_ld at_z,cw_ ?_⟩
  refine rcw_x f 26 2818 (by decide) (cw_ ?_)
  exact ⟨h,le_z,hk' _ rfl⟩
 refine seq_false (c12) (cw_ ?_)
 by_cases c13:nm=[109,104,97,114,116,105,100]
 ·refine seq_true (c13) (cw_ ?_)
  obtain rfl:n=3860:=hnn 33 (by decide) c13
  refine ⟨_,loadC0 aggIn at_z rfl,cw_ ?_⟩
  refine ⟨h,le_z,kq (hk' _ rfl) (iI ?_)⟩
  exact toU64 _
 refine seq_false (c13) (cw_ ?_)
 obtain ⟨i,hi,e1,e2,_⟩ | ⟨e,_⟩:=hcs
 rotate_left
 ·exact absurd e c0
 subst e1
 refine rcatn_x i hi (cw_ ?_)
 refine n_ ?_
 refine ⟨_,loadCA (k:=1+i) (by simp [addr_add];exact rc_mul i) aggU6 at_z (rcs_w f (num_is i hi)),cw_ ?_⟩
 refine ⟨h,le_z,hk' _ ?_⟩
 unfold Csf.get
 rw [if_neg (fun x=>c6 (hnm.symm.trans (congrArg nameOf x))),if_neg (fun x=>c7 (hnm.symm.trans (congrArg nameOf x))),if_neg (fun x=>c8 (hnm.symm.trans (congrArg nameOf x))),if_neg (fun x=>c9 (hnm.symm.trans (congrArg nameOf x))),if_neg (fun x=>c10 (hnm.symm.trans (congrArg nameOf x))),if_neg (fun x=>c11 (hnm.symm.trans (congrArg nameOf x))),if_neg (fun x=>c12 (hnm.symm.trans (congrArg nameOf x))),if_neg (fun x=>c13 (hnm.symm.trans (congrArg nameOf x)))]
theorem sie64 {w d v:Nat} (hw:w<2 ^ 64) (hv:v<2 ^ 64):IntKind.u64.wrap (IntKind.u64.wrap ((w:Int) - ((w &&& d:Nat):Int))+((v &&& d:Nat):Int))=((andN w d ||| (v &&& d):Nat):Int):=by
 have e1:=andN_sub d hw
 have e2:=andN_add (a:=w) d hv
 have l1:w &&& d≤w:=Nat.and_le_left
 have l3:andN w d ||| (v &&& d)<2 ^ 64:=Nat.or_lt_two_pow (andN_lt _ _) (rcand_lt hv)
 rw [toU64,toU64]
 omega
theorem rcset_x (f:Csf) (ok:f.ok) (n:Int) (v:Nat) (hv:v<2 ^ 64) (hk:K (.agg (f.set n v).rcs.toArray) h):X Tryz.prog 142 #[.agg f.rcs.toArray,.int .i64 n,uv v] h K:=by
 refine X.forget ?_
 obtain ⟨ra,rm,hR⟩:=rowRV_is n
 have hcs:=row_cases n
 have hnn:=@name_num n
 have hk':∀ g:Csf,f.set n v=g→K (.agg g.rcs.toArray) h:=fun m e=>e ▸ hk
 obtain ⟨nm,hnm⟩:∃ nm,nameOf n=nm:=⟨_,rfl⟩
 rw [hnm] at hR hcs hnn
 refine fnv (args:=_) mixed [] [132, 244, 115, 253, 255] [] Tryz.func142 rfl (by kernel_rfl) (cw_ ?_)
 refine new_intro (o:=rowO rfT f.rcs) (fun z h1 n_z le_z at_z ot_z=>cw_ ?_)
 refine new_intro (o:=_) (fun y h2 n_y le_y at_y ot_y=>cw_ ?_)
 have hz2:=le_y _ _ at_z
 have hle:h.le h2:=Hp.le_trans le_z le_y
 have hyz:y≠z:=fun e=>by rw [e] at n_y;rw [at_z] at n_y;cases n_y
 have hyh:h y=none:=Hp.none_le le_z n_y
 refine ⟨_,rf_ld hz2,cw_ ?_⟩
 refine rcw_x f 13 771 (by decide) (cw_ ?_)
 refine rcof_x n ?_
 rw [hR]
 conv=>whnf
 by_cases c0:nm=[]
 ·refine seq_true (c0) (cw_ ?_)
  have hu:f.set n v=f:=by
   rcases hcs with ⟨i,hi,e1,e2,_⟩ | ⟨_,e,_⟩
   ·rw [c0] at e2;exact absurd e2.symm (names_some i hi)
   ·have ho:=own_known e
    unfold Csf.set
    rw [if_neg (fun x=>by rw [x] at e;cases e),if_neg (fun x=>by rw [x] at e;cases e),if_neg (fun x=>by rw [x] at e;cases e),put_no ho,decide_eq_false (fun x=>by rw [x] at e;cases e),decide_eq_false (fun x=>by rw [x] at e;cases e),Bool.or_false,Bool.or_false]
  refine ⟨_,rf_ld hz2,cw_ ?_⟩
  refine wr_intro (by exact rf_st at_y rfl _) (fun h3 at_h3 ot_h3=>cw_ ?_)
  refine ⟨_,rf_ld at_h3,cw_ ?_⟩
  exact ⟨h,Hp.le_st hyh hle ot_h3,hk' _ hu⟩
 refine seq_false (c0) (cw_ ?_)
 by_cases c1:nm=[115,104,111,111,116]
 ·refine seq_true (c1) (cw_ ?_)
  obtain rfl:n=1474:=hnn 24 (by decide) c1
  have hu:f.set 1474 v=f:=by
   unfold Csf.set
   rw [if_neg (by decide),if_neg (by decide),if_neg (by decide),put_no rfl,decide_eq_false (by decide),decide_eq_false (by decide),Bool.or_false,Bool.or_false]
  refine ⟨_,rf_ld hz2,cw_ ?_⟩
  refine wr_intro (by exact rf_st at_y rfl _) (fun h3 at_h3 ot_h3=>cw_ ?_)
  refine ⟨_,rf_ld at_h3,cw_ ?_⟩
  exact ⟨h,Hp.le_st hyh hle ot_h3,hk' _ hu⟩
 refine seq_false (c1) (cw_ ?_)
 by_cases c2:nm=[109,105,115,97]
 ·refine seq_true (c2) (cw_ ?_)
  obtain rfl:n=769:=hnn 11 (by decide) c2
  have hu:f.set 769 v=f:=by
   unfold Csf.set
   rw [if_neg (by decide),if_neg (by decide),if_neg (by decide),put_no rfl,decide_eq_false (by decide),decide_eq_false (by decide),Bool.or_false,Bool.or_false]
  refine ⟨_,rf_ld hz2,cw_ ?_⟩
  refine wr_intro (by exact rf_st at_y rfl _) (fun h3 at_h3 ot_h3=>cw_ ?_)
  refine ⟨_,rf_ld at_h3,cw_ ?_⟩
  exact ⟨h,Hp.le_st hyh hle ot_h3,hk' _ hu⟩
 refine seq_false (c2) (cw_ ?_)
 by_cases c3:nm=[99,121,99,108,101]
 ·refine seq_true (c3) (cw_ ?_)
  obtain rfl:n=3072:=hnn 27 (by decide) c3
  have hu:f.set 3072 v=f:=by
   unfold Csf.set
   rw [if_neg (by decide),if_neg (by decide),if_neg (by decide),put_no rfl,decide_eq_false (by decide),decide_eq_false (by decide),Bool.or_false,Bool.or_false]
  refine ⟨_,rf_ld hz2,cw_ ?_⟩
  refine wr_intro (by exact rf_st at_y rfl _) (fun h3 at_h3 ot_h3=>cw_ ?_)
  refine ⟨_,rf_ld at_h3,cw_ ?_⟩
  exact ⟨h,Hp.le_st hyh hle ot_h3,hk' _ hu⟩
 refine seq_false (c3) (cw_ ?_)
 by_cases c4:nm=[116,105,109,101]
 ·refine seq_true (c4) (cw_ ?_)
  obtain rfl:n=3073:=hnn 28 (by decide) c4
  have hu:f.set 3073 v=f:=by
   unfold Csf.set
   rw [if_neg (by decide),if_neg (by decide),if_neg (by decide),put_no rfl,decide_eq_false (by decide),decide_eq_false (by decide),Bool.or_false,Bool.or_false]
  refine ⟨_,rf_ld hz2,cw_ ?_⟩
  refine wr_intro (by exact rf_st at_y rfl _) (fun h3 at_h3 ot_h3=>cw_ ?_)
  refine ⟨_,rf_ld at_h3,cw_ ?_⟩
  exact ⟨h,Hp.le_st hyh hle ot_h3,hk' _ hu⟩
 refine seq_false (c4) (cw_ ?_)
 by_cases c5:nm=[105,110,115,116,114,101,116]
 ·refine seq_true (c5) (cw_ ?_)
  obtain rfl:n=3074:=hnn 29 (by decide) c5
  have hu:f.set 3074 v=f:=by
   unfold Csf.set
   rw [if_neg (by decide),if_neg (by decide),if_neg (by decide),put_no rfl,decide_eq_false (by decide),decide_eq_false (by decide),Bool.or_false,Bool.or_false]
  refine ⟨_,rf_ld hz2,cw_ ?_⟩
  refine wr_intro (by exact rf_st at_y rfl _) (fun h3 at_h3 ot_h3=>cw_ ?_)
  refine ⟨_,rf_ld at_h3,cw_ ?_⟩
  exact ⟨h,Hp.le_st hyh hle ot_h3,hk' _ hu⟩
 refine seq_false (c5) (cw_ ?_)
 by_cases c6:nm=[109,118,101,110,100,111,114,105,100]
 ·refine seq_true (c6) (cw_ ?_)
  obtain rfl:n=3857:=hnn 30 (by decide) c6
  have hu:f.set 3857 v=f:=by
   unfold Csf.set
   rw [if_neg (by decide),if_neg (by decide),if_neg (by decide),put_no rfl,decide_eq_false (by decide),decide_eq_false (by decide),Bool.or_false,Bool.or_false]
  refine ⟨_,rf_ld hz2,cw_ ?_⟩
  refine wr_intro (by exact rf_st at_y rfl _) (fun h3 at_h3 ot_h3=>cw_ ?_)
  refine ⟨_,rf_ld at_h3,cw_ ?_⟩
  exact ⟨h,Hp.le_st hyh hle ot_h3,hk' _ hu⟩
 refine seq_false (c6) (cw_ ?_)
 by_cases c7:nm=[109,97,114,99,104,105,100]
 ·refine seq_true (c7) (cw_ ?_)
  obtain rfl:n=3858:=hnn 31 (by decide) c7
  have hu:f.set 3858 v=f:=by
   unfold Csf.set
   rw [if_neg (by decide),if_neg (by decide),if_neg (by decide),put_no rfl,decide_eq_false (by decide),decide_eq_false (by decide),Bool.or_false,Bool.or_false]
  refine ⟨_,rf_ld hz2,cw_ ?_⟩
  refine wr_intro (by exact rf_st at_y rfl _) (fun h3 at_h3 ot_h3=>cw_ ?_)
  refine ⟨_,rf_ld at_h3,cw_ ?_⟩
  exact ⟨h,Hp.le_st hyh hle ot_h3,hk' _ hu⟩
 refine seq_false (c7) (cw_ ?_)
 by_cases c8:nm=[109,105,109,112,105,100]
 ·refine seq_true (c8) (cw_ ?_)
  obtain rfl:n=3859:=hnn 32 (by decide) c8
  have hu:f.set 3859 v=f:=by
   unfold Csf.set
   rw [if_neg (by decide),if_neg (by decide),if_neg (by decide),put_no rfl,decide_eq_false (by decide),decide_eq_false (by decide),Bool.or_false,Bool.or_false]
  refine ⟨_,rf_ld hz2,cw_ ?_⟩
  refine wr_intro (by exact rf_st at_y rfl _) (fun h3 at_h3 ot_h3=>cw_ ?_)
  refine ⟨_,rf_ld at_h3,cw_ ?_⟩
  exact ⟨h,Hp.le_st hyh hle ot_h3,hk' _ hu⟩
 refine seq_false (c8) (cw_ ?_)
 by_cases c9:nm=[109,104,97,114,116,105,100]
 ·refine seq_true (c9) (cw_ ?_)
  obtain rfl:n=3860:=hnn 33 (by decide) c9
  have hu:f.set 3860 v=f:=by
   unfold Csf.set
   rw [if_neg (by decide),if_neg (by decide),if_neg (by decide),put_no rfl,decide_eq_false (by decide),decide_eq_false (by decide),Bool.or_false,Bool.or_false]
  refine ⟨_,rf_ld hz2,cw_ ?_⟩
  refine wr_intro (by exact rf_st at_y rfl _) (fun h3 at_h3 ot_h3=>cw_ ?_)
  refine ⟨_,rf_ld at_h3,cw_ ?_⟩
  exact ⟨h,Hp.le_st hyh hle ot_h3,hk' _ hu⟩
 refine seq_false (c9) (cw_ ?_)
 by_cases c10:nm=[115,115,116,97,116,117,115]
 ·refine seq_true (c10) (cw_ ?_)
  obtain rfl:n=256:=hnn 0 (by decide) c10
  refine ⟨_,rf_ld hz2,cw_ ?_⟩
  refine ⟨_,rf_ld hz2,cw_ ?_⟩
  refine ⟨_,rcw_x f 10 768 (by decide) ⟨rfl,rfl⟩,cw_ ?_⟩
  refine ⟨_,rslay_x _ _ (ok.at_lt 768) hv ⟨rfl,rfl⟩,cw_ ?_⟩
  refine ⟨_,rcp_x f ok.len 10 768 (by decide) _ ⟨rfl,rfl⟩,cw_ ?_⟩
  refine wr_intro (by exact rf_st at_y rfl _) (fun h3 at_h3 ot_h3=>cw_ ?_)
  refine ⟨trivial,cw_ ?_⟩
  refine ⟨_,rf_ld at_h3,cw_ ?_⟩
  exact ⟨h,Hp.le_st hyh hle ot_h3,hk' _ rfl⟩
 refine seq_false (c10) (cw_ ?_)
 by_cases c11:nm=[115,105,101]
 ·refine seq_true (c11) (cw_ ?_)
  obtain rfl:n=260:=hnn 1 (by decide) c11
  refine ⟨_,rf_ld hz2,cw_ ?_⟩
  refine rcw_x f 14 772 (by decide) (cw_ ?_)
  refine ⟨_,rf_ld hz2,cw_ ?_⟩
  refine ⟨_,rcand_x _ _ (ok.at_lt 772) (ok.at_lt 771) ⟨rfl,rfl⟩,cw_ ?_⟩
  refine ov_wrap (cw_ ?_)
  refine ⟨_,rcand_x _ _ hv (ok.at_lt 771) ⟨rfl,rfl⟩,cw_ ?_⟩
  refine ov_by (sie64 (ok.at_lt 772) hv) (cw_ ?_)
  refine ⟨_,rcp_x f ok.len 14 772 (by decide) _ ⟨rfl,rfl⟩,cw_ ?_⟩
  refine wr_intro (by exact rf_st at_y rfl _) (fun h3 at_h3 ot_h3=>cw_ ?_)
  refine ⟨trivial,cw_ ?_⟩
  refine ⟨_,rf_ld at_h3,cw_ ?_⟩
  exact ⟨h,Hp.le_st hyh hle ot_h3,hk' _ rfl⟩
 refine seq_false (c11) (cw_ ?_)
 by_cases c12:nm=[115,105,112]
 ·refine seq_true (c12) (cw_ ?_)
  obtain rfl:n=324:=hnn 8 (by decide) c12
  have he:=rsip_eq (d:=f.at 771) (v:=v) (ok.at_lt 836)
  refine ⟨_,rf_ld hz2,cw_ ?_⟩
  refine rcw_x f 21 836 (by decide) (cw_ ?_)
  refine rbit_x _ 1 (ok.at_lt 771) (by decide) (cw_ ?_)
  by_cases hb:bitN (f.at 771) 1=1
  ·refine bt_ ?_ (by rw [show ((1:Int)).toNat=1 from rfl,hb];rfl)
   refine rbit_x v 1 hv (by decide) (cw_ ?_)
   refine rput_x _ 1 1 _ (ok.at_lt 836) (bit64 _ _) (by decide) (by decide) (cw_ ?_)
   refine ⟨_,rf_ld hz2,cw_ ?_⟩
   refine rcp_x f ok.len 21 836 (by decide) _ (cw_ ?_)
   refine wr_intro (by exact rf_st at_y rfl _) (fun h3 at_h3 ot_h3=>cw_ ?_)
   refine ⟨_,rf_ld at_h3,cw_ ?_⟩
   exact ⟨h,Hp.le_st hyh hle ot_h3,hk' _ (by rw [if_pos hb] at he;exact congrArg (f.put 836) he.symm)⟩
  ·refine bf_ ?_ (by simp;exact fun e=>hb (by omega))
   refine ⟨_,rf_ld hz2,cw_ ?_⟩
   refine rcp_x f ok.len 21 836 (by decide) _ (cw_ ?_)
   refine wr_intro (by exact rf_st at_y rfl _) (fun h3 at_h3 ot_h3=>cw_ ?_)
   refine ⟨_,rf_ld at_h3,cw_ ?_⟩
   exact ⟨h,Hp.le_st hyh hle ot_h3,hk' _ (by rw [if_neg hb] at he;exact congrArg (f.put 836) he.symm)⟩
 refine seq_false (c12) (cw_ ?_)
 have hex:∀ s ∈ rcOut,nm≠s:=by
  intro s hs
  simp only [rcOut,List.mem_cons,List.not_mem_nil,or_false] at hs
  rcases hs with rfl | rfl | rfl | rfl | rfl | rfl | rfl | rfl | rfl | rfl | rfl | rfl
  all_goals assumption
 obtain ⟨i,hi,e1,e2,_⟩ | ⟨e,_⟩:=hcs
 rotate_left
 ·exact absurd e c0
 have ho:∃ q,idxN (csrNums.getD i 0:Nat)=some q:=by
  rcases own_or i hi with e | e
  ·exact Option.isSome_iff_exists.1 e
  ·exact absurd e2 (hex _ e)
 obtain ⟨q,ho⟩:=ho
 subst e1
 have e256:(csrNums.getD i 0:Nat)≠(256:Int):=fun x=>c10 (hnm.symm.trans (congrArg nameOf x))
 have e260:(csrNums.getD i 0:Nat)≠(260:Int):=fun x=>c11 (hnm.symm.trans (congrArg nameOf x))
 have e324:(csrNums.getD i 0:Nat)≠(324:Int):=fun x=>c12 (hnm.symm.trans (congrArg nameOf x))
 have hs:f.set (csrNums.getD i 0:Nat) v=({ f with cl:=f.cl || decide (((csrNums.getD i 0:Nat):Int)=2816),il:=f.il || decide (((csrNums.getD i 0:Nat):Int)=2818) }:Csf).put (csrNums.getD i 0:Nat) (legalN (csrNums.getD i 0:Nat) (f.at (csrNums.getD i 0:Nat)) v):=by
  unfold Csf.set
  rw [if_neg e256,if_neg e260,if_neg e324]
 have hat:=ok.at_lt (csrNums.getD i 0:Nat)
 by_cases c13:nm=[109,99,121,99,108,101]
 ·refine seq_true (c13) (cw_ ?_)
  have e3:((csrNums.getD i 0:Nat):Int)=2816:=hnn 25 (by decide) c13
  refine wr_intro (by exact storeCA (k:=35) (by simp [addr_add]) sizB6 hz2 (by rw [rcs_len];decide) (rcs_cl f true) rfl rfl) (fun h3 at_h3 ot_h3=>cw_ ?_)
  have hz3:=at_h3
  have hy3:=(ot_h3 y hyz).trans at_y
  have hle3:h.le h3:=Hp.le_st n_z hle ot_h3
  obtain ⟨g,hg⟩:∃ g:Csf,g={ f with cl:=true }:=⟨_,rfl⟩
  rw [← hg] at hz3
  have hg0:g.at (csrNums.getD i 0:Nat)=f.at (csrNums.getD i 0:Nat):=by rw [hg];rfl
  have hg1:g.at (csrNums.getD i 0:Nat)<2 ^ 64:=by rw [hg0];exact hat
  have hg2:g.w.length=22:=by rw [hg];exact ok.len
  have hg3:({ f with cl:=f.cl || decide (((csrNums.getD i 0:Nat):Int)=2816),il:=f.il || decide (((csrNums.getD i 0:Nat):Int)=2818) }:Csf).put (csrNums.getD i 0:Nat) (legalN (csrNums.getD i 0:Nat) (f.at (csrNums.getD i 0:Nat)) v)=g.put (csrNums.getD i 0:Nat) (legalN (csrNums.getD i 0:Nat) (g.at (csrNums.getD i 0:Nat)) v):=by rw [hg0,hg,e3];simp
  clear at_h3
  refine ⟨_,rf_ld hz3,cw_ ?_⟩
  refine ⟨_,rf_ld hz3,cw_ ?_⟩
  refine ⟨_,rcw_x g i _ hi ⟨rfl,rfl⟩ rfl e2.symm,cw_ ?_⟩
  refine ⟨_,rclegal_x _ _ v hg1 hv ⟨rfl,rfl⟩,cw_ ?_⟩
  refine ⟨_,rcp_x g hg2 i _ hi _ ⟨rfl,rfl⟩ ho rfl e2.symm,cw_ ?_⟩
  refine wr_intro (by exact rf_st hy3 rfl _) (fun h4 at_h4 ot_h4=>cw_ ?_)
  refine ⟨trivial,cw_ ?_⟩
  refine ⟨_,rf_ld at_h4,cw_ ?_⟩
  exact ⟨h,Hp.le_st hyh hle3 ot_h4,hk' _ (hs.trans hg3)⟩
 refine seq_false (c13) (cw_ ?_)
 by_cases c14:nm=[109,105,110,115,116,114,101,116]
 ·refine seq_true (c14) (cw_ ?_)
  have e3:((csrNums.getD i 0:Nat):Int)=2818:=hnn 26 (by decide) c14
  refine wr_intro (by exact storeCA (k:=36) (by simp [addr_add]) sizB6 hz2 (by rw [rcs_len];decide) (rcs_il f true) rfl rfl) (fun h3 at_h3 ot_h3=>cw_ ?_)
  have hz3:=at_h3
  have hy3:=(ot_h3 y hyz).trans at_y
  have hle3:h.le h3:=Hp.le_st n_z hle ot_h3
  obtain ⟨g,hg⟩:∃ g:Csf,g={ f with il:=true }:=⟨_,rfl⟩
  rw [← hg] at hz3
  have hg0:g.at (csrNums.getD i 0:Nat)=f.at (csrNums.getD i 0:Nat):=by rw [hg];rfl
  have hg1:g.at (csrNums.getD i 0:Nat)<2 ^ 64:=by rw [hg0];exact hat
  have hg2:g.w.length=22:=by rw [hg];exact ok.len
  have hg3:({ f with cl:=f.cl || decide (((csrNums.getD i 0:Nat):Int)=2816),il:=f.il || decide (((csrNums.getD i 0:Nat):Int)=2818) }:Csf).put (csrNums.getD i 0:Nat) (legalN (csrNums.getD i 0:Nat) (f.at (csrNums.getD i 0:Nat)) v)=g.put (csrNums.getD i 0:Nat) (legalN (csrNums.getD i 0:Nat) (g.at (csrNums.getD i 0:Nat)) v):=by rw [hg0,hg,e3];simp
  clear at_h3
  refine ⟨_,rf_ld hz3,cw_ ?_⟩
  refine ⟨_,rf_ld hz3,cw_ ?_⟩
  refine ⟨_,rcw_x g i _ hi ⟨rfl,rfl⟩ rfl e2.symm,cw_ ?_⟩
  refine ⟨_,rclegal_x _ _ v hg1 hv ⟨rfl,rfl⟩,cw_ ?_⟩
  refine ⟨_,rcp_x g hg2 i _ hi _ ⟨rfl,rfl⟩ ho rfl e2.symm,cw_ ?_⟩
  refine wr_intro (by exact rf_st hy3 rfl _) (fun h4 at_h4 ot_h4=>cw_ ?_)
  refine ⟨trivial,cw_ ?_⟩
  refine ⟨_,rf_ld at_h4,cw_ ?_⟩
  exact ⟨h,Hp.le_st hyh hle3 ot_h4,hk' _ (hs.trans hg3)⟩
 refine seq_false (c14) (cw_ ?_)
 have m1:((csrNums.getD i 0:Nat):Int)≠2816:=fun x=>c13 (hnm.symm.trans (congrArg nameOf x))
 have m2:((csrNums.getD i 0:Nat):Int)≠2818:=fun x=>c14 (hnm.symm.trans (congrArg nameOf x))
 have hz3:=hz2
 have hy3:=at_y
 have hle3:=hle
 obtain ⟨g,hg⟩:∃ g:Csf,g=f:=⟨_,rfl⟩
 rw [← hg] at hz3
 have hg0:g.at (csrNums.getD i 0:Nat)=f.at (csrNums.getD i 0:Nat):=by rw [hg]
 have hg1:g.at (csrNums.getD i 0:Nat)<2 ^ 64:=by rw [hg0];exact hat
 have hg2:g.w.length=22:=by rw [hg];exact ok.len
 have hg3:({ f with cl:=f.cl || decide (((csrNums.getD i 0:Nat):Int)=2816),il:=f.il || decide (((csrNums.getD i 0:Nat):Int)=2818) }:Csf).put (csrNums.getD i 0:Nat) (legalN (csrNums.getD i 0:Nat) (f.at (csrNums.getD i 0:Nat)) v)=g.put (csrNums.getD i 0:Nat) (legalN (csrNums.getD i 0:Nat) (g.at (csrNums.getD i 0:Nat)) v):=by rw [hg0,hg,decide_eq_false m1,decide_eq_false m2,Bool.or_false,Bool.or_false]
 refine ⟨_,rf_ld hz3,cw_ ?_⟩
 refine ⟨_,rf_ld hz3,cw_ ?_⟩
 refine ⟨_,rcw_x g i _ hi ⟨rfl,rfl⟩ rfl e2.symm,cw_ ?_⟩
 refine ⟨_,rclegal_x _ _ v hg1 hv ⟨rfl,rfl⟩,cw_ ?_⟩
 refine ⟨_,rcp_x g hg2 i _ hi _ ⟨rfl,rfl⟩ ho rfl e2.symm,cw_ ?_⟩
 refine wr_intro (by exact rf_st hy3 rfl _) (fun h4 at_h4 ot_h4=>cw_ ?_)
 refine ⟨trivial,cw_ ?_⟩
 refine ⟨_,rf_ld at_h4,cw_ ?_⟩
 exact ⟨h,Hp.le_st hyh hle3 ot_h4,hk' _ (hs.trans hg3)⟩
end
end Go.Proofs.YtdhlpighdlnohaaGreat
