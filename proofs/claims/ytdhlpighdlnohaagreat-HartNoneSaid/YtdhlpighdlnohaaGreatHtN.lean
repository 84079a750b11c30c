/-
  A hart: control registers, returns, fences.
-/
import Derived.Test.YtdhlpighdlnohaaGreatHtL
set_option linter.unusedSimpArgs false
set_option linter.unusedVariables false
set_option maxHeartbeats 8000000
set_option maxRecDepth 10000
set_option linter.unusedSimpArgs false
set_option linter.unusedVariables false
namespace Go.Proofs.YtdhlpighdlnohaaGreat
open Go Go.Mid Go.RowKit Go.Bits
attribute [local irreducible] mid
theorem operand_lt {H:Hd} (i:H.inv):H.operand<2 ^ 64:=by
 unfold Hd.operand
 split
 ·omega
 ·exact regN_lt i.ok.rw _
theorem shootM_lt {H:Hd} (i:H.inv):H.shootM<2 ^ 64:=by
 unfold Hd.shootM
 split
 ·decide
 ·exact operand_lt i
section
set_option maxHeartbeats 16000000
variable {k h:Hp} {K:Value→Hp→Prop} {b:Nat} {H:Hd}
theorem hoperand_x (n:HaN k h b H) (hk:K (ux H.operand) h):X Tryz.prog 294 #[.pointer (some ⟨b,0,none⟩)] h K:=by
 obtain ⟨c,s,r,ht,up⟩:=n.row
 have i:=n.inv
 have o:=i.ok
 unfold Hd.operand at hk
 obtain ⟨op,eop⟩:∃ op,H.t.x.op=op:=⟨_,rfl⟩
 have l24:(H.z c s)[24]? = some (.int .i64 op):=by rw [← eop];rfl
 rw [eop] at hk
 by_cases q:92≤op∧op≤94
 ·rw [if_pos q] at hk
  have q3:op=92∨op=93∨op=94:=by omega
  clear eop q
  rcases q3 with rfl | rfl | rfl
  all_goals
   refine fnv (args:=_) mixed [] [] [] Tryz.func294 rfl (by kernel_rfl) (cw_ ?_)
   refine ⟨_,(r.z o.len).ld 24 aggOp l24,cw_ ?_⟩
   refine ⟨_,(r.z o.len).ld 26 aggI4 rfl,cw_ ?_⟩
   refine ov_by (toU64 H.t.x.rs1) (cw_ ?_)
   exact hk
 ·rw [if_neg q] at hk
  refine fnv (args:=_) mixed [] [] [] Tryz.func294 rfl (by kernel_rfl) (cw_ ?_)
  refine ⟨_,(r.z o.len).ld 24 aggOp l24,cw_ ?_⟩
  iterate 3
   first
    | (refine bsel_false (by simp;omega) ?_;conv=>whnf)
    | (rw [show (op==92)=false by simp;omega];conv=>whnf)
    | (rw [show (op==93)=false by simp;omega];conv=>whnf)
    | (rw [show (op==94)=false by simp;omega];conv=>whnf)
  refine ⟨_,(r.z o.len).ld 26 aggI4 rfl,cw_ ?_⟩
  refine rgget_x r.regs o.r H.t.x.rs1 ?_
  refine ⟨trivial,cw_ ?_⟩
  exact hk
theorem harts_N {H:Hd} (i:H.inv):∃ m:Nat,H.c.harts=m∧1≤m∧m≤8:=by
 have:=wr_harts i.cr
 exact ⟨H.c.harts.toNat,by omega,by omega,by omega⟩
theorem hshoot_x (n:HaN k h b H) (hl:H.told.length≤2 ^ 20) (hk:∀ h',HaN k h' b (H.shoot tbT)→K (.tuple #[]) h'):X Tryz.prog 293 #[.pointer (some ⟨b,0,none⟩)] h K:=by
 obtain ⟨c,s,r,ht,up⟩:=n.row
 have i:=n.inv
 have o:=i.ok
 have hw:=o.f.at_lt
 have hol:=operand_lt i
 obtain ⟨nh,hnh,nh1,nh2⟩:=harts_N i
 obtain ⟨id,hid⟩:∃ m:Nat,H.id=m:=⟨H.id.toNat,by have:=i.id;omega⟩
 have hid2:id≤7:=by have:=i.id;omega
 have hR:H.shootR=plainQ ⟨true,decide (H.shootM / 2 ^ 8 % 2=1),decide (H.shootM / 2 ^ 9 % 2=1),H.f.at 1472,IntKind.i64.wrap (H.f.at 1473:Nat)⟩:=rfl
 unfold Hd.shoot at hk
 simp only [hR,hnh,hid,Int.toNat_natCast] at hk
 clear hR
 obtain ⟨op,eop⟩:∃ op,H.t.x.op=op:=⟨_,rfl⟩
 have l24:(H.z c s)[24]? = some (.int .i64 op):=by rw [← eop];rfl
 obtain ⟨M,hM⟩:∃ M,H.shootM=M:=⟨_,rfl⟩
 have hM1:M<2 ^ 64:=by rw [← hM];exact shootM_lt i
 have hM2:M=if op=91∨op=94 then 0 else H.operand:=by rw [← hM];unfold Hd.shootM;rw [eop]
 rw [hM] at hk
 have l0:([Value.int .i64 H.id]++H.c.cs)[0]? = some (.int .i64 id):=by rw [hid];rfl
 have l1:([Value.int .i64 H.id]++H.c.cs)[1]? = some (.int .i64 nh):=by rw [← hnh];rfl
 obtain ⟨M8,h8⟩:∃ x,M / 2 ^ 8=x:=⟨_,rfl⟩
 obtain ⟨M9,h9⟩:∃ x,M / 2 ^ 9=x:=⟨_,rfl⟩
 obtain ⟨Mi,hi⟩:∃ x,M / 2 ^ id=x:=⟨_,rfl⟩
 obtain ⟨W,hW⟩:∃ x,M % 2 ^ nh=x:=⟨_,rfl⟩
 obtain ⟨R,hRq⟩:∃ R,plainQ ⟨true,decide (M8 % 2=1),decide (M9 % 2=1),H.f.at 1472,IntKind.i64.wrap (H.f.at 1473:Nat)⟩=R:=⟨_,rfl⟩
 have hRo:R.ok:=by rw [← hRq];exact plain_ok ⟨hw 1472,by show _≤IntKind.i64.wrap _;rw [IntKind.wrap_i64];omega,by show IntKind.i64.wrap _≤_;rw [IntKind.wrap_i64];omega⟩
 rw [h8,h9,hi,hRq,hW] at hk
 obtain ⟨H1,hH1⟩:∃ H1,(if Mi % 2=1 then H.forget tbT R else H)=H1:=⟨_,rfl⟩
 have hH2:H1.t=H.t∧H1.c=H.c∧H1.id=H.id:=by rw [← hH1];split <;> exact ⟨rfl,rfl,rfl⟩
 rw [hH1] at hk
 have hd:∀ x:Nat,(((x % 2:Nat):Int)==1)=decide (x % 2=1):=fun x=>by rw [Bool.eq_iff_iff];simp;omega
 have m8:M8<2 ^ 64:=by rw [← h8];exact Nat.lt_of_le_of_lt (Nat.div_le_self _ _) hM1
 have m9:M9<2 ^ 64:=by rw [← h9];exact Nat.lt_of_le_of_lt (Nat.div_le_self _ _) hM1
 have mi:Mi<2 ^ 64:=by rw [← hi];exact Nat.lt_of_le_of_lt (Nat.div_le_self _ _) hM1
 have mW:W<2 ^ 64:=by rw [← hW];exact Nat.lt_of_le_of_lt (Nat.mod_le _ _) hM1
 have one:∀ {x:Nat},x<2 ^ 64→IntKind.u64.wrap ((BitVec.ofInt IntKind.u64.bits (x:Int) &&& BitVec.ofInt IntKind.u64.bits ((1:Nat):Int)).toNat:Int)=((x % 2:Nat):Int):=fun {x} hx=>(and64 hx (show 1<2 ^ 64 by decide)).trans (congrArg (fun n:Nat=>(n:Int)) (Nat.and_one_is_mod x))
 refine fnp (args:=_) mixed [(3,3)] [65] [] [(999999,[22,46])] Tryz.func293 rfl (by kernel_rfl) (cw_ ?_)
 refine hoperand_x n (cw_ ?_)
 refine ⟨_,(r.z o.len).ld 24 aggOp l24,cw_ ?_⟩
 by_cases q1:op=91
 focus
  subst q1
  conv=>whnf
 rotate_left
 focus
  rw [show (op==91)=false by simp;omega]
  conv=>whnf
  refine ⟨_,(r.z o.len).ld 24 aggOp l24,cw_ ?_⟩
 rotate_left
 all_goals
  refine if_at [2] [] (fun vs _ h'=>h'=h∧vs=[.v (ux M)]) (fun e=>?_) (fun e=>?_) (fun vs cs m bx h' hI=>?_)
  ·conv=>whnf
   refine ⟨rfl,?_⟩
   rw [hM2,if_pos (by first | exact .inl rfl | (simp at e;exact .inr e))]
   rfl
  ·conv=>whnf
   refine ⟨rfl,?_⟩
   rw [hM2,if_neg (by first | (exact absurd e (by decide)) | (simp at e;exact fun hh=>hh.elim (fun h1=>q1 h1) e))]
   rfl
  obtain ⟨rfl,rfl⟩:=hI
  conv=>whnf
  refine val_by ((shr64 M 8 (by decide)).trans (congrArg (fun n:Nat=>(n:Int)) h8)) (cw_ ?_)
  refine val_by (one m8) (cw_ ?_)
  refine hcsr_x n 1472 (by decide) (cw_ ?_)
  refine val_by ((shr64 M 9 (by decide)).trans (congrArg (fun n:Nat=>(n:Int)) h9)) (cw_ ?_)
  refine val_by (one m9) (cw_ ?_)
  refine hcsr_x n 1473 (by decide) (cw_ ?_)
  refine ov_by rfl (cw_ ?_)
  refine mplain_x ⟨true,_,_,H.f.at 1472,IntKind.i64.wrap (H.f.at 1473:Nat)⟩ ?_
  rw [hd,hd,hRq]
  conv=>whnf
  refine ⟨_,r.top.ld 0 aggI4 l0,cw_ ?_⟩
  refine ov_by (w64 (show id<2 ^ 64 by omega)) (cw_ ?_)
  refine val_by ((shr64 M id (by omega)).trans (congrArg (fun n:Nat=>(n:Int)) hi)) (cw_ ?_)
  refine val_by (one mi) (cw_ ?_)
  refine if_at [] [3] (fun _ cs h'=>HaN k h' b H1∧cs=[some R.cs]) (fun e=>?_) (fun e=>?_) (fun vs cs m bx h2 hI=>?_)
  ·rw [hd] at e
   have e:=of_decide_eq_true e
   conv=>whnf
   refine hforget_x n R hRo hl fun h2 n2=>(cw_ ?_)
   exact ⟨by rw [← hH1,if_pos e];exact n2,rfl⟩
  ·rw [hd] at e
   have e:=of_decide_eq_false e
   conv=>whnf
   exact ⟨by rw [← hH1,if_neg e];exact n,rfl⟩
  obtain ⟨n1,rfl⟩:=hI
  conv=>whnf
  obtain ⟨c1,s1,r1,ht1,up1⟩:=n1.row
  have i1:=n1.inv
  have l2:([Value.int .i64 H1.id]++H1.c.cs)[0]? = some (.int .i64 id):=by rw [hH2.2.2,hid];rfl
  have l3:([Value.int .i64 H1.id]++H1.c.cs)[1]? = some (.int .i64 nh):=by rw [hH2.2.1,← hnh];rfl
  refine ⟨_,r1.top.ld 1 aggI4 l3,cw_ ?_⟩
  refine ⟨_,blow_x M nh hM1 (by omega) ⟨rfl,rfl⟩,?_⟩
  rw [hW]
  conv=>whnf
  refine ⟨_,r1.top.ld 0 aggI4 l2,cw_ ?_⟩
  refine ov_by (w64 (show id<2 ^ 64 by omega)) (cw_ ?_)
  refine ov_by ((shl64 1 id (by omega)).trans (congrArg (fun n:Nat=>(n:Int)) (show 1*2 ^ id % 18446744073709551616=2 ^ id by rw [Nat.one_mul];exact Nat.mod_eq_of_lt (Nat.lt_of_le_of_lt (Nat.pow_le_pow_right (by decide) hid2) (by decide))))) (cw_ ?_)
  refine val_by (andNot64 mW (show 2 ^ id<2 ^ 64 from Nat.pow_lt_pow_right (by decide) (by omega))) (cw_ ?_)
  refine wr_intro (by exact st_shot ⟨R,andN W (2 ^ id),0⟩ (r1.z i1.ok.len)) (fun g1 at_g1 ot_g1=>cw_ ?_)
  have n2:HaN k g1 b { H1 with t:={ H1.t with shot:=⟨R,andN W (2 ^ id),0⟩ } }:=HaN.turn1 up1 rfl i1.ok.len at_g1 ot_g1 (i1.shot H1.t.at_ ⟨R,andN W (2 ^ id),0⟩ (andN_lt _ _) (by show (0:Int)≤0∧(0:Int)≤7;decide)) rfl rfl rfl
  refine hafter_x n2 0 (by decide) (fun e=>?_) fun j g2 e n3=>?_
  ·have e:(⟨R,andN W (2 ^ id),0⟩:Sho).after 0=none:=e
   rw [e] at hk
   conv=>whnf
   refine hhit_x n2 fun g3 n4=>(cw_ ?_)
   exact hk g3 n4
  ·have e:(⟨R,andN W (2 ^ id),0⟩:Sho).after 0=some j:=e
   rw [e] at hk
   conv=>whnf
   obtain ⟨c2,s2,r2,ht2,up2⟩:=n3.row
   have o2:=n3.inv.ok
   refine wr_intro (by exact (r2.z o2.len).st 7 sizWhr (by show 7<71;decide) rfl rfl) (fun g3 at_g3 ot_g3=>cw_ ?_)
   exact hk g3 (HaN.turn1 up2 rfl o2.len at_g3 ot_g3 (n3.inv.at 7) rfl rfl rfl)
end
end Go.Proofs.YtdhlpighdlnohaaGreat
namespace Go.Proofs.YtdhlpighdlnohaaGreat
open Go Go.Mid Go.RowKit Go.Bits
attribute [local irreducible] mid
theorem doF_ok {f:Csf} (ok:f.ok) (op n rs1:Int) {v:Nat} (hv:v<2 ^ 64):(f.doF op n rs1 v).ok:=by
 unfold Csf.doF
 split
 ·exact ok.set _ (doV_lt ok op n hv)
 ·exact ok
theorem doR_lt {f:Csf} (ok:f.ok) (op n:Int) {l:Nat} (hl:l<2 ^ 64):f.doR op n l<2 ^ 64:=by
 unfold Csf.doR
 split
 ·exact get_lt ok n hl
 ·decide
section
set_option maxHeartbeats 16000000
variable {k h:Hp} {K:Value→Hp→Prop} {b:Nat} {H:Hd}
theorem hleave_x (n:HaN k h b H) (a:Int) (ha:a=1∨a=3) (hk:∀ h',HaN k h' b (H.leave a)→K (.tuple #[]) h'):X Tryz.prog 187 #[.pointer (some ⟨b,0,none⟩),.int .i64 a] h K:=by
 obtain ⟨c,s,r,ht,up⟩:=n.row
 have i:=n.inv
 have o:=i.ok
 have hl:leaveW (H.f.at 768) a<2 ^ 64:=leave_lt (o.f.at_lt 768)
 have of:=o.f.set 768 hl
 have hpc:=of.at_lt (if a=1 then 321 else 833)
 unfold Hd.leave at hk
 simp only at hk
 refine fnv (args:=_) mixed [] [] [] Tryz.func187 rfl (by kernel_rfl) (cw_ ?_)
 refine tleave_x (r.file o.r) o.f a ha fun h1 p1 o1=>?_
 have r1:HaR h1 b { H with f:=H.f.set 768 (leaveW (H.f.at 768) a) } c s:=HaR.ofFile p1
 generalize H.f.set 768 (leaveW (H.f.at 768) a)=f1 at *
 generalize leaveP (H.f.at 768) a=q1 at *
 generalize f1.at (if a=1 then 321 else 833)=w1 at *
 have oF:({ H with f:=f1 }:Hd).ok:=⟨o.r,o.rw,of,o.pc⟩
 conv=>whnf
 refine wr_intro (by exact (r1.z oF.len).st 1 sizPv (by show 1<71;decide) rfl rfl) (fun h2 at_h2 ot_h2=>cw_ ?_)
 have r2:HaR h2 b { H with f:=f1,priv:=q1 } c s:=HaR.ofZ (H:={ H with f:=f1 }) rfl ⟨at_h2,oF.len⟩
 refine wr_intro (by exact (r2.z oF.len).st 0 sizU (by show 0<71;decide) rfl rfl) (fun h3 at_h3 ot_h3=>cw_ ?_)
 have r3:HaR h3 b { H with f:=f1,priv:=q1,pc:=w1 } c s:=HaR.ofZ (H:={ H with f:=f1 }) rfl ⟨at_h3,oF.len⟩
 have n3:HaN k h3 b { H with f:=f1,priv:=q1,pc:=w1 }:=up h3 _ r3 (fun d x hd e=>by rw [ot_h3 d hd,ot_h2 d hd,o1 d hd];exact e) { i with ok:=⟨o.r,o.rw,of,hpc⟩ } rfl rfl rfl
 refine hend_x n3 true fun h4 n4=>(cw_ ?_)
 exact hk h4 n4
theorem hfence_x (n:HaN k h b H) (hl:H.told.length≤2 ^ 20) (hk:∀ h',HaN k h' b (H.fence tbT)→K (.tuple #[]) h'):X Tryz.prog 188 #[.pointer (some ⟨b,0,none⟩)] h K:=by
 obtain ⟨c,s,r,ht,up⟩:=n.row
 have i:=n.inv
 have o:=i.ok
 have hb1:=regN_lt o.rw H.t.x.rs1
 have hb2:=regN_lt o.rw H.t.x.rs2
 obtain ⟨a2,ha2⟩:∃ a,regN H.r H.t.x.rs2 % 65536=a:=⟨_,rfl⟩
 have ha3:a2<65536:=by omega
 have d1:∀ x:Int,(x != 0)=decide (x≠0):=fun x=>by rw [Bool.eq_iff_iff];simp
 unfold Hd.fence at hk
 rw [ha2] at hk
 obtain ⟨R,hR⟩:∃ R,plainQ ⟨true,decide (H.t.x.rs1≠0),decide (H.t.x.rs2≠0),regN H.r H.t.x.rs1,(a2:Nat)⟩=R:=⟨_,rfl⟩
 rw [hR] at hk
 have hR2:plainQ ⟨true,H.t.x.rs1 != 0,H.t.x.rs2 != 0,regN H.r H.t.x.rs1,(a2:Nat)⟩=R:=by rw [d1,d1];exact hR
 have hRo:R.ok:=by rw [← hR];exact plain_ok ⟨hb1,by show _≤((a2:Nat):Int);omega,by show ((a2:Nat):Int)≤_;omega⟩
 refine fnv (args:=_) mixed [] [172, 65, 296] [] Tryz.func188 rfl (by kernel_rfl) (cw_ ?_)
 refine ⟨_,(r.z o.len).ld 27 aggI4 rfl,cw_ ?_⟩
 refine ⟨_,rgget_x r.regs o.r H.t.x.rs2 ⟨rfl,rfl⟩,cw_ ?_⟩
 refine ⟨_,blow_x _ 16 hb2 (by decide) ⟨rfl,rfl⟩,?_⟩
 rw [show regN H.r H.t.x.rs2 % 2 ^ 16=a2 from ha2]
 conv=>whnf
 refine ⟨_,(r.z o.len).ld 26 aggI4 rfl,cw_ ?_⟩
 refine ⟨_,(r.z o.len).ld 26 aggI4 rfl,cw_ ?_⟩
 refine ⟨_,rgget_x r.regs o.r H.t.x.rs1 ⟨rfl,rfl⟩,cw_ ?_⟩
 refine ⟨_,(r.z o.len).ld 27 aggI4 rfl,cw_ ?_⟩
 refine ov_is (show (a2:Int)=a2 from rfl) (by omega) (cw_ ?_)
 refine ⟨_,mplain_x ⟨true,H.t.x.rs1 != 0,H.t.x.rs2 != 0,regN H.r H.t.x.rs1,(a2:Nat)⟩ ⟨rfl,rfl⟩,?_⟩
 rw [hR2]
 conv=>whnf
 refine hforget_x n R hRo hl fun h1 n1=>?_
 refine ⟨trivial,cw_ ?_⟩
 obtain ⟨c1,s1,r1,ht1,up1⟩:=n1.row
 refine ⟨_,(r1.z n1.inv.ok.len).ld 0 aggU rfl,cw_ ?_⟩
 refine ov_by (n4_eq H.pc) (cw_ ?_)
 refine hretire_x n1 (n4 H.pc) (n4_lt _) fun h2 n2=>(cw_ ?_)
 exact hk h2 n2
theorem hcontrol_x (n:HaN k h b H) (hl:H.told.length≤2 ^ 20) (hk:∀ h',HaN k h' b (H.control tbT)→K (.tuple #[]) h'):X Tryz.prog 183 #[.pointer (some ⟨b,0,none⟩)] h K:=by
 obtain ⟨c,s,r,ht,up⟩:=n.row
 have i:=n.inv
 have o:=i.ok
 have hop:=operand_lt i
 have of:=doF_ok o.f H.t.x.op H.t.x.csr H.t.x.rs1 hop
 have hdr:=doR_lt o.f H.t.x.op H.t.x.csr i.lines
 obtain ⟨wr,hwr⟩:∃ w,writesB H.t.x.op H.t.x.rs1=w:=⟨_,rfl⟩
 obtain ⟨my,hmy⟩:∃ w,H.f.may H.t.x.csr H.priv wr=w:=⟨_,rfl⟩
 unfold Hd.control at hk
 simp only [hwr,hmy] at hk
 refine fnv (args:=_) mixed [] [257, 292, 294] [72] Tryz.func183 rfl (by kernel_rfl) (cw_ ?_)
 refine ⟨_,(r.z o.len).ld 24 aggOp rfl,cw_ ?_⟩
 refine ⟨_,(r.z o.len).ld 26 aggI4 rfl,cw_ ?_⟩
 refine ⟨_,fwrites_x H.t.x.op H.t.x.rs1 ⟨rfl,rfl⟩,?_⟩
 rw [hwr]
 conv=>whnf
 refine ⟨_,(r.z o.len).ld 29 aggI4 rfl,cw_ ?_⟩
 refine ⟨_,(r.z o.len).ld 1 aggPv rfl,cw_ ?_⟩
 refine ⟨_,fmay_x (r.file o.r) o.f H.t.x.csr H.priv wr ⟨rfl,rfl⟩,?_⟩
 rw [hmy]
 conv=>whnf
 cases my with
 | false =>
  rw [if_pos (by decide)] at hk
  conv=>whnf
  refine hillegal_x n fun h1 n1=>(cw_ ?_)
  exact hk h1 n1
 | true =>
  rw [if_neg (by decide)] at hk
  conv=>whnf
  refine ⟨_,(r.z o.len).ld 29 aggI4 rfl,cw_ ?_⟩
  refine br_ (fun q1=>?_) fun q1=>?_
  ·rw [if_pos q1] at hk
   conv=>whnf
   refine wr_intro (by exact (r.z o.len).st 7 sizWhr (by show 7<71;decide) rfl rfl) (fun h1 at_h1 ot_h1=>cw_ ?_)
   have r1:HaR h1 b { H with t:={ H.t with at_:=6 } } c s:=HaR.ofZ (H:=H) rfl ⟨at_h1,o.len⟩
   refine big_by (v:=.agg (Ak.cs { Ak.zero with kind:=9,addr:=33603576,size:=8 }).toArray) (by kernel_rfl) (cw_ ?_)
   refine wr_intro (by exact st_ask { Ak.zero with kind:=9,addr:=33603576,size:=8 } (r1.z o.len)) (fun h2 at_h2 ot_h2=>cw_ ?_)
   exact hk h2 (HaN.turn1 up rfl o.len at_h2 (fun d hd=>by rw [ot_h2 d hd,ot_h1 d hd]) (i.ask 6 { Ak.zero with kind:=9,addr:=33603576,size:=8 } (by show (33603576:Nat)<2 ^ 64;decide) (by show (0:Nat)<2 ^ 64;decide) (by show (0:Int)≤0∧(0:Int)≤8;decide) (by show (0:Int)≤8∧(8:Int)≤8;decide)) rfl rfl rfl)
  ·rw [if_neg q1] at hk
   conv=>whnf
   refine ⟨_,(r.z o.len).ld 29 aggI4 rfl,cw_ ?_⟩
   by_cases q2:H.t.x.csr=1474
   ·rw [show (H.t.x.csr==1474)=true by simpa using q2]
    conv=>whnf
    cases wr with
    | true =>
     rw [if_pos ⟨q2,rfl⟩] at hk
     conv=>whnf
     refine hshoot_x n hl fun h1 n1=>(cw_ ?_)
     exact hk h1 n1
    | false =>
     rw [if_neg (fun e=>by cases e.2)] at hk
     conv=>whnf
     refine ⟨fun z=>∃ (f:Csf) (x:List Nat) (s2:Value),HaR z b { H with f:=f,r:=x } c s2∧x.length=32∧f.w.length=22,⟨H.f,H.r,s,r,o.r,o.f.len⟩,cw_ ?_⟩
     refine ⟨.int .i64 H.t.x.rd,fun z ⟨f,x,s2,rz,hx,hf⟩=>(rz.z (by simp [Hd.a,Cn.cs,hx,cs_len hf])).ld 25 aggI4 rfl,cw_ ?_⟩
     refine ⟨_,(r.z o.len).ldA 24 aggIns sizIns (x:=H.t.x.cs) rfl rfl,cw_ ?_⟩
     refine ⟨_,hoperand_x n ⟨rfl,rfl⟩,cw_ ?_⟩
     refine ⟨_,(r.z o.len).ld 8 aggU rfl,cw_ ?_⟩
     refine fdo_x (r.file o.r) o.f H.t.x H.operand H.t.lines hop i.lines fun h1 p1 o1=>?_
     have r1:HaR h1 b { H with f:=H.f.doF H.t.x.op H.t.x.csr H.t.x.rs1 H.operand } c s:=HaR.ofFile p1
     refine ⟨⟨_,H.r,s,r1,o.r,of.len⟩,cw_ ?_⟩
     have n1:HaN k h1 b { H with f:=H.f.doF H.t.x.op H.t.x.csr H.t.x.rs1 H.operand }:=up h1 _ r1 (fun d x hd e=>by rw [o1 d hd];exact e) { i with ok:=⟨o.r,o.rw,of,o.pc⟩ } rfl rfl rfl
     refine rgset_x r1.regs o.r H.t.x.rd _ fun h2 o2 p2=>?_
     rw [← setR_N] at p2
     have r2:HaR h2 b { H with f:=H.f.doF H.t.x.op H.t.x.csr H.t.x.rs1 H.operand,r:=setR H.r H.t.x.rd (H.f.doR H.t.x.op H.t.x.csr H.t.lines) } c s:=HaR.ofRegs p2
     have hs:=setR_ok o.r o.rw H.t.x.rd hdr
     have n2:HaN k h2 b { H with f:=H.f.doF H.t.x.op H.t.x.csr H.t.x.rs1 H.operand,r:=setR H.r H.t.x.rd (H.f.doR H.t.x.op H.t.x.csr H.t.lines) }:=up h2 _ r2 (fun d x hd e=>by rw [o2 d hd,o1 d hd];exact e) { i with ok:=⟨hs.1,hs.2,of,o.pc⟩ } rfl rfl rfl
     refine ⟨⟨_,_,s,r2,hs.1,of.len⟩,cw_ ?_⟩
     refine ⟨_,(r2.z n2.inv.ok.len).ld 0 aggU rfl,cw_ ?_⟩
     refine ov_by (n4_eq H.pc) (cw_ ?_)
     refine hretire_x n2 (n4 H.pc) (n4_lt _) fun h3 n3=>(cw_ ?_)
     exact hk h3 n3
   ·rw [show (H.t.x.csr==1474)=false by simpa using q2]
    rw [if_neg (fun e=>q2 e.1)] at hk
    conv=>whnf
    refine ⟨fun z=>∃ (f:Csf) (x:List Nat) (s2:Value),HaR z b { H with f:=f,r:=x } c s2∧x.length=32∧f.w.length=22,⟨H.f,H.r,s,r,o.r,o.f.len⟩,cw_ ?_⟩
    refine ⟨.int .i64 H.t.x.rd,fun z ⟨f,x,s2,rz,hx,hf⟩=>(rz.z (by simp [Hd.a,Cn.cs,hx,cs_len hf])).ld 25 aggI4 rfl,cw_ ?_⟩
    refine ⟨_,(r.z o.len).ldA 24 aggIns sizIns (x:=H.t.x.cs) rfl rfl,cw_ ?_⟩
    refine ⟨_,hoperand_x n ⟨rfl,rfl⟩,cw_ ?_⟩
    refine ⟨_,(r.z o.len).ld 8 aggU rfl,cw_ ?_⟩
    refine fdo_x (r.file o.r) o.f H.t.x H.operand H.t.lines hop i.lines fun h1 p1 o1=>?_
    have r1:HaR h1 b { H with f:=H.f.doF H.t.x.op H.t.x.csr H.t.x.rs1 H.operand } c s:=HaR.ofFile p1
    refine ⟨⟨_,H.r,s,r1,o.r,of.len⟩,cw_ ?_⟩
    have n1:HaN k h1 b { H with f:=H.f.doF H.t.x.op H.t.x.csr H.t.x.rs1 H.operand }:=up h1 _ r1 (fun d x hd e=>by rw [o1 d hd];exact e) { i with ok:=⟨o.r,o.rw,of,o.pc⟩ } rfl rfl rfl
    refine rgset_x r1.regs o.r H.t.x.rd _ fun h2 o2 p2=>?_
    rw [← setR_N] at p2
    have r2:HaR h2 b { H with f:=H.f.doF H.t.x.op H.t.x.csr H.t.x.rs1 H.operand,r:=setR H.r H.t.x.rd (H.f.doR H.t.x.op H.t.x.csr H.t.lines) } c s:=HaR.ofRegs p2
    have hs:=setR_ok o.r o.rw H.t.x.rd hdr
    have n2:HaN k h2 b { H with f:=H.f.doF H.t.x.op H.t.x.csr H.t.x.rs1 H.operand,r:=setR H.r H.t.x.rd (H.f.doR H.t.x.op H.t.x.csr H.t.lines) }:=up h2 _ r2 (fun d x hd e=>by rw [o2 d hd,o1 d hd];exact e) { i with ok:=⟨hs.1,hs.2,of,o.pc⟩ } rfl rfl rfl
    refine ⟨⟨_,_,s,r2,hs.1,of.len⟩,cw_ ?_⟩
    refine ⟨_,(r2.z n2.inv.ok.len).ld 0 aggU rfl,cw_ ?_⟩
    refine ov_by (n4_eq H.pc) (cw_ ?_)
    refine hretire_x n2 (n4 H.pc) (n4_lt _) fun h3 n3=>(cw_ ?_)
    exact hk h3 n3
end
end Go.Proofs.YtdhlpighdlnohaaGreat
