/-
  Causes of traps.
-/
import Derived.Test.YtdhlpighdlnohaaGreatCsF
import Derived.Test.YtdhlpighdlnohaaGreatEvD
import Derived.Test.YtdhlpighdlnohaaGreatImmP
set_option linter.unusedSimpArgs false
set_option linter.unusedVariables false
set_option maxHeartbeats 8000000
set_option maxRecDepth 10000
set_option linter.unusedSimpArgs false
set_option linter.unusedVariables false
namespace Go.Proofs.YtdhlpighdlnohaaGreat
open Go Go.Mid Go.RowKit Go.Bits
attribute [local irreducible] mid
section
variable {h:Hp} {K:Value→Hp→Prop}
theorem shasSum_x (w:Nat) (hw:w<2 ^ 64) (hk:K (.bool (bitB w 18)) h):X Tryz.prog 186 #[ux w,.string (bs [115,117,109])] h K:=by
 refine fnv (args:=_) mixed [] [] [] Tryz.func186 rfl (by kernel_rfl) (cw_ ?_)
 iterate 6 (refine seq_false (by decide) ?_;conv=>whnf)
 refine seq_true (by decide) (cw_ ?_)
 refine sbit_x w 18 hw (by decide) ?_
 exact hk
theorem shasMxr_x (w:Nat) (hw:w<2 ^ 64) (hk:K (.bool (bitB w 19)) h):X Tryz.prog 186 #[ux w,.string (bs [109,120,114])] h K:=by
 refine fnv (args:=_) mixed [] [] [] Tryz.func186 rfl (by kernel_rfl) (cw_ ?_)
 iterate 7 (refine seq_false (by decide) ?_;conv=>whnf)
 refine seq_true (by decide) (cw_ ?_)
 refine sbit_x w 19 hw (by decide) ?_
 exact hk
theorem shasTvm_x (w:Nat) (hw:w<2 ^ 64) (hk:K (.bool (bitB w 20)) h):X Tryz.prog 186 #[ux w,.string (bs [116,118,109])] h K:=by
 refine fnv (args:=_) mixed [] [] [] Tryz.func186 rfl (by kernel_rfl) (cw_ ?_)
 iterate 8 (refine seq_false (by decide) ?_;conv=>whnf)
 refine seq_true (by decide) (cw_ ?_)
 refine sbit_x w 20 hw (by decide) ?_
 exact hk
theorem shasTw_x (w:Nat) (hw:w<2 ^ 64) (hk:K (.bool (bitB w 21)) h):X Tryz.prog 186 #[ux w,.string (bs [116,119])] h K:=by
 refine fnv (args:=_) mixed [] [] [] Tryz.func186 rfl (by kernel_rfl) (cw_ ?_)
 iterate 9 (refine seq_false (by decide) ?_;conv=>whnf)
 refine seq_true (by decide) (cw_ ?_)
 refine sbit_x w 21 hw (by decide) ?_
 exact hk
theorem shasTsr_x (w:Nat) (hw:w<2 ^ 64) (hk:K (.bool (bitB w 22)) h):X Tryz.prog 186 #[ux w,.string (bs [116,115,114])] h K:=by
 refine fnv (args:=_) mixed [] [] [] Tryz.func186 rfl (by kernel_rfl) (cw_ ?_)
 iterate 10 (refine seq_false (by decide) ?_;conv=>whnf)
 refine seq_true (by decide) (cw_ ?_)
 refine sbit_x w 22 hw (by decide) ?_
 exact hk
theorem class8 (n:Int):(classN n=8)=(89≤n∧n≤94):=by
 unfold classN
 rw [eq_iff_iff]
 repeat' split
 all_goals omega
theorem fwrites_x (op rs1:Int) (hk:K (.bool (writesB op rs1)) h):X Tryz.prog 257 #[.int .i64 op,.int .i64 rs1] h K:=by
 have hfin:∀ b,b=writesB op rs1→K (.bool b) h:=fun b e=>e ▸ hk
 unfold writesB csrOpB at hfin
 simp only [← class8] at hfin
 clear hk
 refine fnv (args:=_) mixed [] [] [] Tryz.func257 rfl (by kernel_rfl) (cw_ ?_)
 by_cases q1:op=89∨op=92
 ·have hk2:=hfin true (by simp [q1])
  rcases q1 with rfl | rfl
  ·conv=>whnf
   exact hk2
  ·conv=>whnf
   exact hk2
 ·refine bf_ ?_
  refine bf_ ?_
  refine class_x op ?_
  generalize classN op=c at hfin ⊢
  refine br_ (fun q2=>?_) fun q2=>?_
  ·conv=>whnf
   exact hfin _ (by rw [Bool.eq_iff_iff];simp [q1,q2])
  ·conv=>whnf
   exact hfin _ (by rw [Bool.eq_iff_iff];simp [q1,q2])
theorem aggUi:isAggT Tryz.prog 161 = some false:=by kernel_rfl
theorem sizUi:sizeT Tryz.prog 161 = some 1:=by kernel_rfl
theorem may1_x {b o c d:Nat} {el:TypeId} {A B:List Value} {f:Csf} (p:Pa h b o el A f.cs B) (ok:f.ok) (hc:h c=some (rowO 170 [.pointer (some ⟨b,o,none⟩)])) (k:Nat) (hk9:k≤63) (hd:h d=some (rowO 161 [.int .u64 k])) (n:Int) (i:Nat) (hi:idxN n=some i) (hk:K (.bool (bitB (f.at n) k)) h):X Tryz.prog 362 #[.int .i64 n,.pointer (some ⟨c,0,none⟩),.pointer (some ⟨d,0,none⟩)] h K:=by
 have ha:=ok.at_lt n
 refine fnv (args:=_) mixed [] [] [10] Tryz.func362 rfl (by kernel_rfl) (cw_ ?_)
 refine ⟨fun z=>h.le z,Hp.le_refl _,cw_ ?_⟩
 refine ⟨_,loadC0 aggFp hc rfl,cw_ ?_⟩
 refine fword_x b o n ?_
 unfold fvP
 rw [hi]
 refine ⟨Hp.le_refl _,cw_ ?_⟩
 refine ⟨_,p.ldW ok hi,cw_ ?_⟩
 refine ⟨_,fun _ e=>loadC0 aggUi (e _ _ hd) rfl,cw_ ?_⟩
 generalize f.at n=w at ha hk ⊢
 have h1:w / 2 ^ k<2 ^ 64:=Nat.lt_of_le_of_lt (Nat.div_le_self _ _) ha
 refine val_by (shr64 w k (by omega)) (cw_ ?_)
 refine val_by ((and64 h1 (show 1<2 ^ 64 by decide)).trans (congrArg (fun x:Nat=>(x:Int)) (Nat.and_one_is_mod _))) (cw_ ?_)
 exact kq hk (bI (by rw [← bit_is,Bool.eq_iff_iff];simp))
theorem fmay_x {b o:Nat} {el:TypeId} {A B:List Value} {f:Csf} (p:Pa h b o el A f.cs B) (ok:f.ok) (n priv:Int) (wr:Bool) (hk:K (.bool (f.may n priv wr)) h):X Tryz.prog 292 #[.pointer (some ⟨b,o,none⟩),.int .i64 n,.int .i64 priv,.bool wr] h K:=by
 refine X.forget ?_
 have hfin:∀ v h',v=f.may n priv wr→h.le h'→∃ g:Hp,g.le h'∧K (.bool v) g:=fun v h' e hle=>⟨h,hle,e ▸ hk⟩
 clear hk
 unfold Csf.may at hfin
 refine fnv (args:=_) mixed [] [] [] Tryz.func292 rfl (by kernel_rfl) (cw_ ?_)
 refine new_intro (o:=rowO 170 [.pointer (some ⟨b,o,none⟩)]) (fun c h1 n_c le_c at_c ot_c=>cw_ ?_)
 have p1:=p.le le_c
 refine ⟨_,loadC0 aggFp at_c rfl,cw_ ?_⟩
 refine csrmay_x n priv wr ?_
 generalize csrMayB n priv wr=cm at hfin ⊢
 cases cm with
 | false =>
  conv=>whnf
  exact hfin _ h1 rfl le_c
 | true =>
  simp only [Bool.true_and] at hfin
  conv=>whnf
  refine br_ (fun q1=>?_) fun q1=>?_
  ·rw [if_pos q1] at hfin
   conv=>whnf
   refine br_ (fun q2=>?_) fun q2=>?_
   ·conv=>whnf
    exact hfin _ h1 (by rw [decide_eq_false (by simpa using q2)];rfl) le_c
   ·conv=>whnf
    refine ⟨_,loadC0 aggFp at_c rfl,cw_ ?_⟩
    refine fword_x b o 768 (cw_ ?_)
    refine ⟨_,p1.ldW ok (n:=768) rfl,cw_ ?_⟩
    refine shasTvm_x _ (ok.at_lt _) ?_
    generalize bitB (f.at 768) 20=d at hfin ⊢
    conv=>whnf
    exact hfin _ h1 (by rw [decide_eq_true (by simpa using q2)];rfl) le_c
  ·rw [if_neg q1] at hfin
   have h3:∀ (k:Nat),k≤63→∀ (d:Nat) (h2:Hp),h1.le h2→h2 d=some (rowO 161 [.int .u64 k])→∀ (m:Int) (i:Nat) (K':Value→Hp→Prop),idxN m=some i→K' (.bool (bitB (f.at m) k)) h2→X Tryz.prog 362 #[.int .i64 m,.pointer (some ⟨c,0,none⟩),.pointer (some ⟨d,0,none⟩)] h2 K':=fun k hk9 d h2 hle hd m i K' hi hk'=>may1_x (p1.le hle) ok (hle _ _ at_c) k hk9 hd m i hi hk'
   by_cases q3:n=3072∨n=3073∨n=3074
   ·rw [if_pos q3] at hfin
    have e3:∃ k:Nat,n=3072+k∧k≤2:=⟨(n - 3072).toNat,by omega,by omega⟩
    rcases q3 with rfl | rfl | rfl
    ·conv=>whnf
     refine ov_eq (y:=((0:Nat):Int)) (by decide) (by decide) (cw_ ?_)
     refine ov_by (w64 (a:=0) (by decide)) (cw_ ?_)
     refine new_intro (o:=_) (fun d h2 n_d le_d at_d ot_d=>cw_ ?_)
     refine wr_intro (by exact storeC0 sizUi at_d (Nat.zero_lt_succ 0) rfl rfl) (fun h4 at_h4 ot_h4=>cw_ ?_)
     have l4:h1.le h4:=Hp.le_st n_d le_d ot_h4
     have l04:=Hp.le_trans le_c l4
     rw [show ((3072:Int) - 3072).toNat=0 by decide] at hfin
     refine br_ (fun q4=>?_) fun q4=>?_
     ·conv=>whnf
      exact hfin _ h4 (by rw [decide_eq_true q4];rfl) l04
     ·conv=>whnf
      refine h3 0 (by decide) d h4 l4 at_h4 774 12 _ rfl ?_
      generalize bitB (f.at 774) 0=d1 at hfin ⊢
      cases d1 with
      | false =>
       have hk2:=hfin false h4 (by rw [decide_eq_false q4];rfl) l04
       conv=>whnf
       exact hk2
      | true =>
       conv=>whnf
       refine br_ (fun q5=>?_) fun q5=>?_
       ·conv=>whnf
        exact hfin _ h4 (by rw [decide_eq_false q4,decide_eq_false (by simpa using q5)];rfl) l04
       ·conv=>whnf
        refine h3 0 (by decide) d h4 l4 at_h4 262 1 _ rfl ?_
        generalize bitB (f.at 262) 0=d2 at hfin ⊢
        conv=>whnf
        exact hfin _ h4 (by rw [decide_eq_false q4,decide_eq_true (by simpa using q5)];rfl) l04
    ·conv=>whnf
     refine ov_eq (y:=((1:Nat):Int)) (by decide) (by decide) (cw_ ?_)
     refine ov_by (w64 (a:=1) (by decide)) (cw_ ?_)
     refine new_intro (o:=_) (fun d h2 n_d le_d at_d ot_d=>cw_ ?_)
     refine wr_intro (by exact storeC0 sizUi at_d (Nat.zero_lt_succ 0) rfl rfl) (fun h4 at_h4 ot_h4=>cw_ ?_)
     have l4:h1.le h4:=Hp.le_st n_d le_d ot_h4
     have l04:=Hp.le_trans le_c l4
     rw [show ((3073:Int) - 3072).toNat=1 by decide] at hfin
     refine br_ (fun q4=>?_) fun q4=>?_
     ·conv=>whnf
      exact hfin _ h4 (by rw [decide_eq_true q4];rfl) l04
     ·conv=>whnf
      refine h3 1 (by decide) d h4 l4 at_h4 774 12 _ rfl ?_
      generalize bitB (f.at 774) 1=d1 at hfin ⊢
      cases d1 with
      | false =>
       have hk2:=hfin false h4 (by rw [decide_eq_false q4];rfl) l04
       conv=>whnf
       exact hk2
      | true =>
       conv=>whnf
       refine br_ (fun q5=>?_) fun q5=>?_
       ·conv=>whnf
        exact hfin _ h4 (by rw [decide_eq_false q4,decide_eq_false (by simpa using q5)];rfl) l04
       ·conv=>whnf
        refine h3 1 (by decide) d h4 l4 at_h4 262 1 _ rfl ?_
        generalize bitB (f.at 262) 1=d2 at hfin ⊢
        conv=>whnf
        exact hfin _ h4 (by rw [decide_eq_false q4,decide_eq_true (by simpa using q5)];rfl) l04
    ·conv=>whnf
     refine ov_eq (y:=((2:Nat):Int)) (by decide) (by decide) (cw_ ?_)
     refine ov_by (w64 (a:=2) (by decide)) (cw_ ?_)
     refine new_intro (o:=_) (fun d h2 n_d le_d at_d ot_d=>cw_ ?_)
     refine wr_intro (by exact storeC0 sizUi at_d (Nat.zero_lt_succ 0) rfl rfl) (fun h4 at_h4 ot_h4=>cw_ ?_)
     have l4:h1.le h4:=Hp.le_st n_d le_d ot_h4
     have l04:=Hp.le_trans le_c l4
     rw [show ((3074:Int) - 3072).toNat=2 by decide] at hfin
     refine br_ (fun q4=>?_) fun q4=>?_
     ·conv=>whnf
      exact hfin _ h4 (by rw [decide_eq_true q4];rfl) l04
     ·conv=>whnf
      refine h3 2 (by decide) d h4 l4 at_h4 774 12 _ rfl ?_
      generalize bitB (f.at 774) 2=d1 at hfin ⊢
      cases d1 with
      | false =>
       have hk2:=hfin false h4 (by rw [decide_eq_false q4];rfl) l04
       conv=>whnf
       exact hk2
      | true =>
       conv=>whnf
       refine br_ (fun q5=>?_) fun q5=>?_
       ·conv=>whnf
        exact hfin _ h4 (by rw [decide_eq_false q4,decide_eq_false (by simpa using q5)];rfl) l04
       ·conv=>whnf
        refine h3 2 (by decide) d h4 l4 at_h4 262 1 _ rfl ?_
        generalize bitB (f.at 262) 2=d2 at hfin ⊢
        conv=>whnf
        exact hfin _ h4 (by rw [decide_eq_false q4,decide_eq_true (by simpa using q5)];rfl) l04
   ·have hk2:=fun h'=>hfin true h' (by rw [if_neg q3])
    refine bf_ ?_
    refine bf_ ?_
    refine bf_ ?_
    exact hk2 h1 le_c
end
end Go.Proofs.YtdhlpighdlnohaaGreat
namespace Go.Proofs.YtdhlpighdlnohaaGreat
open Go Go.Mid Go.RowKit Go.Bits
abbrev rfXCsH0:Go.Mid.RF:=[(5,5),(14,5),(20,5),(24,5),(26,5),(32,5),(35,5),(50,5)]
attribute [local irreducible] mid
def Ins.cs (x:Ins):List Value:=[.int .i64 x.op,.int .i64 x.rd,.int .i64 x.rs1,.int .i64 x.rs2,.int .i64 x.imm,.int .i64 x.csr,.bool x.aq,.bool x.rl]
theorem get_lt {f:Csf} (ok:f.ok) (n:Int) {lines:Nat} (hl:lines<2 ^ 64):f.get n lines<2 ^ 64:=by
 have ha:=ok.at_lt
 have told:toldN f lines<2 ^ 64:=Nat.or_lt_two_pow (ha _) (and_lt hl)
 unfold Csf.get viewN
 split
 ·exact and_lt (ha _)
 split
 ·exact and_lt (ha _)
 split
 ·exact and_lt told
 split
 ·exact told
 split
 ·decide
 split
 ·exact ha _
 split
 ·exact ha _
 split
 ·omega
 ·exact ha _
theorem doV_lt {f:Csf} (ok:f.ok) (op n:Int) {v:Nat} (hv:v<2 ^ 64):f.doV op n v<2 ^ 64:=by
 unfold Csf.doV
 split
 ·exact Nat.or_lt_two_pow hv (get_lt ok n (by decide))
 ·split
  ·exact andN_lt _ _
  ·exact hv
section
variable {h:Hp} {K:Value→Hp→Prop}
theorem Pa.of {h:Hp} {b o:Nat} {el:TypeId} {A cs B:List Value} (p:Pa h b o el A cs B) {h':Hp} (e:h' b=h b):Pa h' b o el A cs B:=⟨e.trans p.row,p.len⟩
theorem fdo_x {b o:Nat} {el:TypeId} {A B:List Value} {f:Csf} (p:Pa h b o el A f.cs B) (ok:f.ok) (x:Ins) (v lines:Nat) (hv:v<2 ^ 64) (hl:lines<2 ^ 64) (hk:∀ h',Pa h' b o el A (f.doF x.op x.csr x.rs1 v).cs B→(∀ d,d≠b→h' d=h d)→K (ux (f.doR x.op x.csr lines)) h'):X Tryz.prog 144 #[.pointer (some ⟨b,o,none⟩),.agg x.cs.toArray,ux v,ux lines] h K:=by
 obtain ⟨op,rd,rs1,rs2,imm,cr,aq,rl⟩:=x
 unfold Csf.doF Csf.doR at hk
 simp only at hk
 have same:Pa h b o el A f.cs B:=p
 refine fnv (args:=_) mixed rfXCsH0 [] [] Tryz.func144 rfl (by kernel_rfl) (cw_ ?_)
 refine class_x op ?_
 have hc8:decide (classN op=8)=csrOpB op:=by unfold csrOpB;rw [decide_eq_decide,class8]
 generalize classN op=c at hc8 ⊢
 refine br_ (fun q1=>?_) fun q1=>?_
 ·have hcs:csrOpB op=false:=by rw [← hc8];exact decide_eq_false (by simpa using q1)
  rw [hcs] at hk
  conv=>whnf
  exact hk h p (fun _ _=>rfl)
 have hcs:csrOpB op=true:=by rw [← hc8];exact decide_eq_true (by simpa using q1)
 rw [hcs,if_pos rfl] at hk
 clear hc8
 conv=>whnf
 refine fget_x p ok cr lines hl ?_
 generalize f.get cr lines=old at hk ⊢
 conv=>whnf
 refine fwrites_x op rs1 ?_
 generalize writesB op rs1=w at hk ⊢
 cases w with
 | false =>
  conv=>whnf
  exact hk h p (fun _ _=>rfl)
 | true =>
  simp only [Bool.and_self,if_true] at hk
  conv=>whnf
  refine fget_x p ok cr 0 (by decide) ?_
  have hb:=get_lt ok cr (show 0<2 ^ 64 by decide)
  have hd:=doV_lt ok op cr hv
  unfold Csf.doV at hk hd
  generalize f.get cr 0=base at hk hb hd ⊢
  by_cases q2:op=90∨op=93
  ·rw [if_pos q2] at hk hd
   rcases q2 with rfl | rfl
   all_goals
    conv=>whnf
    refine val_by (or64 hv hb) (cw_ ?_)
    refine fset_x p ok cr _ hd fun h1 p1 o1=>?_
    exact hk h1 p1 o1
  ·rw [if_neg q2] at hk hd
   by_cases q3:op=91∨op=94
   ·rw [if_pos q3] at hk hd
    rcases q3 with rfl | rfl
    all_goals
     conv=>whnf
     refine val_by (andNot64 hb hv) (cw_ ?_)
     refine fset_x p ok cr _ hd fun h1 p1 o1=>?_
     exact hk h1 p1 o1
   ·rw [if_neg q3] at hk hd
    refine bf_ ?_
    refine bf_ ?_
    refine bf_ ?_
    refine bf_ ?_
    refine fset_x p ok cr _ hd fun h1 p1 o1=>?_
    exact hk h1 p1 o1
theorem turn_ok {f:Csf} (ok:f.ok) (r:Bool):(f.turn r).ok:=by
 have m:∀ n:Nat,n % 18446744073709551616<2 ^ 64:=fun n=>Nat.mod_lt _ (by decide)
 have h1:(if f.cl then f else f.put 2816 ((f.at 2816+1) % 18446744073709551616)).ok:=by
  split
  ·exact ok
  ·exact ok.put _ (m _)
 unfold Csf.turn
 simp only
 generalize (if f.cl then f else f.put 2816 ((f.at 2816+1) % 18446744073709551616))=f1 at h1 ⊢
 have h2:(if r && !f.il then f1.put 2818 ((f1.at 2818+1) % 18446744073709551616) else f1).ok:=by
  split
  ·exact h1.put _ (m _)
  ·exact h1
 exact ⟨h2.len,h2.lt⟩
theorem inc64 (n:Nat):IntKind.u64.wrap ((n:Int)+1)=(((n+1) % 18446744073709551616:Nat):Int):=by rw [toU64];omega
theorem put_il {f:Csf} (n:Int) (v:Nat):(f.put n v).il=f.il:=by
 unfold Csf.put
 split <;> rfl
theorem fturn_x {b o:Nat} {el:TypeId} {A B:List Value} {f:Csf} (p:Pa h b o el A f.cs B) (ok:f.ok) (r:Bool) (hk:∀ h',Pa h' b o el A (f.turn r).cs B→(∀ d,d≠b→h' d=h d)→K (.tuple #[]) h'):X Tryz.prog 145 #[.pointer (some ⟨b,o,none⟩),.bool r] h K:=by
 unfold Csf.turn at hk
 simp only at hk
 have wp:∀ (m:Int) (i:Nat) (K':Value→Hp→Prop) (h':Hp),idxN m=some i→K' (.pointer (some ⟨b,o+1+i,none⟩)) h'→X Tryz.prog 77 #[.pointer (some ⟨b,o,none⟩),.int .i64 m] h' K':=fun m i K' h' hi hk'=>fword_x b o m (by unfold fvP;rw [hi];exact hk')
 have m64:∀ n:Nat,n % 18446744073709551616<2 ^ 64:=fun n=>Nat.mod_lt _ (by decide)
 refine fnv (args:=_) mixed [] [] [] Tryz.func145 rfl (by kernel_rfl) (cw_ ?_)
 refine ⟨_,p.ld 23 aggB6 (cs_get ok.len).1,cw_ ?_⟩
 generalize hcl:f.cl=cl at hk ⊢
 cases cl with
 | true =>
  simp only [if_true] at hk
  have p1:=p
  have ok1:=ok
  have o1:∀ d,d≠b→h d=h d:=fun _ _=>rfl
  have hil:f.il=f.il:=rfl
  obtain ⟨f1,hf1⟩:∃ f1,f1=f:=⟨_,rfl⟩
  conv=>whnf
  cases r with
  | false =>
   simp only [Bool.false_and,Bool.false_eq_true,if_false] at hk
   obtain ⟨f2,hf2⟩:∃ f2,f2=f:=⟨_,rfl⟩
   have p2:=p1
   have ok2:=ok1
   have o2:=o1
   rw [← hf2] at p2 ok2 hk
   conv=>whnf
   refine wr_intro (by exact p2.st 23 sizB6 (by rw [cs_len ok2.len];decide) rfl rfl) (fun h3 at_h3 ot_h3=>cw_ ?_)
   have p3:Pa h3 b o el A ({ f2 with cl:=false }).cs B:=⟨by rw [← cs_cl ok2.len];exact at_h3,p.len⟩
   refine wr_intro (by exact p3.st 24 sizB6 (by rw [cs_len (f:={ f2 with cl:=false }) ok2.len];decide) rfl rfl) (fun h4 at_h4 ot_h4=>cw_ ?_)
   exact hk h4 ⟨by rw [← cs_il (f:={ f2 with cl:=false }) ok2.len];exact at_h4,p.len⟩ fun d hd=>by rw [ot_h4 d hd,ot_h3 d hd,o2 d hd]
  | true =>
   simp only [Bool.true_and] at hk
   conv=>whnf
   refine ⟨_,p1.ld 24 aggB6 (cs_get ok1.len).2,cw_ ?_⟩
   generalize f.il=il at hk ⊢
   cases il with
   | true =>
    simp only [Bool.not_true,Bool.false_eq_true,if_false] at hk
    obtain ⟨f2,hf2⟩:∃ f2,f2=f:=⟨_,rfl⟩
    have p2:=p1
    have ok2:=ok1
    have o2:=o1
    rw [← hf2] at p2 ok2 hk
    conv=>whnf
    refine wr_intro (by exact p2.st 23 sizB6 (by rw [cs_len ok2.len];decide) rfl rfl) (fun h3 at_h3 ot_h3=>cw_ ?_)
    have p3:Pa h3 b o el A ({ f2 with cl:=false }).cs B:=⟨by rw [← cs_cl ok2.len];exact at_h3,p.len⟩
    refine wr_intro (by exact p3.st 24 sizB6 (by rw [cs_len (f:={ f2 with cl:=false }) ok2.len];decide) rfl rfl) (fun h4 at_h4 ot_h4=>cw_ ?_)
    exact hk h4 ⟨by rw [← cs_il (f:={ f2 with cl:=false }) ok2.len];exact at_h4,p.len⟩ fun d hd=>by rw [ot_h4 d hd,ot_h3 d hd,o2 d hd]
   | false =>
    simp only [Bool.not_false,if_true] at hk
    conv=>whnf
    refine wp 2818 21 _ _ rfl (cw_ ?_)
    refine ⟨_,p1.ldW ok1 (n:=2818) rfl,cw_ ?_⟩
    refine ov_by (inc64 (f.at 2818)) (cw_ ?_)
    refine wr_intro (by exact p1.stW ok1 (n:=2818) rfl _) (fun h2 at_h2 ot_h2=>cw_ ?_)
    have p2:Pa h2 b o el A (f.put 2818 ((f.at 2818+1) % 18446744073709551616)).cs B:=⟨at_h2,p.len⟩
    have ok2:=ok1.put 2818 (m64 (f.at 2818+1))
    have o2:∀ d,d≠b→h2 d=h d:=ot_h2
    clear at_h2 ot_h2
    generalize f.put 2818 ((f.at 2818+1) % 18446744073709551616)=f2 at p2 ok2 hk
    refine wr_intro (by exact p2.st 23 sizB6 (by rw [cs_len ok2.len];decide) rfl rfl) (fun h3 at_h3 ot_h3=>cw_ ?_)
    have p3:Pa h3 b o el A ({ f2 with cl:=false }).cs B:=⟨by rw [← cs_cl ok2.len];exact at_h3,p.len⟩
    refine wr_intro (by exact p3.st 24 sizB6 (by rw [cs_len (f:={ f2 with cl:=false }) ok2.len];decide) rfl rfl) (fun h4 at_h4 ot_h4=>cw_ ?_)
    exact hk h4 ⟨by rw [← cs_il (f:={ f2 with cl:=false }) ok2.len];exact at_h4,p.len⟩ fun d hd=>by rw [ot_h4 d hd,ot_h3 d hd,o2 d hd]
 | false =>
  simp only [Bool.false_eq_true,if_false] at hk
  conv=>whnf
  refine wp 2816 20 _ _ rfl (cw_ ?_)
  refine ⟨_,p.ldW ok (n:=2816) rfl,cw_ ?_⟩
  refine ov_by (inc64 (f.at 2816)) (cw_ ?_)
  refine wr_intro (by exact p.stW ok (n:=2816) rfl _) (fun h1 at_h1 ot_h1=>cw_ ?_)
  have p1:Pa h1 b o el A (f.put 2816 ((f.at 2816+1) % 18446744073709551616)).cs B:=⟨at_h1,p.len⟩
  have ok1:=ok.put 2816 (m64 (f.at 2816+1))
  have o1:∀ d,d≠b→h1 d=h d:=ot_h1
  have hil:=put_il (f:=f) 2816 ((f.at 2816+1) % 18446744073709551616)
  clear at_h1 ot_h1
  generalize f.put 2816 ((f.at 2816+1) % 18446744073709551616)=f1 at p1 ok1 hil hk
  cases r with
  | false =>
   simp only [Bool.false_and,Bool.false_eq_true,if_false] at hk
   obtain ⟨f2,hf2⟩:∃ f2,f2=f1:=⟨_,rfl⟩
   rw [← hf2] at p1 ok1 hk
   have p2:=p1
   have ok2:=ok1
   have o2:=o1
   conv=>whnf
   refine wr_intro (by exact p2.st 23 sizB6 (by rw [cs_len ok2.len];decide) rfl rfl) (fun h3 at_h3 ot_h3=>cw_ ?_)
   have p3:Pa h3 b o el A ({ f2 with cl:=false }).cs B:=⟨by rw [← cs_cl ok2.len];exact at_h3,p.len⟩
   refine wr_intro (by exact p3.st 24 sizB6 (by rw [cs_len (f:={ f2 with cl:=false }) ok2.len];decide) rfl rfl) (fun h4 at_h4 ot_h4=>cw_ ?_)
   exact hk h4 ⟨by rw [← cs_il (f:={ f2 with cl:=false }) ok2.len];exact at_h4,p.len⟩ fun d hd=>by rw [ot_h4 d hd,ot_h3 d hd,o2 d hd]
  | true =>
   simp only [Bool.true_and] at hk
   have hg:=(cs_get ok1.len).2
   rw [hil] at hg
   conv=>whnf
   refine ⟨_,p1.ld 24 aggB6 hg,cw_ ?_⟩
   generalize f.il=il at hk ⊢
   cases il with
   | true =>
    simp only [Bool.not_true,Bool.false_eq_true,if_false] at hk
    obtain ⟨f2,hf2⟩:∃ f2,f2=f1:=⟨_,rfl⟩
    rw [← hf2] at p1 ok1 hk
    have p2:=p1
    have ok2:=ok1
    have o2:=o1
    conv=>whnf
    refine wr_intro (by exact p2.st 23 sizB6 (by rw [cs_len ok2.len];decide) rfl rfl) (fun h3 at_h3 ot_h3=>cw_ ?_)
    have p3:Pa h3 b o el A ({ f2 with cl:=false }).cs B:=⟨by rw [← cs_cl ok2.len];exact at_h3,p.len⟩
    refine wr_intro (by exact p3.st 24 sizB6 (by rw [cs_len (f:={ f2 with cl:=false }) ok2.len];decide) rfl rfl) (fun h4 at_h4 ot_h4=>cw_ ?_)
    exact hk h4 ⟨by rw [← cs_il (f:={ f2 with cl:=false }) ok2.len];exact at_h4,p.len⟩ fun d hd=>by rw [ot_h4 d hd,ot_h3 d hd,o2 d hd]
   | false =>
    simp only [Bool.not_false,if_true] at hk
    conv=>whnf
    refine wp 2818 21 _ _ rfl (cw_ ?_)
    refine ⟨_,p1.ldW ok1 (n:=2818) rfl,cw_ ?_⟩
    refine ov_by (inc64 (f1.at 2818)) (cw_ ?_)
    refine wr_intro (by exact p1.stW ok1 (n:=2818) rfl _) (fun h2 at_h2 ot_h2=>cw_ ?_)
    have p2:Pa h2 b o el A (f1.put 2818 ((f1.at 2818+1) % 18446744073709551616)).cs B:=⟨at_h2,p.len⟩
    have ok2:=ok1.put 2818 (m64 (f1.at 2818+1))
    have o2:∀ d,d≠b→h2 d=h d:=fun d hd=>(ot_h2 d hd).trans (o1 d hd)
    clear at_h2 ot_h2
    generalize f1.put 2818 ((f1.at 2818+1) % 18446744073709551616)=f2 at p2 ok2 hk
    refine wr_intro (by exact p2.st 23 sizB6 (by rw [cs_len ok2.len];decide) rfl rfl) (fun h3 at_h3 ot_h3=>cw_ ?_)
    have p3:Pa h3 b o el A ({ f2 with cl:=false }).cs B:=⟨by rw [← cs_cl ok2.len];exact at_h3,p.len⟩
    refine wr_intro (by exact p3.st 24 sizB6 (by rw [cs_len (f:={ f2 with cl:=false }) ok2.len];decide) rfl rfl) (fun h4 at_h4 ot_h4=>cw_ ?_)
    exact hk h4 ⟨by rw [← cs_il (f:={ f2 with cl:=false }) ok2.len];exact at_h4,p.len⟩ fun d hd=>by rw [ot_h4 d hd,ot_h3 d hd,o2 d hd]
abbrev filT:TypeId := 71
theorem aggFil:isAggT Tryz.prog filT=some true:=by kernel_rfl
theorem sizFil:sizeT Tryz.prog filT=some 25:=by kernel_rfl
theorem new_ok (id:Int):(Csf.new id).ok:=⟨by show ((List.replicate 22 0).set 7 42949672960).length=22;rfl,fun x hx=>by
 have:∀ x ∈ (List.replicate 22 0).set 7 42949672960,x<2 ^ 64:=by decide +kernel
 exact this x hx⟩
theorem fnew_x (id:Int) (hk:K (.agg (Csf.new id).cs.toArray) h):X Tryz.prog 35 #[.int .i64 id] h K:=by
 refine X.forget ?_
 refine fnv (args:=_) mixed [] [] [] Tryz.func35 rfl (by kernel_rfl) (cw_ ?_)
 refine new_intro (o:=_) (fun y h1 n_y le_y at_y ot_y=>cw_ ?_)
 refine big_by (v:=.agg (Csf.mk id (List.replicate 22 0) false false).cs.toArray) (by kernel_rfl) (cw_ ?_)
 refine new_intro (o:=_) (fun z h2 n_z le_z at_z ot_z=>cw_ ?_)
 refine wr_intro (by exact storeA0 (z:=.agg (Csf.mk id (List.replicate 22 0) false false).cs.toArray) sizFil at_z rfl rfl rfl) (fun h3 at_h3 ot_h3=>cw_ ?_)
 refine fword_x z 0 768 ?_
 have oy:Csf.ok (Csf.mk id (List.replicate 22 0) false false):=⟨rfl,fun x hx=>by rw [List.eq_of_mem_replicate hx];decide⟩
 have pz:Pa h3 z 0 filT [] (Csf.mk id (List.replicate 22 0) false false).cs []:=⟨by rw [List.append_nil];exact at_h3,rfl⟩
 conv=>whnf
 refine wr_intro (by exact pz.stW oy (n:=768) rfl 42949672960) (fun h4 at_h4 ot_h4=>cw_ ?_)
 have at_h4:h4 z=some (rowO filT (Csf.new id).cs):=at_h4.trans (by rw [List.nil_append,List.append_nil];rfl)
 refine ⟨_,loadA0 aggFil sizFil at_h4 rfl,cw_ ?_⟩
 have yz:y≠z:=Hp.ne n_z at_y
 have y4:=(ot_h4 y yz).trans ((ot_h3 y yz).trans (le_z _ _ at_y))
 refine wr_intro (by exact storeA0 (z:=.agg (Csf.new id).cs.toArray) sizFil y4 rfl rfl rfl) (fun h5 at_h5 ot_h5=>cw_ ?_)
 refine ⟨_,loadA0 aggFil sizFil at_h5 rfl,cw_ ?_⟩
 exact ⟨h,fun d q e=>by
  have e1:=le_y _ _ e
  have d1:=Hp.ne n_y e
  have d2:=Hp.ne n_z e1
  rw [ot_h5 d d1,ot_h4 d d2,ot_h3 d d2]
  exact le_z _ _ e1,hk⟩
end
end Go.Proofs.YtdhlpighdlnohaaGreat
namespace Go.Proofs.YtdhlpighdlnohaaGreat
open Go Go.Mid Go.RowKit Go.Bits
attribute [local irreducible] mid
abbrev Cau.cs (c:Cau):List Value:=[.bool c.i,.int .i64 c.code]
section
variable {h:Hp} {K:Value→Hp→Prop}
theorem cword_x (c:Cau) (hk:K (ux c.word) h):X Tryz.prog 264 #[.agg c.cs.toArray] h K:=by
 obtain ⟨ci,code⟩:=c
 have hfin:∀ n,n=Cau.word ⟨ci,code⟩→K (ux n) h:=fun n e=>e ▸ hk
 unfold Cau.word at hfin
 simp only at hfin
 clear hk
 refine fnv (args:=_) mixed [(1,1),(4,1),(8,1),(12,1),(15,1)] [] [] Tryz.func264 rfl (by kernel_rfl) (cw_ ?_)
 by_cases q:0≤code∧code≤63
 ·have hw:(if 0≤code∧code≤63 then code.toNat else 0)=code.toNat:=if_pos q
  have hw2:code.toNat<2 ^ 64:=by omega
  refine bt_ ?_
  refine bt_ ?_
  refine ov_by (show IntKind.u64.wrap code=((code.toNat:Nat):Int) by rw [toU64];omega) ?_
  cases ci with
  | false =>
   conv=>whnf
   exact hfin _ (by rw [hw];simp)
  | true =>
   conv=>whnf
   refine val_by (or64 hw2 (show 9223372036854775808<2 ^ 64 by decide)) (cw_ ?_)
   exact hfin _ (by rw [hw];simp)
 ·have hw:(if 0≤code∧code≤63 then code.toNat else 0)=0:=if_neg q
  have hw2:(0:Nat)<2 ^ 64:=by decide
  have two:∀ {t:Bool},t=decide (0≤code)→True:=fun _=>trivial
  refine br_ (fun q1=>?_) fun q1=>?_
  ·conv=>whnf
   refine bf_ ?_
   cases ci with
   | false =>
    conv=>whnf
    exact hfin _ (by rw [hw];simp)
   | true =>
    conv=>whnf
    refine val_by (or64 hw2 (show 9223372036854775808<2 ^ 64 by decide)) (cw_ ?_)
    exact hfin _ (by rw [hw];simp)
  ·cases ci with
   | false =>
    conv=>whnf
    exact hfin _ (by rw [hw];simp)
   | true =>
    conv=>whnf
    refine val_by (or64 hw2 (show 9223372036854775808<2 ^ 64 by decide)) (cw_ ?_)
    exact hfin _ (by rw [hw];simp)
theorem ccall_x (p:Int) (hk:K (.agg #[.bool false,.int .i64 (if p=0 then 8 else if p=1 then 9 else 11)]) h):X Tryz.prog 181 #[.int .i64 p] h K:=by
 refine fnv (args:=_) mixed [(2,2)] [] [] Tryz.func181 rfl (by kernel_rfl) (cw_ ?_)
 refine br_ (fun q1=>?_) fun q1=>?_
 ·rw [if_pos q1] at hk
  conv=>whnf
  exact hk
 rw [if_neg q1] at hk
 conv=>whnf
 refine br_ (fun q2=>?_) fun q2=>?_
 ·rw [if_pos q2] at hk
  conv=>whnf
  exact hk
 rw [if_neg q2] at hk
 conv=>whnf
 exact hk
theorem cpick_x (a x y z:Int) (ha:a=0∨a=1∨a=2) (hk:K (.agg #[.bool false,.int .i64 (if a=0 then x else if a=1 then y else z)]) h):X Tryz.prog 274 #[.int .i64 a,.agg #[.int .i64 x,.int .i64 y,.int .i64 z]] h K:=by
 rcases ha with rfl | rfl | rfl
 all_goals
  refine fnv (args:=_) mixed [(3,3),(12,3),(4,4)] [] [] Tryz.func274 rfl (by kernel_rfl) (cw_ ?_)
  exact hk
theorem calign_x (a:Int) (ha:a=0∨a=1∨a=2) (hk:K (.agg (accCode a 0 4 6).cs.toArray) h):X Tryz.prog 290 #[.int .i64 a] h K:=by
 refine fnv (args:=_) mixed [(2,2)] [] [] Tryz.func290 rfl (by kernel_rfl) (cw_ ?_)
 refine cpick_x a 0 4 6 ha (cw_ ?_)
 exact hk
theorem cfault_x (a:Int) (ha:a=0∨a=1∨a=2) (hk:K (.agg (accCode a 1 5 7).cs.toArray) h):X Tryz.prog 163 #[.int .i64 a] h K:=by
 refine fnv (args:=_) mixed [(2,2)] [] [] Tryz.func163 rfl (by kernel_rfl) (cw_ ?_)
 refine cpick_x a 1 5 7 ha (cw_ ?_)
 exact hk
theorem cpage_x (a:Int) (ha:a=0∨a=1∨a=2) (hk:K (.agg (accCode a 12 13 15).cs.toArray) h):X Tryz.prog 162 #[.int .i64 a] h K:=by
 refine fnv (args:=_) mixed [(2,2)] [] [] Tryz.func162 rfl (by kernel_rfl) (cw_ ?_)
 refine cpick_x a 12 13 15 ha (cw_ ?_)
 exact hk
theorem cto_x (c:Cau) (p:Int) (d i:Nat) (hd:d<2 ^ 64) (hi:i<2 ^ 64) (hk:K (.int .i64 (c.to p d i)) h):X Tryz.prog 262 #[.agg c.cs.toArray,.int .i64 p,ux d,ux i] h K:=by
 obtain ⟨ci,code⟩:=c
 unfold Cau.to at hk
 simp only at hk
 cases ci with
 | false =>
  simp only [Bool.false_eq_true,if_false] at hk
  refine fnv (args:=_) mixed [(4,4),(11,4),(17,4),(22,4),(28,4)] [] [] Tryz.func262 rfl (by kernel_rfl) (cw_ ?_)
  have hm:=hd
  generalize d=m at hk hm ⊢
  refine br_ (fun q1=>?_) fun q1=>?_
  ·rw [if_pos (.inl q1)] at hk
   conv=>whnf
   exact hk
  conv=>whnf
  refine br_ (fun q2=>?_) fun q2=>?_
  ·rw [if_pos (.inr (.inl q2))] at hk
   conv=>whnf
   exact hk
  conv=>whnf
  refine br_ (fun q3=>?_) fun q3=>?_
  ·rw [if_pos (.inr (.inr (.inl (by omega))))] at hk
   conv=>whnf
   exact hk
  conv=>whnf
  obtain ⟨k,rfl⟩:∃ k:Nat,code=k:=⟨code.toNat,by omega⟩
  refine ov_by (show IntKind.u64.wrap (k:Int)=(k:Int) from w64 (by omega)) (cw_ ?_)
  have hm2:m / 2 ^ k<2 ^ 64:=Nat.lt_of_le_of_lt (Nat.div_le_self _ _) hm
  refine val_by (shr64 m k (by omega)) (cw_ ?_)
  refine val_by ((and64 hm2 (show 1<2 ^ 64 by decide)).trans (congrArg (fun x:Nat=>(x:Int)) (Nat.and_one_is_mod _))) (cw_ ?_)
  rw [Int.toNat_natCast] at hk
  generalize m / 2 ^ k % 2=u at hk ⊢
  refine br_ (fun q4=>?_) fun q4=>?_
  ·rw [if_pos (.inr (.inr (.inr (by omega))))] at hk
   conv=>whnf
   exact hk
  ·rw [if_neg (by omega)] at hk
   conv=>whnf
   exact hk
 | true =>
  simp only [if_true] at hk
  refine fnv (args:=_) mixed [(4,4),(11,4),(17,4),(22,4),(28,4)] [] [] Tryz.func262 rfl (by kernel_rfl) (cw_ ?_)
  have hm:=hi
  generalize i=m at hk hm ⊢
  refine br_ (fun q1=>?_) fun q1=>?_
  ·rw [if_pos (.inl q1)] at hk
   conv=>whnf
   exact hk
  conv=>whnf
  refine br_ (fun q2=>?_) fun q2=>?_
  ·rw [if_pos (.inr (.inl q2))] at hk
   conv=>whnf
   exact hk
  conv=>whnf
  refine br_ (fun q3=>?_) fun q3=>?_
  ·rw [if_pos (.inr (.inr (.inl (by omega))))] at hk
   conv=>whnf
   exact hk
  conv=>whnf
  obtain ⟨k,rfl⟩:∃ k:Nat,code=k:=⟨code.toNat,by omega⟩
  refine ov_by (show IntKind.u64.wrap (k:Int)=(k:Int) from w64 (by omega)) (cw_ ?_)
  have hm2:m / 2 ^ k<2 ^ 64:=Nat.lt_of_le_of_lt (Nat.div_le_self _ _) hm
  refine val_by (shr64 m k (by omega)) (cw_ ?_)
  refine val_by ((and64 hm2 (show 1<2 ^ 64 by decide)).trans (congrArg (fun x:Nat=>(x:Int)) (Nat.and_one_is_mod _))) (cw_ ?_)
  rw [Int.toNat_natCast] at hk
  generalize m / 2 ^ k % 2=u at hk ⊢
  refine br_ (fun q4=>?_) fun q4=>?_
  ·rw [if_pos (.inr (.inr (.inr (by omega))))] at hk
   conv=>whnf
   exact hk
  ·rw [if_neg (by omega)] at hk
   conv=>whnf
   exact hk
def firstL:List Nat:=[11,3,7,9,1,5]
def firV:Option Cau→Value
 | some c=>.tuple #[.agg c.cs.toArray,.bool true]
 | none=>.tuple #[.agg #[.bool false,.int .i64 0],.bool false]
theorem cfirst_x (w:Nat) (hw:w<2 ^ 64) (hk:K (firV (firstC w)) h):X Tryz.prog 155 #[ux w] h K:=by
 have he:firstC w=(firstL.find? fun k=>decide (w / 2 ^ k % 2=1)).map fun k=>⟨true,(k:Nat)⟩:=rfl
 rw [he] at hk
 refine fnv (args:=_) mixed [(2,2)] [] [] Tryz.func155 rfl (by kernel_rfl) (cw_ ?_)
 refine loop_at [7] [2] (fun r vs cs h'=>cs=[some [.bool false,.int .i64 0]]∧h=h'∧∃ j:Nat,j≤6∧r=6 - j∧vs=[.v (.int .i64 j)]∧∀ (i:Nat) (y:Nat),i<j→firstL[i]? = some y→decide (w / 2 ^ y % 2=1)=false) 6 ⟨rfl,rfl,0,by omega,by omega,rfl,fun i y hi=>by omega⟩ ?_
 rintro r vs cs mm bx _ ⟨rfl,rfl,j,hj,rfl,rfl,hno⟩
 conv=>whnf
 refine br_ (fun q1=>?_) fun q1=>?_
 ·obtain ⟨y,hy⟩:∃ y,firstL[j]? = some y:=⟨_,List.getElem?_eq_getElem (by show j<6;omega)⟩
  have hy63:y≤63:=by
   have:∀ x ∈ firstL,x≤63:=by decide
   exact this y (List.mem_of_getElem? hy)
  conv=>whnf
  refine need_intro ⟨by omega,by show _<((6:Nat):Int);omega⟩ ?_
  refine part_cell (cs:=firstL.map fun n:Nat=>Value.int .i64 n) (k:=j) (v:=.int .i64 y) aggIn (by rw [Int.toNat_natCast];exact Nat.mul_one _) (by rw [List.getElem?_map,hy];rfl) ?_
  conv=>whnf
  refine ov_by (show IntKind.u64.wrap (y:Int)=(y:Int) from w64 (by omega)) (cw_ ?_)
  have hm2:w / 2 ^ y<2 ^ 64:=Nat.lt_of_le_of_lt (Nat.div_le_self _ _) hw
  refine val_by (shr64 w y (by omega)) (cw_ ?_)
  refine val_by ((and64 hm2 (show 1<2 ^ 64 by decide)).trans (congrArg (fun x:Nat=>(x:Int)) (Nat.and_one_is_mod _))) (cw_ ?_)
  refine br_ (fun q2=>?_) fun q2=>?_
  ·rw [find_first (p:=fun k=>decide (w / 2 ^ k % 2=1)) hy (decide_eq_true (by omega)) hno] at hk
   conv=>whnf
   exact hk
  ·conv=>whnf
   refine n_ ?_
   exact ⟨6 - (j+1),by omega,rfl,rfl,j+1,by omega,rfl,rfl,fun i z hi hz=>by
    by_cases e:i=j
    ·subst e;rw [hy] at hz;cases hz;exact decide_eq_false (by omega)
    ·exact hno i z (by omega) hz⟩
 ·obtain rfl:j=6:=by omega
  rw [find_never (p:=fun k=>decide (w / 2 ^ k % 2=1)) fun i y hy=>hno i y (by have:=(List.getElem?_eq_some_iff.1 hy).1;exact this) hy] at hk
  conv=>whnf
  exact hk
end
end Go.Proofs.YtdhlpighdlnohaaGreat
