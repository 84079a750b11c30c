/-
  A hart's control registers: who may; instructions; turns; new ones.
-/
import Derived.Test.YtdhlpighdlnohaaGreatBitP
import Derived.Test.YtdhlpighdlnohaaGreatLib0
import Derived.Test.YtdhlpighdlnohaaGreatCsD
set_option linter.unusedSimpArgs false
set_option linter.unusedVariables false
set_option maxHeartbeats 8000000
set_option maxRecDepth 10000
set_option linter.unusedSimpArgs false
set_option linter.unusedVariables false
namespace Go.Proofs.YtdhlpighdlnohaaGreat
open Go Go.Mid Go.RowKit
attribute [local irreducible] mid
def classN (n:Int):Int:=if 1≤n∧n≤2 then 2 else if 3≤n∧n≤4 then 3 else if 5≤n∧n≤10 then 4 else if 11≤n∧n≤17 then 5 else if 18≤n∧n≤21 then 6 else if (22≤n∧n≤49)∨(54≤n∧n≤66) then 1 else if 50≤n∧n≤51 then 9 else if 67≤n∧n≤88 then 7 else if 89≤n∧n≤94 then 8 else if (52≤n∧n≤53)∨(95≤n∧n≤98) then 10 else 0
section
variable {h:Hp} {K:Value→Hp→Prop}
theorem within_x (a f t:Int) (hk:K (.bool (decide (f≤a∧a≤t))) h):X Tryz.prog 279 #[.int .i64 a,.int .i64 f,.int .i64 t] h K:=by
 refine fnv (args:=_) mixed [] [] [] Tryz.func279 rfl (by kernel_rfl) (cw_ ?_)
 refine br_ (fun q1=>?_) fun q1=>?_
 ·conv=>whnf
  exact kq hk (bI (by rw [Bool.eq_iff_iff];simp;omega))
 ·conv=>whnf
  exact kq hk (bI (by rw [Bool.eq_iff_iff];simp;omega))
theorem class_x (n:Int) (hk:K (.int .i64 (classN n)) h):X Tryz.prog 173 #[.int .i64 n] h K:=by
 unfold classN at hk
 refine fnv (args:=_) mixed [] [] [] Tryz.func173 rfl (by kernel_rfl) (cw_ ?_)
 refine within_x n 1 2 (cw_ ?_)
 refine br_ (fun q0=>?_) fun q0=>?_
 ·rw [if_pos (by omega)] at hk
  conv=>whnf
  exact hk
 rw [if_neg (by omega)] at hk
 conv=>whnf
 refine within_x n 3 4 (cw_ ?_)
 refine br_ (fun q1=>?_) fun q1=>?_
 ·rw [if_pos (by omega)] at hk
  conv=>whnf
  exact hk
 rw [if_neg (by omega)] at hk
 conv=>whnf
 refine within_x n 5 10 (cw_ ?_)
 refine br_ (fun q2=>?_) fun q2=>?_
 ·rw [if_pos (by omega)] at hk
  conv=>whnf
  exact hk
 rw [if_neg (by omega)] at hk
 conv=>whnf
 refine within_x n 11 17 (cw_ ?_)
 refine br_ (fun q3=>?_) fun q3=>?_
 ·rw [if_pos (by omega)] at hk
  conv=>whnf
  exact hk
 rw [if_neg (by omega)] at hk
 conv=>whnf
 refine within_x n 18 21 (cw_ ?_)
 refine br_ (fun q4=>?_) fun q4=>?_
 ·rw [if_pos (by omega)] at hk
  conv=>whnf
  exact hk
 rw [if_neg (by omega)] at hk
 conv=>whnf
 refine within_x n 22 49 (cw_ ?_)
 refine br_ (fun q5=>?_) fun q5=>?_
 ·rw [if_pos (by omega)] at hk
  conv=>whnf
  refine bt_ ?_
  exact hk
 conv=>whnf
 refine within_x n 54 66 (cw_ ?_)
 refine br_ (fun r5=>?_) fun r5=>?_
 ·rw [if_pos (by omega)] at hk
  conv=>whnf
  exact hk
 rw [if_neg (by omega)] at hk
 conv=>whnf
 refine within_x n 50 51 (cw_ ?_)
 refine br_ (fun q6=>?_) fun q6=>?_
 ·rw [if_pos (by omega)] at hk
  conv=>whnf
  exact hk
 rw [if_neg (by omega)] at hk
 conv=>whnf
 refine within_x n 67 88 (cw_ ?_)
 refine br_ (fun q7=>?_) fun q7=>?_
 ·rw [if_pos (by omega)] at hk
  conv=>whnf
  exact hk
 rw [if_neg (by omega)] at hk
 conv=>whnf
 refine within_x n 89 94 (cw_ ?_)
 refine br_ (fun q8=>?_) fun q8=>?_
 ·rw [if_pos (by omega)] at hk
  conv=>whnf
  exact hk
 rw [if_neg (by omega)] at hk
 conv=>whnf
 refine within_x n 52 53 (cw_ ?_)
 refine br_ (fun q9=>?_) fun q9=>?_
 ·rw [if_pos (by omega)] at hk
  conv=>whnf
  refine bt_ ?_
  exact hk
 conv=>whnf
 refine within_x n 95 98 (cw_ ?_)
 refine br_ (fun r9=>?_) fun r9=>?_
 ·rw [if_pos (by omega)] at hk
  conv=>whnf
  exact hk
 rw [if_neg (by omega)] at hk
 conv=>whnf
 exact hk
end
end Go.Proofs.YtdhlpighdlnohaaGreat
namespace Go.Proofs.YtdhlpighdlnohaaGreat
open Go Go.Mid Go.RowKit Go.Bits
attribute [local irreducible] mid
theorem put_is {f:Csf} {n:Int} {i:Nat} (hi:idxN n=some i) (v:Nat):f.put n v={ f with w:=f.w.set i v }:=by unfold Csf.put;rw [hi]
theorem put_no {f:Csf} {n:Int} (hi:idxN n=none) (v:Nat):f.put n v=f:=by unfold Csf.put;rw [hi]
theorem cs_put {f:Csf} (hl:f.w.length=22) {n:Int} {i:Nat} (hi:idxN n=some i) (v:Nat):f.cs.set (1+i) (.int .u64 v)=(f.put n v).cs:=by
 have:=idx_lt hi
 rw [put_is hi]
 unfold Csf.cs
 rw [List.set_append_right _ _ (by show 1≤1+i;omega),show 1+i - [Value.int .i64 f.hart].length=i by show 1+i - 1=i;omega,List.set_append_left _ _ (by rw [List.length_map];omega),List.map_set]
theorem cs_cl {f:Csf} (hl:f.w.length=22) (b:Bool):f.cs.set 23 (.bool b)=({ f with cl:=b }).cs:=by
 unfold Csf.cs
 rw [List.set_append_right _ _ (by show 1≤23;decide),List.set_append_right _ _ (by rw [List.length_map,hl];show 22≤23 - 1;decide),List.length_map,hl]
 rfl
theorem cs_il {f:Csf} (hl:f.w.length=22) (b:Bool):f.cs.set 24 (.bool b)=({ f with il:=b }).cs:=by
 unfold Csf.cs
 rw [List.set_append_right _ _ (by show 1≤24;decide),List.set_append_right _ _ (by rw [List.length_map,hl];show 22≤24 - 1;decide),List.length_map,hl]
 rfl
theorem cs_get {f:Csf} (hl:f.w.length=22):f.cs[23]? = some (.bool f.cl)∧f.cs[24]? = some (.bool f.il):=by
 unfold Csf.cs
 constructor
 ·rw [List.getElem?_append_right (by show 1≤23;decide),List.getElem?_append_right (by rw [List.length_map,hl];show 22≤23 - 1;decide),List.length_map,hl];rfl
 ·rw [List.getElem?_append_right (by show 1≤24;decide),List.getElem?_append_right (by rw [List.length_map,hl];show 22≤24 - 1;decide),List.length_map,hl];rfl
theorem Csf.ok.put {f:Csf} (ok:f.ok) (n:Int) {v:Nat} (hv:v<2 ^ 64):(f.put n v).ok:=by
 cases hi:idxN n with
 | none=>rw [put_no hi];exact ok
 | some i =>
  rw [put_is hi]
  exact ⟨by rw [List.length_set];exact ok.len,fun x hx=>by
   rcases List.mem_or_eq_of_mem_set hx with hx | rfl
   ·exact ok.lt x hx
   ·exact hv⟩
theorem legal_lt {n:Int} {old v:Nat} (ho:old<2 ^ 64) (hv:v<2 ^ 64):legalN n old v<2 ^ 64:=by
 have h0:legal0 n old v<2 ^ 64:=legal0_lt hv
 unfold legalN
 split
 ·split
  ·exact Nat.or_lt_two_pow (andN_lt _ _) (and_lt ho)
  ·exact h0
 ·split
  ·split
   ·exact ho
   ·exact h0
  ·exact h0
theorem Csf.ok.set {f:Csf} (ok:f.ok) (n:Int) {v:Nat} (hv:v<2 ^ 64):(f.set n v).ok:=by
 have ha:=ok.at_lt
 unfold Csf.set
 split
 ·exact ok.put _ (legal_lt (ha _) hv)
 ·split
  ·exact ok.put _ (Nat.or_lt_two_pow (andN_lt _ _) (and_lt hv))
  ·split
   ·exact ok.put _ (Nat.or_lt_two_pow (andN_lt _ _) (and_lt (and_lt hv)))
   ·exact Csf.ok.put (f:={ f with cl:=f.cl || decide (n=2816),il:=f.il || decide (n=2818) }) ⟨ok.len,ok.lt⟩ _ (legal_lt (ha _) hv)
section
variable {h:Hp} {K:Value→Hp→Prop}
theorem sizB6:sizeT Tryz.prog 4 = some 1:=by kernel_rfl
theorem aggB6:isAggT Tryz.prog 4 = some false:=by kernel_rfl
theorem Pa.stW {b o:Nat} {el:TypeId} {A B:List Value} {f:Csf} (p:Pa h b o el A f.cs B) (ok:f.ok) {n:Int} {i:Nat} (hi:idxN n=some i) (v:Nat):storeH Tryz.prog 25 h ⟨b,o+1+i,none⟩ (ux v)=some (b,rowO el (A++((f.put n v).cs++B))):=by
 rw [← cs_put ok.len hi]
 have:=idx_lt hi
 exact p.st (1+i) sizU6 (by rw [cs_len ok.len];omega) rfl rfl (by rw [Nat.add_assoc])
theorem fset_x {b o:Nat} {el:TypeId} {A B:List Value} {f:Csf} (p:Pa h b o el A f.cs B) (ok:f.ok) (n:Int) (v:Nat) (hv:v<2 ^ 64) (hk:∀ h',Pa h' b o el A (f.set n v).cs B→(∀ d,d≠b→h' d=h d)→K (.tuple #[]) h'):X Tryz.prog 141 #[.pointer (some ⟨b,o,none⟩),.int .i64 n,ux v] h K:=by
 have ha:=ok.at_lt
 unfold Csf.set at hk
 have wp:∀ (m:Int) (i:Nat) (K':Value→Hp→Prop) (h':Hp),idxN m=some i→K' (.pointer (some ⟨b,o+1+i,none⟩)) h'→X Tryz.prog 77 #[.pointer (some ⟨b,o,none⟩),.int .i64 m] h' K':=fun m i K' h' hi hk'=>fword_x b o m (by unfold fvP;rw [hi];exact hk')
 refine fnv (args:=_) mixed [] [] [] Tryz.func141 rfl (by kernel_rfl) (cw_ ?_)
 refine wp 771 9 _ _ rfl (cw_ ?_)
 refine ⟨_,p.ldW ok (n:=771) rfl,cw_ ?_⟩
 refine br_ (fun q1=>?_) fun q1=>?_
 ·rw [if_pos q1] at hk
  conv=>whnf
  refine wp 768 7 _ _ rfl (cw_ ?_)
  refine ⟨_,p.ldW ok (n:=768) rfl,cw_ ?_⟩
  refine slay_x _ v (ok.at_lt _) hv (cw_ ?_)
  refine wr_intro (by exact p.stW ok (n:=768) rfl _) (fun h1 at_h1 ot_h1=>cw_ ?_)
  exact hk h1 ⟨at_h1,p.len⟩ ot_h1
 rw [if_neg q1] at hk
 conv=>whnf
 refine br_ (fun q2=>?_) fun q2=>?_
 ·rw [if_pos q2] at hk
  conv=>whnf
  refine wp 772 10 _ _ rfl (cw_ ?_)
  refine ⟨_,p.ldW ok (n:=772) rfl,cw_ ?_⟩
  refine val_by (andNot64 (ok.at_lt _) (ok.at_lt _)) (cw_ ?_)
  refine val_by (and64 hv (ok.at_lt _)) (cw_ ?_)
  refine val_by (or64 (andN_lt _ _) (show v &&& f.at 771<2 ^ 64 from and_lt hv)) (cw_ ?_)
  refine wr_intro (by exact p.stW ok (n:=772) rfl _) (fun h1 at_h1 ot_h1=>cw_ ?_)
  exact hk h1 ⟨at_h1,p.len⟩ ot_h1
 rw [if_neg q2] at hk
 conv=>whnf
 refine br_ (fun q3=>?_) fun q3=>?_
 ·rw [if_pos q3] at hk
  conv=>whnf
  refine wp 836 17 _ _ rfl (cw_ ?_)
  refine ⟨_,p.ldW ok (n:=836) rfl,cw_ ?_⟩
  refine val_by (and64 (ok.at_lt _) (show 2<2 ^ 64 by decide)) (cw_ ?_)
  refine val_by (andNot64 (ok.at_lt _) (show f.at 771 &&& 2<2 ^ 64 from and_lt (ok.at_lt _))) (cw_ ?_)
  refine val_by (and64 hv (ok.at_lt _)) (cw_ ?_)
  refine val_by (and64 (show v &&& f.at 771<2 ^ 64 from and_lt hv) (show 2<2 ^ 64 by decide)) (cw_ ?_)
  refine val_by (or64 (andN_lt _ _) (show v &&& f.at 771 &&& 2<2 ^ 64 from and_lt (and_lt hv))) (cw_ ?_)
  refine wr_intro (by exact p.stW ok (n:=836) rfl _) (fun h1 at_h1 ot_h1=>cw_ ?_)
  exact hk h1 ⟨at_h1,p.len⟩ ot_h1
 rw [if_neg q3] at hk
 have last:∀ (g:Csf) (h':Hp),Pa h' b o el A g.cs B→g.ok→g.at n=f.at n→g={ f with cl:=f.cl || decide (n=2816),il:=f.il || decide (n=2818) }→(∀ d,d≠b→h' d=h d)→∀ h1,(h1 b=some (rowO el (A++((g.put n (legalN n (g.at n) v)).cs++B))))→(∀ d,d≠b→h1 d=h' d)→K (.tuple #[]) h1:=fun g h' pg og eg e o1 h1 a1 o2=>hk h1 ⟨by rw [← e,← eg];exact a1,p.len⟩ fun d hd=>(o2 d hd).trans (o1 d hd)
 have last0:∀ (g:Csf) (h':Hp),Pa h' b o el A g.cs B→idxN n=none→g={ f with cl:=f.cl || decide (n=2816),il:=f.il || decide (n=2818) }→(∀ d,d≠b→h' d=h d)→K (.tuple #[]) h':=fun g h' pg hi e o1=>hk h' ⟨by rw [put_no hi,← e];exact pg.row,p.len⟩ o1
 clear hk
 conv=>whnf
 refine br_ (fun q4=>?_) fun q4=>?_
 ·conv=>whnf
  refine wr_intro (by exact p.st 23 sizB6 (by rw [cs_len ok.len];decide) rfl rfl) (fun h1 at_h1 ot_h1=>cw_ ?_)
  have pg:Pa h1 b o el A ({ f with cl:=true }).cs B:=⟨by rw [← cs_cl ok.len];exact at_h1,p.len⟩
  have og:({ f with cl:=true }:Csf).ok:=⟨ok.len,ok.lt⟩
  have e:({ f with cl:=true }:Csf)={ f with cl:=f.cl || decide (n=2816),il:=f.il || decide (n=2818) }:=by simp [q4]
  have eg:({ f with cl:=true }:Csf).at n=f.at n:=rfl
  have o1:=ot_h1
  generalize hg:({ f with cl:=true }:Csf)=g at pg og e eg
  clear hg at_h1 ot_h1
  refine fword_x b o n ?_
  unfold fvP
  cases hi:idxN n with
  | some i =>
   conv=>whnf
   refine ⟨_,pg.ldW og hi,cw_ ?_⟩
   refine csrlegal_x n _ v (og.at_lt _) hv (cw_ ?_)
   refine wr_intro (by exact pg.stW og hi _) (fun h2 at_h2 ot_h2=>cw_ ?_)
   exact last g h1 pg og eg e o1 h2 at_h2 ot_h2
  | none =>
   conv=>whnf
   exact last0 g h1 pg hi e o1
 ·conv=>whnf
  refine br_ (fun q5=>?_) fun q5=>?_
  ·conv=>whnf
   refine wr_intro (by exact p.st 24 sizB6 (by rw [cs_len ok.len];decide) rfl rfl) (fun h1 at_h1 ot_h1=>cw_ ?_)
   have pg:Pa h1 b o el A ({ f with il:=true }).cs B:=⟨by rw [← cs_il ok.len];exact at_h1,p.len⟩
   have og:({ f with il:=true }:Csf).ok:=⟨ok.len,ok.lt⟩
   have e:({ f with il:=true }:Csf)={ f with cl:=f.cl || decide (n=2816),il:=f.il || decide (n=2818) }:=by simp [q5]
   have eg:({ f with il:=true }:Csf).at n=f.at n:=rfl
   have o1:=ot_h1
   generalize hg:({ f with il:=true }:Csf)=g at pg og e eg
   clear hg at_h1 ot_h1
   refine fword_x b o n ?_
   unfold fvP
   cases hi:idxN n with
   | some i =>
    conv=>whnf
    refine ⟨_,pg.ldW og hi,cw_ ?_⟩
    refine csrlegal_x n _ v (og.at_lt _) hv (cw_ ?_)
    refine wr_intro (by exact pg.stW og hi _) (fun h2 at_h2 ot_h2=>cw_ ?_)
    exact last g h1 pg og eg e o1 h2 at_h2 ot_h2
   | none =>
    conv=>whnf
    exact last0 g h1 pg hi e o1
  ·have e:f={ f with cl:=f.cl || decide (n=2816),il:=f.il || decide (n=2818) }:=by simp [q4,q5]
   have eg:f.at n=f.at n:=rfl
   have pg:=p
   have og:=ok
   have o1:∀ d,d≠b→h d=h d:=fun _ _=>rfl
   conv=>whnf
   refine fword_x b o n ?_
   unfold fvP
   cases hi:idxN n with
   | some i =>
    conv=>whnf
    refine ⟨_,pg.ldW og hi,cw_ ?_⟩
    refine csrlegal_x n _ v (og.at_lt _) hv (cw_ ?_)
    refine wr_intro (by exact pg.stW og hi _) (fun h2 at_h2 ot_h2=>cw_ ?_)
    exact last f h pg og eg e o1 h2 at_h2 ot_h2
   | none =>
    conv=>whnf
    exact last0 f h pg hi e o1
end
end Go.Proofs.YtdhlpighdlnohaaGreat
namespace Go.Proofs.YtdhlpighdlnohaaGreat
open Go Go.Mid Go.RowKit Go.Bits
attribute [local irreducible] mid
section
variable {h:Hp} {K:Value→Hp→Prop}
theorem shasSum_x (w:Nat) (hw:w<2 ^ 64) (hk:K (.bool (bitB w 18)) h):X Tryz.prog 186 #[ux w,.string (bs [115,117,109])] h K:=by
 refine fnv (args:=_) mixed [] [] [] Tryz.func186 rfl (by kernel_rfl) (cw_ ?_)
 iterate 6 (refine seq_false (by decide) ?_;conv=>whnf)
 refine seq_true (by decide) (cw_ ?_)
 refine sbit_x w 18 hw (by decide) ?_
 exact hk
theorem shasMxr_x (w:Nat) (hw:w<2 ^ 64) (hk:K (.bool (bitB w 19)) h):X Tryz.prog 186 #[ux w,.string (bs [109,120,114])] h K:=by
 refine fnv (args:=_) mixed [] [] [] Tryz.func186 rfl (by kernel_rfl) (cw_ ?_)
 iterate 7 (refine seq_false (by decide) ?_;conv=>whnf)
 refine seq_true (by decide) (cw_ ?_)
 refine sbit_x w 19 hw (by decide) ?_
 exact hk
theorem shasTvm_x (w:Nat) (hw:w<2 ^ 64) (hk:K (.bool (bitB w 20)) h):X Tryz.prog 186 #[ux w,.string (bs [116,118,109])] h K:=by
 refine fnv (args:=_) mixed [] [] [] Tryz.func186 rfl (by kernel_rfl) (cw_ ?_)
 iterate 8 (refine seq_false (by decide) ?_;conv=>whnf)
 refine seq_true (by decide) (cw_ ?_)
 refine sbit_x w 20 hw (by decide) ?_
 exact hk
theorem shasTw_x (w:Nat) (hw:w<2 ^ 64) (hk:K (.bool (bitB w 21)) h):X Tryz.prog 186 #[ux w,.string (bs [116,119])] h K:=by
 refine fnv (args:=_) mixed [] [] [] Tryz.func186 rfl (by kernel_rfl) (cw_ ?_)
 iterate 9 (refine seq_false (by decide) ?_;conv=>whnf)
 refine seq_true (by decide) (cw_ ?_)
 refine sbit_x w 21 hw (by decide) ?_
 exact hk
theorem shasTsr_x (w:Nat) (hw:w<2 ^ 64) (hk:K (.bool (bitB w 22)) h):X Tryz.prog 186 #[ux w,.string (bs [116,115,114])] h K:=by
 refine fnv (args:=_) mixed [] [] [] Tryz.func186 rfl (by kernel_rfl) (cw_ ?_)
 iterate 10 (refine seq_false (by decide) ?_;conv=>whnf)
 refine seq_true (by decide) (cw_ ?_)
 refine sbit_x w 22 hw (by decide) ?_
 exact hk
theorem class8 (n:Int):(classN n=8)=(89≤n∧n≤94):=by
 unfold classN
 rw [eq_iff_iff]
 repeat' split
 all_goals omega
theorem fwrites_x (op rs1:Int) (hk:K (.bool (writesB op rs1)) h):X Tryz.prog 257 #[.int .i64 op,.int .i64 rs1] h K:=by
 have hfin:∀ b,b=writesB op rs1→K (.bool b) h:=fun b e=>e ▸ hk
 unfold writesB csrOpB at hfin
 simp only [← class8] at hfin
 clear hk
 refine fnv (args:=_) mixed [] [] [] Tryz.func257 rfl (by kernel_rfl) (cw_ ?_)
 by_cases q1:op=89∨op=92
 ·have hk2:=hfin true (by simp [q1])
  rcases q1 with rfl | rfl
  ·conv=>whnf
   exact hk2
  ·conv=>whnf
   exact hk2
 ·refine bf_ ?_
  refine bf_ ?_
  refine class_x op ?_
  generalize classN op=c at hfin ⊢
  refine br_ (fun q2=>?_) fun q2=>?_
  ·conv=>whnf
   exact hfin _ (by rw [Bool.eq_iff_iff];simp [q1,q2])
  ·conv=>whnf
   exact hfin _ (by rw [Bool.eq_iff_iff];simp [q1,q2])
theorem aggUi:isAggT Tryz.prog 161 = some false:=by kernel_rfl
theorem sizUi:sizeT Tryz.prog 161 = some 1:=by kernel_rfl
theorem may1_x {b o c d:Nat} {el:TypeId} {A B:List Value} {f:Csf} (p:Pa h b o el A f.cs B) (ok:f.ok) (hc:h c=some (rowO 170 [.pointer (some ⟨b,o,none⟩)])) (k:Nat) (hk9:k≤63) (hd:h d=some (rowO 161 [.int .u64 k])) (n:Int) (i:Nat) (hi:idxN n=some i) (hk:K (.bool (bitB (f.at n) k)) h):X Tryz.prog 362 #[.int .i64 n,.pointer (some ⟨c,0,none⟩),.pointer (some ⟨d,0,none⟩)] h K:=by
 have ha:=ok.at_lt n
 refine fnv (args:=_) mixed [] [] [10] Tryz.func362 rfl (by kernel_rfl) (cw_ ?_)
 refine ⟨fun z=>h.le z,Hp.le_refl _,cw_ ?_⟩
 refine ⟨_,loadC0 aggFp hc rfl,cw_ ?_⟩
 refine fword_x b o n ?_
 unfold fvP
 rw [hi]
 refine ⟨Hp.le_refl _,cw_ ?_⟩
 refine ⟨_,p.ldW ok hi,cw_ ?_⟩
 refine ⟨_,fun _ e=>loadC0 aggUi (e _ _ hd) rfl,cw_ ?_⟩
 generalize f.at n=w at ha hk ⊢
 have h1:w / 2 ^ k<2 ^ 64:=Nat.lt_of_le_of_lt (Nat.div_le_self _ _) ha
 refine val_by (shr64 w k (by omega)) (cw_ ?_)
 refine val_by ((and64 h1 (show 1<2 ^ 64 by decide)).trans (congrArg (fun x:Nat=>(x:Int)) (Nat.and_one_is_mod _))) (cw_ ?_)
 exact kq hk (bI (by rw [← bit_is,Bool.eq_iff_iff];simp))
theorem fmay_x {b o:Nat} {el:TypeId} {A B:List Value} {f:Csf} (p:Pa h b o el A f.cs B) (ok:f.ok) (n priv:Int) (wr:Bool) (hk:K (.bool (f.may n priv wr)) h):X Tryz.prog 292 #[.pointer (some ⟨b,o,none⟩),.int .i64 n,.int .i64 priv,.bool wr] h K:=by
 refine X.forget ?_
 have hfin:∀ v h',v=f.may n priv wr→h.le h'→∃ g:Hp,g.le h'∧K (.bool v) g:=fun v h' e hle=>⟨h,hle,e ▸ hk⟩
 clear hk
 unfold Csf.may at hfin
 refine fnv (args:=_) mixed [] [] [] Tryz.func292 rfl (by kernel_rfl) (cw_ ?_)
 refine new_intro (o:=rowO 170 [.pointer (some ⟨b,o,none⟩)]) (fun c h1 n_c le_c at_c ot_c=>cw_ ?_)
 have p1:=p.le le_c
 refine ⟨_,loadC0 aggFp at_c rfl,cw_ ?_⟩
 refine csrmay_x n priv wr ?_
 generalize csrMayB n priv wr=cm at hfin ⊢
 cases cm with
 | false =>
  conv=>whnf
  exact hfin _ h1 rfl le_c
 | true =>
  simp only [Bool.true_and] at hfin
  conv=>whnf
  refine br_ (fun q1=>?_) fun q1=>?_
  ·rw [if_pos q1] at hfin
   conv=>whnf
   refine br_ (fun q2=>?_) fun q2=>?_
   ·conv=>whnf
    exact hfin _ h1 (by rw [decide_eq_false (by simpa using q2)];rfl) le_c
   ·conv=>whnf
    refine ⟨_,loadC0 aggFp at_c rfl,cw_ ?_⟩
    refine fword_x b o 768 (cw_ ?_)
    refine ⟨_,p1.ldW ok (n:=768) rfl,cw_ ?_⟩
    refine shasTvm_x _ (ok.at_lt _) ?_
    generalize bitB (f.at 768) 20=d at hfin ⊢
    conv=>whnf
    exact hfin _ h1 (by rw [decide_eq_true (by simpa using q2)];rfl) le_c
  ·rw [if_neg q1] at hfin
   have h3:∀ (k:Nat),k≤63→∀ (d:Nat) (h2:Hp),h1.le h2→h2 d=some (rowO 161 [.int .u64 k])→∀ (m:Int) (i:Nat) (K':Value→Hp→Prop),idxN m=some i→K' (.bool (bitB (f.at m) k)) h2→X Tryz.prog 362 #[.int .i64 m,.pointer (some ⟨c,0,none⟩),.pointer (some ⟨d,0,none⟩)] h2 K':=fun k hk9 d h2 hle hd m i K' hi hk'=>may1_x (p1.le hle) ok (hle _ _ at_c) k hk9 hd m i hi hk'
   by_cases q3:n=3072∨n=3073∨n=3074
   ·rw [if_pos q3] at hfin
    have e3:∃ k:Nat,n=3072+k∧k≤2:=⟨(n - 3072).toNat,by omega,by omega⟩
    rcases q3 with rfl | rfl | rfl
    ·conv=>whnf
     refine ov_eq (y:=((0:Nat):Int)) (by decide) (by decide) (cw_ ?_)
     refine ov_by (w64 (a:=0) (by decide)) (cw_ ?_)
     refine new_intro (o:=_) (fun d h2 n_d le_d at_d ot_d=>cw_ ?_)
     refine wr_intro (by exact storeC0 sizUi at_d (Nat.zero_lt_succ 0) rfl rfl) (fun h4 at_h4 ot_h4=>cw_ ?_)
     have l4:h1.le h4:=Hp.le_st n_d le_d ot_h4
     have l04:=Hp.le_trans le_c l4
     rw [show ((3072:Int) - 3072).toNat=0 by decide] at hfin
     refine br_ (fun q4=>?_) fun q4=>?_
     ·conv=>whnf
      exact hfin _ h4 (by rw [decide_eq_true q4];rfl) l04
     ·conv=>whnf
      refine h3 0 (by decide) d h4 l4 at_h4 774 12 _ rfl ?_
      generalize bitB (f.at 774) 0=d1 at hfin ⊢
      cases d1 with
      | false =>
       have hk2:=hfin false h4 (by rw [decide_eq_false q4];rfl) l04
       conv=>whnf
       exact hk2
      | true =>
       conv=>whnf
       refine br_ (fun q5=>?_) fun q5=>?_
       ·conv=>whnf
        exact hfin _ h4 (by rw [decide_eq_false q4,decide_eq_false (by simpa using q5)];rfl) l04
       ·conv=>whnf
        refine h3 0 (by decide) d h4 l4 at_h4 262 1 _ rfl ?_
        generalize bitB (f.at 262) 0=d2 at hfin ⊢
        conv=>whnf
        exact hfin _ h4 (by rw [decide_eq_false q4,decide_eq_true (by simpa using q5)];rfl) l04
    ·conv=>whnf
     refine ov_eq (y:=((1:Nat):Int)) (by decide) (by decide) (cw_ ?_)
     refine ov_by (w64 (a:=1) (by decide)) (cw_ ?_)
     refine new_intro (o:=_) (fun d h2 n_d le_d at_d ot_d=>cw_ ?_)
     refine wr_intro (by exact storeC0 sizUi at_d (Nat.zero_lt_succ 0) rfl rfl) (fun h4 at_h4 ot_h4=>cw_ ?_)
     have l4:h1.le h4:=Hp.le_st n_d le_d ot_h4
     have l04:=Hp.le_trans le_c l4
     rw [show ((3073:Int) - 3072).toNat=1 by decide] at hfin
     refine br_ (fun q4=>?_) fun q4=>?_
     ·conv=>whnf
      exact hfin _ h4 (by rw [decide_eq_true q4];rfl) l04
     ·conv=>whnf
      refine h3 1 (by decide) d h4 l4 at_h4 774 12 _ rfl ?_
      generalize bitB (f.at 774) 1=d1 at hfin ⊢
      cases d1 with
      | false =>
       have hk2:=hfin false h4 (by rw [decide_eq_false q4];rfl) l04
       conv=>whnf
       exact hk2
      | true =>
       conv=>whnf
       refine br_ (fun q5=>?_) fun q5=>?_
       ·conv=>whnf
        exact hfin _ h4 (by rw [decide_eq_false q4,decide_eq_false (by simpa using q5)];rfl) l04
       ·conv=>whnf
        refine h3 1 (by decide) d h4 l4 at_h4 262 1 _ rfl ?_
        generalize bitB (f.at 262) 1=d2 at hfin ⊢
        conv=>whnf
        exact hfin _ h4 (by rw [decide_eq_false q4,decide_eq_true (by simpa using q5)];rfl) l04
    ·conv=>whnf
     refine ov_eq (y:=((2:Nat):Int)) (by decide) (by decide) (cw_ ?_)
     refine ov_by (w64 (a:=2) (by decide)) (cw_ ?_)
     refine new_intro (o:=_) (fun d h2 n_d le_d at_d ot_d=>cw_ ?_)
     refine wr_intro (by exact storeC0 sizUi at_d (Nat.zero_lt_succ 0) rfl rfl) (fun h4 at_h4 ot_h4=>cw_ ?_)
     have l4:h1.le h4:=Hp.le_st n_d le_d ot_h4
     have l04:=Hp.le_trans le_c l4
     rw [show ((3074:Int) - 3072).toNat=2 by decide] at hfin
     refine br_ (fun q4=>?_) fun q4=>?_
     ·conv=>whnf
      exact hfin _ h4 (by rw [decide_eq_true q4];rfl) l04
     ·conv=>whnf
      refine h3 2 (by decide) d h4 l4 at_h4 774 12 _ rfl ?_
      generalize bitB (f.at 774) 2=d1 at hfin ⊢
      cases d1 with
      | false =>
       have hk2:=hfin false h4 (by rw [decide_eq_false q4];rfl) l04
       conv=>whnf
       exact hk2
      | true =>
       conv=>whnf
       refine br_ (fun q5=>?_) fun q5=>?_
       ·conv=>whnf
        exact hfin _ h4 (by rw [decide_eq_false q4,decide_eq_false (by simpa using q5)];rfl) l04
       ·conv=>whnf
        refine h3 2 (by decide) d h4 l4 at_h4 262 1 _ rfl ?_
        generalize bitB (f.at 262) 2=d2 at hfin ⊢
        conv=>whnf
        exact hfin _ h4 (by rw [decide_eq_false q4,decide_eq_true (by simpa using q5)];rfl) l04
   ·have hk2:=fun h'=>hfin true h' (by rw [if_neg q3])
    refine bf_ ?_
    refine bf_ ?_
    refine bf_ ?_
    exact hk2 h1 le_c
end
end Go.Proofs.YtdhlpighdlnohaaGreat
