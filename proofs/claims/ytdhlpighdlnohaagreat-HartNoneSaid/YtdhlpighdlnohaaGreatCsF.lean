/-
  A hart's control registers: writing; instructions; turns.
-/
import Derived.Test.YtdhlpighdlnohaaGreatCsC
import Derived.Test.YtdhlpighdlnohaaGreatImmP
import Derived.Test.YtdhlpighdlnohaaGreatBitP
import Derived.Test.YtdhlpighdlnohaaGreatEvD
set_option linter.unusedSimpArgs false
set_option linter.unusedVariables false
set_option maxHeartbeats 8000000
set_option maxRecDepth 10000
set_option linter.unusedSimpArgs false
set_option linter.unusedVariables false
namespace Go.Proofs.YtdhlpighdlnohaaGreat
open Go Go.Mid Go.RowKit Go.Bits
attribute [local irreducible] mid
section
variable {h:Hp} {K:Value→Hp→Prop}
theorem and_lt {a b:Nat} (h:a<2 ^ 64):a &&& b<2 ^ 64:=Nat.lt_of_le_of_lt Nat.and_le_left h
theorem sview_x (w:Nat) (hw:w<2 ^ 64) (hk:K (ux (viewN w)) h):X Tryz.prog 248 #[ux w] h K:=by
 refine fnv (args:=_) mixed [] [] [] Tryz.func248 rfl (by kernel_rfl) (cw_ ?_)
 refine csrmask_x 256 ?_
 rw [show maskN 256=786722 by decide +kernel]
 conv=>whnf
 refine val_by (or64 (show 786722<2 ^ 64 by decide) (show 8589934592<2 ^ 64 by decide)) (cw_ ?_)
 refine val_by (and64 hw (show (786722 ||| 8589934592:Nat)<2 ^ 64 by decide)) (cw_ ?_)
 exact hk
theorem slay_x (w v:Nat) (hw:w<2 ^ 64) (hv:v<2 ^ 64) (hk:K (ux (layS w v)) h):X Tryz.prog 251 #[ux w,ux v] h K:=by
 refine fnv (args:=_) mixed [] [] [] Tryz.func251 rfl (by kernel_rfl) (cw_ ?_)
 refine csrlegal_x 256 w v hw hv ?_
 exact hk
theorem and3 (n:Nat):n &&& 3=n % 4:=Nat.and_two_pow_sub_one_eq_mod n 2
theorem sprior_x (w:Nat) (hw:w<2 ^ 64) (hk:K (.int .i64 (priorN w)) h):X Tryz.prog 360 #[ux w] h K:=by
 have h11:w / 2 ^ 11<2 ^ 64:=Nat.lt_of_le_of_lt (Nat.div_le_self _ _) hw
 unfold priorN at hk
 refine fnv (args:=_) mixed [] [] [] Tryz.func360 rfl (by kernel_rfl) (cw_ ?_)
 refine val_by (shr64 w 11 (by decide)) (cw_ ?_)
 refine val_by ((and64 h11 (show 3<2 ^ 64 by decide)).trans (congrArg (fun x:Nat=>(x:Int)) (and3 _))) (cw_ ?_)
 generalize hm:w / 2 ^ 11 % 4=m at hk ⊢
 have hm4:m<4:=by omega
 refine ov_by (show IntKind.i64.wrap (m:Int)=(m:Int) by rw [wrapI64N _ (by omega)];unfold i64N;rw [if_pos (by omega)]) (cw_ ?_)
 refine br_ (fun q=>?_) fun q=>?_
 ·rw [if_pos (by omega)] at hk
  conv=>whnf
  exact hk
 ·rw [if_neg (by omega)] at hk
  conv=>whnf
  exact hk
theorem sprivilege_x (p:Int) (hk:K (.bool (decide (p=0∨p=1∨p=3))) h):X Tryz.prog 333 #[.int .i64 p] h K:=by
 refine fnv (args:=_) mixed [] [] [] Tryz.func333 rfl (by kernel_rfl) (cw_ ?_)
 repeat' (refine br_ (fun hq=>cw_ ?_) fun hq=>cw_ ?_)
 all_goals exact kq hk (bI (by rw [Bool.eq_iff_iff];simp;omega))
theorem senter_x (w:Nat) (fr to:Int) (hw:w<2 ^ 64) (hk:K (ux (enterN w fr to)) h):X Tryz.prog 266 #[ux w,.int .i64 fr,.int .i64 to] h K:=by
 unfold enterN at hk
 refine fnv (args:=_) mixed [] [] [] Tryz.func266 rfl (by kernel_rfl) (cw_ ?_)
 refine sprivilege_x fr ?_
 by_cases hp:fr=0∨fr=1∨fr=3
 ·rw [decide_eq_true hp]
  rw [if_neg (fun hh=>hh hp)] at hk
  conv=>whnf
  refine br_ (fun q1=>?_) fun q1=>?_
  ·rw [if_pos q1] at hk
   conv=>whnf
   refine sbit_x w 3 hw (by decide) (cw_ ?_)
   refine swith_x w 7 _ hw (by decide) (cw_ ?_)
   have w1:=with_lt (i:=7) (on:=bitB w 3) hw (by decide)
   refine swith_x _ 3 _ w1 (by decide) ?_
   have w2:=with_lt (i:=3) (on:=false) w1 (by decide)
   generalize withN (withN w 7 (bitB w 3)) 3 false=u at hk w2 ⊢
   conv=>whnf
   refine val_by (andNot64 w2 (show 6144<2 ^ 64 by decide)) (cw_ ?_)
   obtain ⟨m,rfl⟩:∃ m:Nat,fr=m:=⟨fr.toNat,by omega⟩
   have hm:m*2 ^ 11<2 ^ 64:=by omega
   refine ov_by (show IntKind.u64.wrap (m:Int)=(m:Int) from w64 (by omega)) (cw_ ?_)
   refine ov_by ((shl64 m 11 (by decide)).trans (by rw [Nat.mod_eq_of_lt (by omega)])) (cw_ ?_)
   refine val_by (or64 (andN_lt u 6144) hm) (cw_ ?_)
   rw [Int.toNat_natCast] at hk
   exact hk
  ·rw [if_neg q1] at hk
   conv=>whnf
   refine br_ (fun q2=>?_) fun q2=>?_
   ·rw [if_pos q2] at hk
    conv=>whnf
    refine sbit_x w 1 hw (by decide) (cw_ ?_)
    refine swith_x w 5 _ hw (by decide) (cw_ ?_)
    have w1:=with_lt (i:=5) (on:=bitB w 1) hw (by decide)
    refine swith_x _ 1 _ w1 (by decide) ?_
    have w2:=with_lt (i:=1) (on:=false) w1 (by decide)
    generalize withN (withN w 5 (bitB w 1)) 1 false=u at hk w2 ⊢
    conv=>whnf
    refine swith_x u 8 _ w2 (by decide) (cw_ ?_)
    exact kq hk (by show ux (withN u 8 _)=ux (withN u 8 _);congr 3)
   ·rw [if_neg q2] at hk
    conv=>whnf
    exact hk
 ·rw [decide_eq_false hp]
  rw [if_pos hp] at hk
  conv=>whnf
  exact hk
theorem sleave_x (w:Nat) (a:Int) (hw:w<2 ^ 64) (hk:K (.tuple #[ux (leaveW w a),.int .i64 (leaveP w a)]) h):X Tryz.prog 363 #[ux w,.int .i64 a] h K:=by
 unfold leaveW leaveP at hk
 refine fnv (args:=_) mixed [] [] [] Tryz.func363 rfl (by kernel_rfl) (cw_ ?_)
 refine br_ (fun q1=>?_) fun q1=>?_
 ·rw [if_pos q1,if_pos q1] at hk
  conv=>whnf
  refine sprior_x w hw ?_
  generalize priorN w=p at hk ⊢
  conv=>whnf
  refine sbit_x w 7 hw (by decide) (cw_ ?_)
  refine swith_x w 3 _ hw (by decide) (cw_ ?_)
  have w1:=with_lt (i:=3) (on:=bitB w 7) hw (by decide)
  refine swith_x _ 7 _ w1 (by decide) ?_
  have w2:=with_lt (i:=7) (on:=true) w1 (by decide)
  generalize withN (withN w 3 (bitB w 7)) 7 true=u at hk w2 ⊢
  conv=>whnf
  refine val_by (andNot64 w2 (show 6144<2 ^ 64 by decide)) (cw_ ?_)
  refine br_ (fun q2=>?_) fun q2=>?_
  ·rw [if_pos (fun e=>by omega)] at hk
   conv=>whnf
   refine swith_x _ 17 _ (andN_lt u 6144) (by decide) (cw_ ?_)
   exact hk
  ·rw [if_neg (fun e=>e (by omega))] at hk
   conv=>whnf
   exact hk
 ·rw [if_neg q1,if_neg q1] at hk
  conv=>whnf
  refine br_ (fun q3=>?_) fun q3=>?_
  ·rw [if_pos q3,if_pos q3] at hk
   conv=>whnf
   refine sbit_x w 8 hw (by decide) ?_
   generalize hb8:bitB w 8=b8 at hk ⊢
   have w1:=with_lt (i:=1) (on:=bitB w 5) hw (by decide)
   have w2:=with_lt (i:=5) (on:=true) w1 (by decide)
   have w3:=with_lt (i:=8) (on:=false) w2 (by decide)
   cases b8
   all_goals
    conv=>whnf
    refine sbit_x w 5 hw (by decide) (cw_ ?_)
    refine swith_x w 1 _ hw (by decide) (cw_ ?_)
    refine swith_x _ 5 _ w1 (by decide) (cw_ ?_)
    refine swith_x _ 8 _ w2 (by decide) (cw_ ?_)
    refine swith_x _ 17 _ w3 (by decide) (cw_ ?_)
    exact hk
  ·rw [if_neg q3,if_neg q3] at hk
   conv=>whnf
   exact hk
theorem sdata_x (w:Nat) (p:Int) (hw:w<2 ^ 64) (hk:K (.int .i64 (dataP w p)) h):X Tryz.prog 291 #[ux w,.int .i64 p] h K:=by
 unfold dataP at hk
 refine fnv (args:=_) mixed [] [] [] Tryz.func291 rfl (by kernel_rfl) (cw_ ?_)
 refine br_ (fun q1=>?_) fun q1=>?_
 ·conv=>whnf
  refine sbit_x w 17 hw (by decide) ?_
  generalize bitB w 17=b at hk ⊢
  cases b with
  | true =>
   rw [if_pos ⟨q1,rfl⟩] at hk
   conv=>whnf
   refine sprior_x w hw ?_
   exact hk
  | false =>
   rw [if_neg (fun hh=>by cases hh.2)] at hk
   conv=>whnf
   exact hk
 ·rw [if_neg (fun hh=>q1 hh.1)] at hk
  conv=>whnf
  exact hk
theorem slets_x (w:Nat) (p to:Int) (hw:w<2 ^ 64) (hk:K (.bool (letsB w p to)) h):X Tryz.prog 154 #[ux w,.int .i64 p,.int .i64 to] h K:=by
 have hfin:∀ b,b=letsB w p to→K (.bool b) h:=fun b e=>e ▸ hk
 unfold letsB at hfin
 clear hk
 refine fnv (args:=_) mixed [] [] [] Tryz.func154 rfl (by kernel_rfl) (cw_ ?_)
 refine br_ (fun q1=>?_) fun q1=>?_
 ·rw [if_pos q1] at hfin
  subst q1
  conv=>whnf
  refine br_ (fun q2=>?_) fun q2=>?_
  ·conv=>whnf
   exact hfin _ (by rw [decide_eq_true q2];rfl)
  ·rw [decide_eq_false q2] at hfin
   conv=>whnf
   refine br_ (fun q3=>?_) fun q3=>?_
   ·rw [decide_eq_true q3] at hfin
    conv=>whnf
    refine sbit_x w 3 hw (by decide) ?_
    generalize bitB w 3=b at hfin ⊢
    conv=>whnf
    exact hfin b (by cases b <;> rfl)
   ·rw [decide_eq_false q3] at hfin
    conv=>whnf
    exact hfin _ rfl
 ·rw [if_neg q1] at hfin
  conv=>whnf
  refine br_ (fun q4=>?_) fun q4=>?_
  ·rw [if_pos q4] at hfin
   subst q4
   conv=>whnf
   refine br_ (fun q2=>?_) fun q2=>?_
   ·conv=>whnf
    exact hfin _ (by rw [decide_eq_true q2];rfl)
   ·rw [decide_eq_false q2] at hfin
    conv=>whnf
    refine br_ (fun q3=>?_) fun q3=>?_
    ·rw [decide_eq_true q3] at hfin
     conv=>whnf
     refine sbit_x w 1 hw (by decide) ?_
     generalize bitB w 1=b at hfin ⊢
     conv=>whnf
     exact hfin b (by cases b <;> rfl)
    ·rw [decide_eq_false q3] at hfin
     conv=>whnf
     exact hfin _ rfl
  ·rw [if_neg q4] at hfin
   conv=>whnf
   exact hfin _ rfl
end
end Go.Proofs.YtdhlpighdlnohaaGreat
namespace Go.Proofs.YtdhlpighdlnohaaGreat
open Go Go.Mid Go.RowKit Go.Bits
attribute [local irreducible] mid
def Csf.cs (f:Csf):List Value:=[.int .i64 f.hart]++(f.w.map (fun n:Nat=>Value.int .u64 n)++[.bool f.cl,.bool f.il])
abbrev fvP (b o:Nat) (n:Int):Value:=.pointer ((idxN n).map fun i=>⟨b,o+1+i,none⟩)
theorem idx_lt {n:Int} {i:Nat} (h:idxN n=some i):i<22:=(List.findIdx?_eq_some_iff_getElem.1 h).1
theorem cs_w {f:Csf} (i:Nat) {v:Nat} (hv:f.w[i]? = some v):f.cs[1+i]? = some (.int .u64 v):=by
 unfold Csf.cs
 rw [List.getElem?_append_right (by show 1≤1+i;omega),show 1+i - [Value.int .i64 f.hart].length=i by show 1+i - 1=i;omega,List.getElem?_append_left (by rw [List.length_map];exact (List.getElem?_eq_some_iff.1 hv).1),List.getElem?_map,hv]
 rfl
theorem cs_len {f:Csf} (h:f.w.length=22):f.cs.length=25:=by simp [Csf.cs,h]
section
variable {h:Hp} {K:Value→Hp→Prop}
theorem aggOw:isAggT Tryz.prog 248 = some true:=by kernel_rfl
theorem sizOw:sizeT Tryz.prog 248 = some 22:=by kernel_rfl
abbrev ownV:Value:=.agg (ownL.map fun n:Nat=>Value.int .i64 n).toArray
theorem own_x (hk:K ownV h):X Tryz.prog 140 #[] h K:=by
 refine X.forget ?_
 refine fnv (args:=_) mixed [] [] [] Tryz.func140 rfl (by kernel_rfl) (cw_ ?_)
 refine new_intro (o:=_) (fun z h1 n_z le_z at_z ot_z=>cw_ ?_)
 refine big_by (v:=ownV) (by kernel_rfl) (cw_ ?_)
 refine wr_intro (by exact storeA0 (z:=ownV) sizOw at_z rfl rfl rfl) (fun h2 at_h2 ot_h2=>cw_ ?_)
 refine ⟨_,loadA0 aggOw sizOw at_h2 rfl,cw_ ?_⟩
 exact ⟨h,Hp.le_st n_z le_z ot_h2,hk⟩
theorem fword_x (b o:Nat) (n:Int) (hk:K (fvP b o n) h):X Tryz.prog 77 #[.pointer (some ⟨b,o,none⟩),.int .i64 n] h K:=by
 refine fnv (args:=_) mixed [] [] [] Tryz.func77 rfl (by kernel_rfl) (cw_ ?_)
 refine own_x (cw_ ?_)
 refine loop_at [8] [] (fun r vs _ h'=>h=h'∧∃ j:Nat,j≤22∧r=22 - j∧vs=[.v (.int .i64 j)]∧∀ (i:Nat) (y:Nat),i<j→ownL[i]? = some y→decide ((y:Int)=n)=false) 22 ⟨rfl,0,by omega,by omega,rfl,fun i y hi=>by omega⟩ ?_
 rintro r vs cs mm bx _ ⟨rfl,j,hj,rfl,rfl,hno⟩
 conv=>whnf
 refine br_ (fun q1=>?_) fun q1=>?_
 ·obtain ⟨y,hy⟩:∃ y,ownL[j]? = some y:=⟨_,List.getElem?_eq_getElem (by show j<22;omega)⟩
  conv=>whnf
  refine need_intro ⟨by omega,by show _<((22:Nat):Int);omega⟩ ?_
  refine part_cell (k:=j) (v:=.int .i64 y) aggIn (by rw [Int.toNat_natCast];exact Nat.mul_one _) (by rw [List.getElem?_map,hy];rfl) ?_
  conv=>whnf
  refine br_ (fun q2=>?_) fun q2=>?_
  ·have hix:idxN n=some j:=by
    unfold idxN
    rw [List.findIdx?_eq_some_iff_getElem]
    refine ⟨by show j<22;omega,?_,fun i hi=>?_⟩
    ·rw [(List.getElem?_eq_some_iff.1 hy).2];exact decide_eq_true q2
    ·have:=hno i _ hi (List.getElem?_eq_getElem (by show i<22;omega))
     simp [this]
   unfold fvP at hk
   rw [hix] at hk
   conv=>whnf
   refine need_intro ⟨by omega,by show _<((22:Nat):Int);omega⟩ ?_
   conv=>whnf
   exact kq hk (by
    rw [show Tryz.prog.types[25].size=1 by kernel_rfl]
    simp [addr_add]
    rfl)
  ·conv=>whnf
   refine n_ ?_
   exact ⟨22 - (j+1),by omega,rfl,j+1,by omega,rfl,rfl,fun i z hi hz=>by
    by_cases e:i=j
    ·subst e;rw [hy] at hz;cases hz;exact decide_eq_false q2
    ·exact hno i z (by omega) hz⟩
 ·obtain rfl:j=22:=by omega
  have hix:idxN n=none:=by
   unfold idxN
   rw [List.findIdx?_eq_none_iff]
   intro x hx
   obtain ⟨i,hi,e⟩:=List.getElem_of_mem hx
   exact hno i x hi (by rw [List.getElem?_eq_getElem hi,e])
  unfold fvP at hk
  rw [hix] at hk
  conv=>whnf
  exact hk
theorem aggU6:isAggT Tryz.prog 25 = some false:=by kernel_rfl
theorem sizU6:sizeT Tryz.prog 25 = some 1:=by kernel_rfl
theorem aggFp:isAggT Tryz.prog 170 = some false:=by kernel_rfl
theorem Csf.ok.at_ {f:Csf} (ok:f.ok) {n:Int} {i:Nat} (h:idxN n=some i):f.w[i]? = some (f.at n):=by
 have hi:i<f.w.length:=by rw [ok.len];exact idx_lt h
 unfold Csf.at
 rw [h]
 show _=some (f.w.getD i 0)
 rw [List.getD_eq_getElem?_getD,List.getElem?_eq_getElem hi]
 rfl
theorem Csf.ok.at_lt {f:Csf} (ok:f.ok) (n:Int):f.at n<2 ^ 64:=by
 cases h:idxN n with
 | some i=>exact ok.lt _ (List.mem_of_getElem? (ok.at_ h))
 | none =>
  unfold Csf.at
  rw [h]
  show (0:Nat)<_
  decide
theorem Pa.ldW {b o:Nat} {el:TypeId} {A B:List Value} {f:Csf} (p:Pa h b o el A f.cs B) (ok:f.ok) {n:Int} {i:Nat} (hi:idxN n=some i):loadH Tryz.prog 25 h ⟨b,o+1+i,none⟩=some (ux (f.at n)) :=
 p.ld (1+i) aggU6 (cs_w i (ok.at_ hi)) (by rw [Nat.add_assoc])
theorem get1_x {b o c:Nat} {el:TypeId} {A B:List Value} {f:Csf} (p:Pa h b o el A f.cs B) (ok:f.ok) (hc:h c=some (rowO 170 [.pointer (some ⟨b,o,none⟩)])) (n:Int) (i:Nat) (hi:idxN n=some i) (hk:K (ux (f.at n)) h):X Tryz.prog 247 #[.int .i64 n,.pointer (some ⟨c,0,none⟩)] h K:=by
 refine fnv (args:=_) mixed [] [] [] Tryz.func247 rfl (by kernel_rfl) (cw_ ?_)
 refine ⟨_,loadC0 aggFp hc rfl,cw_ ?_⟩
 refine fword_x b o n ?_
 unfold fvP
 rw [hi]
 conv=>whnf
 refine ⟨_,p.ldW ok hi,cw_ ?_⟩
 exact hk
theorem fget_x {b o:Nat} {el:TypeId} {A B:List Value} {f:Csf} (p:Pa h b o el A f.cs B) (ok:f.ok) (n:Int) (lines:Nat) (hl:lines<2 ^ 64) (hk:K (ux (f.get n lines)) h):X Tryz.prog 134 #[.pointer (some ⟨b,o,none⟩),.int .i64 n,ux lines] h K:=by
 refine X.forget ?_
 have hfin:∀ v h',v=ux (f.get n lines)→h.le h'→∃ g:Hp,g.le h'∧K v g:=fun v h' e hle=>⟨h,hle,e ▸ hk⟩
 clear hk
 refine fnv (args:=_) mixed [] [] [] Tryz.func134 rfl (by kernel_rfl) (cw_ ?_)
 refine new_intro (o:=rowO 170 [.pointer (some ⟨b,o,none⟩)]) (fun c h1 n_c le_c at_c ot_c=>cw_ ?_)
 have p1:=p.le le_c
 refine ⟨_,loadC0 aggFp at_c rfl,cw_ ?_⟩
 unfold Csf.get at hfin
 have hA:∀ m,f.at m<2 ^ 64:=ok.at_lt
 generalize hF:f.at=F at hA hfin
 have ld:∀ (m:Int) (i:Nat) (K':Value→Hp→Prop),idxN m=some i→K' (ux (F m)) h1→X Tryz.prog 247 #[.int .i64 m,.pointer (some ⟨c,0,none⟩)] h1 K':=fun m i K' hi hk'=>get1_x p1 ok at_c m i hi (by rw [hF];exact hk')
 have told:F 836 ||| (lines &&& 2696)<2 ^ 64:=Nat.or_lt_two_pow (hA _) (and_lt hl)
 refine br_ (fun q1=>?_) fun q1=>?_
 ·rw [if_pos q1] at hfin
  conv=>whnf
  refine ld 768 7 _ rfl (cw_ ?_)
  refine sview_x _ (hA _) ?_
  exact hfin _ h1 rfl le_c
 rw [if_neg q1] at hfin
 conv=>whnf
 refine br_ (fun q2=>?_) fun q2=>?_
 ·rw [if_pos q2] at hfin
  conv=>whnf
  refine ld 772 10 _ rfl (cw_ ?_)
  refine ld 771 9 _ rfl (cw_ ?_)
  refine val_by (and64 (hA _) (hA _)) (cw_ ?_)
  exact hfin _ h1 rfl le_c
 rw [if_neg q2] at hfin
 conv=>whnf
 refine br_ (fun q3=>?_) fun q3=>?_
 ·rw [if_pos q3] at hfin
  conv=>whnf
  refine ld 836 17 _ rfl (cw_ ?_)
  refine val_by (and64 hl (show 2696<2 ^ 64 by decide)) (cw_ ?_)
  refine val_by (or64 (hA _) (show lines &&& 2696<2 ^ 64 from and_lt hl)) (cw_ ?_)
  refine ld 771 9 _ rfl (cw_ ?_)
  refine val_by (and64 told (hA _)) (cw_ ?_)
  exact hfin _ h1 (by unfold toldN;rw [hF];rfl) le_c
 rw [if_neg q3] at hfin
 conv=>whnf
 refine br_ (fun q4=>?_) fun q4=>?_
 ·rw [if_pos q4] at hfin
  conv=>whnf
  refine ld 836 17 _ rfl (cw_ ?_)
  refine val_by (and64 hl (show 2696<2 ^ 64 by decide)) (cw_ ?_)
  refine val_by (or64 (hA _) (show lines &&& 2696<2 ^ 64 from and_lt hl)) (cw_ ?_)
  exact hfin _ h1 (by unfold toldN;rw [hF];rfl) le_c
 rw [if_neg q4] at hfin
 conv=>whnf
 refine br_ (fun q5=>?_) fun q5=>?_
 ·rw [if_pos q5] at hfin
  conv=>whnf
  exact hfin _ h1 rfl le_c
 rw [if_neg q5] at hfin
 conv=>whnf
 refine br_ (fun q6=>?_) fun q6=>?_
 ·rw [if_pos q6] at hfin
  conv=>whnf
  refine ld 2816 20 _ rfl ?_
  exact hfin _ h1 rfl le_c
 rw [if_neg q6] at hfin
 conv=>whnf
 refine br_ (fun q7=>?_) fun q7=>?_
 ·rw [if_pos q7] at hfin
  conv=>whnf
  refine ld 2818 21 _ rfl ?_
  exact hfin _ h1 rfl le_c
 rw [if_neg q7] at hfin
 conv=>whnf
 refine br_ (fun q8=>?_) fun q8=>?_
 ·rw [if_pos q8] at hfin
  conv=>whnf
  refine ⟨_,loadC0 aggFp at_c rfl,cw_ ?_⟩
  refine ⟨_,p1.ld 0 aggIn (v:=.int .i64 f.hart) rfl,cw_ ?_⟩
  refine ov_by (toU64 f.hart) (cw_ ?_)
  exact hfin _ h1 rfl le_c
 rw [if_neg q8] at hfin
 conv=>whnf
 refine ⟨_,loadC0 aggFp at_c rfl,cw_ ?_⟩
 refine fword_x b o n ?_
 unfold fvP
 cases hi:idxN n with
 | some i =>
  conv=>whnf
  refine ⟨_,p1.ldW ok hi,cw_ ?_⟩
  exact hfin _ h1 (by rw [← hF];rfl) le_c
 | none =>
  have h0:F n=0:=by rw [← hF];unfold Csf.at;rw [hi]
  conv=>whnf
  exact hfin _ h1 (by rw [h0];rfl) le_c
end
end Go.Proofs.YtdhlpighdlnohaaGreat
namespace Go.Proofs.YtdhlpighdlnohaaGreat
open Go Go.Mid Go.RowKit
attribute [local irreducible] mid
def classN (n:Int):Int:=if 1≤n∧n≤2 then 2 else if 3≤n∧n≤4 then 3 else if 5≤n∧n≤10 then 4 else if 11≤n∧n≤17 then 5 else if 18≤n∧n≤21 then 6 else if (22≤n∧n≤49)∨(54≤n∧n≤66) then 1 else if 50≤n∧n≤51 then 9 else if 67≤n∧n≤88 then 7 else if 89≤n∧n≤94 then 8 else if (52≤n∧n≤53)∨(95≤n∧n≤98) then 10 else 0
section
variable {h:Hp} {K:Value→Hp→Prop}
theorem within_x (a f t:Int) (hk:K (.bool (decide (f≤a∧a≤t))) h):X Tryz.prog 279 #[.int .i64 a,.int .i64 f,.int .i64 t] h K:=by
 refine fnv (args:=_) mixed [] [] [] Tryz.func279 rfl (by kernel_rfl) (cw_ ?_)
 refine br_ (fun q1=>?_) fun q1=>?_
 ·conv=>whnf
  exact kq hk (bI (by rw [Bool.eq_iff_iff];simp;omega))
 ·conv=>whnf
  exact kq hk (bI (by rw [Bool.eq_iff_iff];simp;omega))
theorem class_x (n:Int) (hk:K (.int .i64 (classN n)) h):X Tryz.prog 173 #[.int .i64 n] h K:=by
 unfold classN at hk
 refine fnv (args:=_) mixed [] [] [] Tryz.func173 rfl (by kernel_rfl) (cw_ ?_)
 refine within_x n 1 2 (cw_ ?_)
 refine br_ (fun q0=>?_) fun q0=>?_
 ·rw [if_pos (by omega)] at hk
  conv=>whnf
  exact hk
 rw [if_neg (by omega)] at hk
 conv=>whnf
 refine within_x n 3 4 (cw_ ?_)
 refine br_ (fun q1=>?_) fun q1=>?_
 ·rw [if_pos (by omega)] at hk
  conv=>whnf
  exact hk
 rw [if_neg (by omega)] at hk
 conv=>whnf
 refine within_x n 5 10 (cw_ ?_)
 refine br_ (fun q2=>?_) fun q2=>?_
 ·rw [if_pos (by omega)] at hk
  conv=>whnf
  exact hk
 rw [if_neg (by omega)] at hk
 conv=>whnf
 refine within_x n 11 17 (cw_ ?_)
 refine br_ (fun q3=>?_) fun q3=>?_
 ·rw [if_pos (by omega)] at hk
  conv=>whnf
  exact hk
 rw [if_neg (by omega)] at hk
 conv=>whnf
 refine within_x n 18 21 (cw_ ?_)
 refine br_ (fun q4=>?_) fun q4=>?_
 ·rw [if_pos (by omega)] at hk
  conv=>whnf
  exact hk
 rw [if_neg (by omega)] at hk
 conv=>whnf
 refine within_x n 22 49 (cw_ ?_)
 refine br_ (fun q5=>?_) fun q5=>?_
 ·rw [if_pos (by omega)] at hk
  conv=>whnf
  refine bt_ ?_
  exact hk
 conv=>whnf
 refine within_x n 54 66 (cw_ ?_)
 refine br_ (fun r5=>?_) fun r5=>?_
 ·rw [if_pos (by omega)] at hk
  conv=>whnf
  exact hk
 rw [if_neg (by omega)] at hk
 conv=>whnf
 refine within_x n 50 51 (cw_ ?_)
 refine br_ (fun q6=>?_) fun q6=>?_
 ·rw [if_pos (by omega)] at hk
  conv=>whnf
  exact hk
 rw [if_neg (by omega)] at hk
 conv=>whnf
 refine within_x n 67 88 (cw_ ?_)
 refine br_ (fun q7=>?_) fun q7=>?_
 ·rw [if_pos (by omega)] at hk
  conv=>whnf
  exact hk
 rw [if_neg (by omega)] at hk
 conv=>whnf
 refine within_x n 89 94 (cw_ ?_)
 refine br_ (fun q8=>?_) fun q8=>?_
 ·rw [if_pos (by omega)] at hk
  conv=>whnf
  exact hk
 rw [if_neg (by omega)] at hk
 conv=>whnf
 refine within_x n 52 53 (cw_ ?_)
 refine br_ (fun q9=>?_) fun q9=>?_
 ·rw [if_pos (by omega)] at hk
  conv=>whnf
  refine bt_ ?_
  exact hk
 conv=>whnf
 refine within_x n 95 98 (cw_ ?_)
 refine br_ (fun r9=>?_) fun r9=>?_
 ·rw [if_pos (by omega)] at hk
  conv=>whnf
  exact hk
 rw [if_neg (by omega)] at hk
 conv=>whnf
 exact hk
end
end Go.Proofs.YtdhlpighdlnohaaGreat
namespace Go.Proofs.YtdhlpighdlnohaaGreat
open Go Go.Mid Go.RowKit Go.Bits
attribute [local irreducible] mid
theorem put_is {f:Csf} {n:Int} {i:Nat} (hi:idxN n=some i) (v:Nat):f.put n v={ f with w:=f.w.set i v }:=by unfold Csf.put;rw [hi]
theorem put_no {f:Csf} {n:Int} (hi:idxN n=none) (v:Nat):f.put n v=f:=by unfold Csf.put;rw [hi]
theorem cs_put {f:Csf} (hl:f.w.length=22) {n:Int} {i:Nat} (hi:idxN n=some i) (v:Nat):f.cs.set (1+i) (.int .u64 v)=(f.put n v).cs:=by
 have:=idx_lt hi
 rw [put_is hi]
 unfold Csf.cs
 rw [List.set_append_right _ _ (by show 1≤1+i;omega),show 1+i - [Value.int .i64 f.hart].length=i by show 1+i - 1=i;omega,List.set_append_left _ _ (by rw [List.length_map];omega),List.map_set]
theorem cs_cl {f:Csf} (hl:f.w.length=22) (b:Bool):f.cs.set 23 (.bool b)=({ f with cl:=b }).cs:=by
 unfold Csf.cs
 rw [List.set_append_right _ _ (by show 1≤23;decide),List.set_append_right _ _ (by rw [List.length_map,hl];show 22≤23 - 1;decide),List.length_map,hl]
 rfl
theorem cs_il {f:Csf} (hl:f.w.length=22) (b:Bool):f.cs.set 24 (.bool b)=({ f with il:=b }).cs:=by
 unfold Csf.cs
 rw [List.set_append_right _ _ (by show 1≤24;decide),List.set_append_right _ _ (by rw [List.length_map,hl];show 22≤24 - 1;decide),List.length_map,hl]
 rfl
theorem cs_get {f:Csf} (hl:f.w.length=22):f.cs[23]? = some (.bool f.cl)∧f.cs[24]? = some (.bool f.il):=by
 unfold Csf.cs
 constructor
 ·rw [List.getElem?_append_right (by show 1≤23;decide),List.getElem?_append_right (by rw [List.length_map,hl];show 22≤23 - 1;decide),List.length_map,hl];rfl
 ·rw [List.getElem?_append_right (by show 1≤24;decide),List.getElem?_append_right (by rw [List.length_map,hl];show 22≤24 - 1;decide),List.length_map,hl];rfl
theorem Csf.ok.put {f:Csf} (ok:f.ok) (n:Int) {v:Nat} (hv:v<2 ^ 64):(f.put n v).ok:=by
 cases hi:idxN n with
 | none=>rw [put_no hi];exact ok
 | some i =>
  rw [put_is hi]
  exact ⟨by rw [List.length_set];exact ok.len,fun x hx=>by
   rcases List.mem_or_eq_of_mem_set hx with hx | rfl
   ·exact ok.lt x hx
   ·exact hv⟩
theorem legal_lt {n:Int} {old v:Nat} (ho:old<2 ^ 64) (hv:v<2 ^ 64):legalN n old v<2 ^ 64:=by
 have h0:legal0 n old v<2 ^ 64:=legal0_lt hv
 unfold legalN
 split
 ·split
  ·exact Nat.or_lt_two_pow (andN_lt _ _) (and_lt ho)
  ·exact h0
 ·split
  ·split
   ·exact ho
   ·exact h0
  ·exact h0
theorem Csf.ok.set {f:Csf} (ok:f.ok) (n:Int) {v:Nat} (hv:v<2 ^ 64):(f.set n v).ok:=by
 have ha:=ok.at_lt
 unfold Csf.set
 split
 ·exact ok.put _ (legal_lt (ha _) hv)
 ·split
  ·exact ok.put _ (Nat.or_lt_two_pow (andN_lt _ _) (and_lt hv))
  ·split
   ·exact ok.put _ (Nat.or_lt_two_pow (andN_lt _ _) (and_lt (and_lt hv)))
   ·exact Csf.ok.put (f:={ f with cl:=f.cl || decide (n=2816),il:=f.il || decide (n=2818) }) ⟨ok.len,ok.lt⟩ _ (legal_lt (ha _) hv)
section
variable {h:Hp} {K:Value→Hp→Prop}
theorem sizB6:sizeT Tryz.prog 4 = some 1:=by kernel_rfl
theorem aggB6:isAggT Tryz.prog 4 = some false:=by kernel_rfl
theorem Pa.stW {b o:Nat} {el:TypeId} {A B:List Value} {f:Csf} (p:Pa h b o el A f.cs B) (ok:f.ok) {n:Int} {i:Nat} (hi:idxN n=some i) (v:Nat):storeH Tryz.prog 25 h ⟨b,o+1+i,none⟩ (ux v)=some (b,rowO el (A++((f.put n v).cs++B))):=by
 rw [← cs_put ok.len hi]
 have:=idx_lt hi
 exact p.st (1+i) sizU6 (by rw [cs_len ok.len];omega) rfl rfl (by rw [Nat.add_assoc])
theorem fset_x {b o:Nat} {el:TypeId} {A B:List Value} {f:Csf} (p:Pa h b o el A f.cs B) (ok:f.ok) (n:Int) (v:Nat) (hv:v<2 ^ 64) (hk:∀ h',Pa h' b o el A (f.set n v).cs B→(∀ d,d≠b→h' d=h d)→K (.tuple #[]) h'):X Tryz.prog 141 #[.pointer (some ⟨b,o,none⟩),.int .i64 n,ux v] h K:=by
 have ha:=ok.at_lt
 unfold Csf.set at hk
 have wp:∀ (m:Int) (i:Nat) (K':Value→Hp→Prop) (h':Hp),idxN m=some i→K' (.pointer (some ⟨b,o+1+i,none⟩)) h'→X Tryz.prog 77 #[.pointer (some ⟨b,o,none⟩),.int .i64 m] h' K':=fun m i K' h' hi hk'=>fword_x b o m (by unfold fvP;rw [hi];exact hk')
 refine fnv (args:=_) mixed [] [] [] Tryz.func141 rfl (by kernel_rfl) (cw_ ?_)
 refine wp 771 9 _ _ rfl (cw_ ?_)
 refine ⟨_,p.ldW ok (n:=771) rfl,cw_ ?_⟩
 refine br_ (fun q1=>?_) fun q1=>?_
 ·rw [if_pos q1] at hk
  conv=>whnf
  refine wp 768 7 _ _ rfl (cw_ ?_)
  refine ⟨_,p.ldW ok (n:=768) rfl,cw_ ?_⟩
  refine slay_x _ v (ok.at_lt _) hv (cw_ ?_)
  refine wr_intro (by exact p.stW ok (n:=768) rfl _) (fun h1 at_h1 ot_h1=>cw_ ?_)
  exact hk h1 ⟨at_h1,p.len⟩ ot_h1
 rw [if_neg q1] at hk
 conv=>whnf
 refine br_ (fun q2=>?_) fun q2=>?_
 ·rw [if_pos q2] at hk
  conv=>whnf
  refine wp 772 10 _ _ rfl (cw_ ?_)
  refine ⟨_,p.ldW ok (n:=772) rfl,cw_ ?_⟩
  refine val_by (andNot64 (ok.at_lt _) (ok.at_lt _)) (cw_ ?_)
  refine val_by (and64 hv (ok.at_lt _)) (cw_ ?_)
  refine val_by (or64 (andN_lt _ _) (show v &&& f.at 771<2 ^ 64 from and_lt hv)) (cw_ ?_)
  refine wr_intro (by exact p.stW ok (n:=772) rfl _) (fun h1 at_h1 ot_h1=>cw_ ?_)
  exact hk h1 ⟨at_h1,p.len⟩ ot_h1
 rw [if_neg q2] at hk
 conv=>whnf
 refine br_ (fun q3=>?_) fun q3=>?_
 ·rw [if_pos q3] at hk
  conv=>whnf
  refine wp 836 17 _ _ rfl (cw_ ?_)
  refine ⟨_,p.ldW ok (n:=836) rfl,cw_ ?_⟩
  refine val_by (and64 (ok.at_lt _) (show 2<2 ^ 64 by decide)) (cw_ ?_)
  refine val_by (andNot64 (ok.at_lt _) (show f.at 771 &&& 2<2 ^ 64 from and_lt (ok.at_lt _))) (cw_ ?_)
  refine val_by (and64 hv (ok.at_lt _)) (cw_ ?_)
  refine val_by (and64 (show v &&& f.at 771<2 ^ 64 from and_lt hv) (show 2<2 ^ 64 by decide)) (cw_ ?_)
  refine val_by (or64 (andN_lt _ _) (show v &&& f.at 771 &&& 2<2 ^ 64 from and_lt (and_lt hv))) (cw_ ?_)
  refine wr_intro (by exact p.stW ok (n:=836) rfl _) (fun h1 at_h1 ot_h1=>cw_ ?_)
  exact hk h1 ⟨at_h1,p.len⟩ ot_h1
 rw [if_neg q3] at hk
 have last:∀ (g:Csf) (h':Hp),Pa h' b o el A g.cs B→g.ok→g.at n=f.at n→g={ f with cl:=f.cl || decide (n=2816),il:=f.il || decide (n=2818) }→(∀ d,d≠b→h' d=h d)→∀ h1,(h1 b=some (rowO el (A++((g.put n (legalN n (g.at n) v)).cs++B))))→(∀ d,d≠b→h1 d=h' d)→K (.tuple #[]) h1:=fun g h' pg og eg e o1 h1 a1 o2=>hk h1 ⟨by rw [← e,← eg];exact a1,p.len⟩ fun d hd=>(o2 d hd).trans (o1 d hd)
 have last0:∀ (g:Csf) (h':Hp),Pa h' b o el A g.cs B→idxN n=none→g={ f with cl:=f.cl || decide (n=2816),il:=f.il || decide (n=2818) }→(∀ d,d≠b→h' d=h d)→K (.tuple #[]) h':=fun g h' pg hi e o1=>hk h' ⟨by rw [put_no hi,← e];exact pg.row,p.len⟩ o1
 clear hk
 conv=>whnf
 refine br_ (fun q4=>?_) fun q4=>?_
 ·conv=>whnf
  refine wr_intro (by exact p.st 23 sizB6 (by rw [cs_len ok.len];decide) rfl rfl) (fun h1 at_h1 ot_h1=>cw_ ?_)
  have pg:Pa h1 b o el A ({ f with cl:=true }).cs B:=⟨by rw [← cs_cl ok.len];exact at_h1,p.len⟩
  have og:({ f with cl:=true }:Csf).ok:=⟨ok.len,ok.lt⟩
  have e:({ f with cl:=true }:Csf)={ f with cl:=f.cl || decide (n=2816),il:=f.il || decide (n=2818) }:=by simp [q4]
  have eg:({ f with cl:=true }:Csf).at n=f.at n:=rfl
  have o1:=ot_h1
  generalize hg:({ f with cl:=true }:Csf)=g at pg og e eg
  clear hg at_h1 ot_h1
  refine fword_x b o n ?_
  unfold fvP
  cases hi:idxN n with
  | some i =>
   conv=>whnf
   refine ⟨_,pg.ldW og hi,cw_ ?_⟩
   refine csrlegal_x n _ v (og.at_lt _) hv (cw_ ?_)
   refine wr_intro (by exact pg.stW og hi _) (fun h2 at_h2 ot_h2=>cw_ ?_)
   exact last g h1 pg og eg e o1 h2 at_h2 ot_h2
  | none =>
   conv=>whnf
   exact last0 g h1 pg hi e o1
 ·conv=>whnf
  refine br_ (fun q5=>?_) fun q5=>?_
  ·conv=>whnf
   refine wr_intro (by exact p.st 24 sizB6 (by rw [cs_len ok.len];decide) rfl rfl) (fun h1 at_h1 ot_h1=>cw_ ?_)
   have pg:Pa h1 b o el A ({ f with il:=true }).cs B:=⟨by rw [← cs_il ok.len];exact at_h1,p.len⟩
   have og:({ f with il:=true }:Csf).ok:=⟨ok.len,ok.lt⟩
   have e:({ f with il:=true }:Csf)={ f with cl:=f.cl || decide (n=2816),il:=f.il || decide (n=2818) }:=by simp [q5]
   have eg:({ f with il:=true }:Csf).at n=f.at n:=rfl
   have o1:=ot_h1
   generalize hg:({ f with il:=true }:Csf)=g at pg og e eg
   clear hg at_h1 ot_h1
   refine fword_x b o n ?_
   unfold fvP
   cases hi:idxN n with
   | some i =>
    conv=>whnf
    refine ⟨_,pg.ldW og hi,cw_ ?_⟩
    refine csrlegal_x n _ v (og.at_lt _) hv (cw_ ?_)
    refine wr_intro (by exact pg.stW og hi _) (fun h2 at_h2 ot_h2=>cw_ ?_)
    exact last g h1 pg og eg e o1 h2 at_h2 ot_h2
   | none =>
    conv=>whnf
    exact last0 g h1 pg hi e o1
  ·have e:f={ f with cl:=f.cl || decide (n=2816),il:=f.il || decide (n=2818) }:=by simp [q4,q5]
   have eg:f.at n=f.at n:=rfl
   have pg:=p
   have og:=ok
   have o1:∀ d,d≠b→h d=h d:=fun _ _=>rfl
   conv=>whnf
   refine fword_x b o n ?_
   unfold fvP
   cases hi:idxN n with
   | some i =>
    conv=>whnf
    refine ⟨_,pg.ldW og hi,cw_ ?_⟩
    refine csrlegal_x n _ v (og.at_lt _) hv (cw_ ?_)
    refine wr_intro (by exact pg.stW og hi _) (fun h2 at_h2 ot_h2=>cw_ ?_)
    exact last f h pg og eg e o1 h2 at_h2 ot_h2
   | none =>
    conv=>whnf
    exact last0 f h pg hi e o1
end
end Go.Proofs.YtdhlpighdlnohaaGreat
