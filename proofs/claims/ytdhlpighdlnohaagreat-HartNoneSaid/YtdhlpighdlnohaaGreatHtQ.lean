/-
  A hart: what was posted to it; what it is told, whole.
-/
import Derived.Test.YtdhlpighdlnohaaGreatHtN
set_option linter.unusedSimpArgs false
set_option linter.unusedVariables false
set_option maxHeartbeats 8000000
set_option maxRecDepth 10000
set_option linter.unusedSimpArgs false
set_option linter.unusedVariables false
namespace Go.Proofs.YtdhlpighdlnohaaGreat
open Go Go.Mid Go.RowKit Go.Bits
attribute [local irreducible] mid
section
set_option maxHeartbeats 16000000
variable {k h:Hp} {K:Value→Hp→Prop} {b:Nat} {H:Hd}
theorem aggHp:isAggT Tryz.prog 31 = some false:=by kernel_rfl
theorem aggCau:isAggT Tryz.prog 130 = some true:=by kernel_rfl
theorem sizCau:sizeT Tryz.prog 130 = some 2:=by kernel_rfl
theorem hlets_x {t1 t2:Nat} {nm:Str} {bit:Nat} (hasX:∀ {K:Value→Hp→Prop} (w:Nat),w<2 ^ 64→K (.bool (bitB w bit)) h→X Tryz.prog 186 #[ux w,.string (bs nm)] h K) (n:HaN k h b H) (h1:h t1=some (rowO 31 [.pointer (some ⟨b,0,none⟩)])) (h2:h t2=some (rowO 25 [ux (H.f.at 768)])) (hk:K (.bool (H.lets bit)) h):X Tryz.prog 185 #[.string (bs nm),.pointer (some ⟨t1,0,none⟩),.pointer (some ⟨t2,0,none⟩)] h K:=by
 obtain ⟨c,s,r,ht,up⟩:=n.row
 have o:=n.inv.ok
 have hw:=o.f.at_lt 768
 unfold Hd.lets at hk
 obtain ⟨p,hp⟩:∃ p,H.priv=p:=⟨_,rfl⟩
 have l1:(H.z c s)[1]? = some (.int .i64 p):=by rw [← hp];rfl
 rw [hp] at hk
 refine fnv (args:=_) mixed [] [] [] Tryz.func185 rfl (by kernel_rfl) (cw_ ?_)
 refine ⟨_,loadC0 aggHp h1 rfl,cw_ ?_⟩
 refine ⟨_,(r.z o.len).ld 1 aggPv l1,cw_ ?_⟩
 by_cases q3:p=3
 ·subst q3
  conv=>whnf
  exact hk
 ·rw [show (p==3)=false by simpa using q3]
  rw [decide_eq_false q3,Bool.false_or] at hk
  conv=>whnf
  refine ⟨_,loadC0 aggHp h1 rfl,cw_ ?_⟩
  refine ⟨_,(r.z o.len).ld 1 aggPv l1,cw_ ?_⟩
  by_cases q1:p=1
  ·subst q1
   rw [decide_eq_true rfl,Bool.true_and] at hk
   conv=>whnf
   refine ⟨_,loadC0 aggU h2 rfl,cw_ ?_⟩
   refine hasX _ hw (cw_ ?_)
   exact hk
  ·rw [show (p==1)=false by simpa using q1]
   rw [decide_eq_false q1,Bool.false_and] at hk
   conv=>whnf
   exact hk
theorem letsTsr_x {t1 t2:Nat} {v:Bool} (n:HaN k h b H) (h1:h t1=some (rowO 31 [.pointer (some ⟨b,0,none⟩)])) (h2:h t2=some (rowO 25 [ux (H.f.at 768)])) (e:H.lets 22=v) (hk:K (.bool v) h):X Tryz.prog 185 #[.string (bs [116,115,114]),.pointer (some ⟨t1,0,none⟩),.pointer (some ⟨t2,0,none⟩)] h K:=hlets_x (bit:=22) (fun w hw hk=>shasTsr_x w hw hk) n h1 h2 (by rw [e];exact hk)
theorem letsTw_x {t1 t2:Nat} {v:Bool} (n:HaN k h b H) (h1:h t1=some (rowO 31 [.pointer (some ⟨b,0,none⟩)])) (h2:h t2=some (rowO 25 [ux (H.f.at 768)])) (e:H.lets 21=v) (hk:K (.bool v) h):X Tryz.prog 185 #[.string (bs [116,119]),.pointer (some ⟨t1,0,none⟩),.pointer (some ⟨t2,0,none⟩)] h K:=hlets_x (bit:=21) (fun w hw hk=>shasTw_x w hw hk) n h1 h2 (by rw [e];exact hk)
theorem letsTvm_x {t1 t2:Nat} {v:Bool} (n:HaN k h b H) (h1:h t1=some (rowO 31 [.pointer (some ⟨b,0,none⟩)])) (h2:h t2=some (rowO 25 [ux (H.f.at 768)])) (e:H.lets 20=v) (hk:K (.bool v) h):X Tryz.prog 185 #[.string (bs [116,118,109]),.pointer (some ⟨t1,0,none⟩),.pointer (some ⟨t2,0,none⟩)] h K:=hlets_x (bit:=20) (fun w hw hk=>shasTvm_x w hw hk) n h1 h2 (by rw [e];exact hk)
theorem Hd.inv.parked {H:Hd} (i:H.inv) (q:Bool):({ H with parked:=q }:Hd).inv:={ i with ok:=⟨i.ok.r,i.ok.rw,i.ok.f,i.ok.pc⟩ }
theorem hsystem_x (n:HaN k h b H) (hl:H.told.length≤2 ^ 20) (hk:∀ h',HaN k h' b (H.system tbT)→K (.tuple #[]) h'):X Tryz.prog 103 #[.pointer (some ⟨b,0,none⟩)] h K:=by
 unfold Hd.system csrOpB at hk
 obtain ⟨op,eop⟩:∃ op,H.t.x.op=op:=⟨_,rfl⟩
 obtain ⟨p,hp⟩:∃ p,H.priv=p:=⟨_,rfl⟩
 obtain ⟨v22,e22⟩:∃ v,H.lets 22=v:=⟨_,rfl⟩
 obtain ⟨v21,e21⟩:∃ v,H.lets 21=v:=⟨_,rfl⟩
 obtain ⟨v20,e20⟩:∃ v,H.lets 20=v:=⟨_,rfl⟩
 rw [eop,hp,e22,e21,e20] at hk
 have h8:=class8 op
 obtain ⟨cl,ecl⟩:∃ c,classN op=c:=⟨_,rfl⟩
 rw [ecl] at h8
 refine fnv (args:=_) mixed [] [] [] Tryz.func103 rfl (by kernel_rfl) (cw_ ?_)
 refine new_intro (o:=rowO 31 [.pointer (some ⟨b,0,none⟩)]) (fun t1 g1 n_t1 le_t1 at_t1 ot_t1=>cw_ ?_)
 have n1:=n.up le_t1
 obtain ⟨c,s,r,ht,up⟩:=n1.row
 have o:=n1.inv.ok
 have l24:(H.z c s)[24]? = some (.int .i64 op):=by rw [← eop];rfl
 have l1:(H.z c s)[1]? = some (.int .i64 p):=by rw [← hp];rfl
 refine ⟨_,loadC0 aggHp at_t1 rfl,cw_ ?_⟩
 refine ⟨_,(r.z o.len).ld 24 aggOp l24,cw_ ?_⟩
 refine classE_x op ecl (cw_ ?_)
 refine br_ (fun q8=>?_) fun q8=>?_
 ·rw [if_pos (by rw [decide_eq_true (h8 ▸ q8)])] at hk
  conv=>whnf
  refine ⟨_,loadC0 aggHp at_t1 rfl,cw_ ?_⟩
  refine hcontrol_x n1 hl fun h2 n2=>(cw_ ?_)
  exact hk h2 n2
 rw [if_neg (by rw [decide_eq_false (h8 ▸ q8)];decide)] at hk
 conv=>whnf
 refine ⟨_,loadC0 aggHp at_t1 rfl,cw_ ?_⟩
 refine hstate_x n1 (cw_ ?_)
 refine new_intro (o:=rowO 25 [ux 0]) (fun t2 g2 n_t2 le_t2 at_t2 ot_t2=>cw_ ?_)
 refine wr_intro (by exact storeC0 sizU at_t2 (by decide) rfl rfl) (fun g3 at_g3 ot_g3=>cw_ ?_)
 have le3:g1.le g3:=Hp.le_st n_t2 le_t2 ot_g3
 have n3:=n1.up le3
 have at3:=le3 _ _ at_t1
 obtain ⟨c3,s3,r3,ht3,up3⟩:=n3.row
 have k24:(H.z c3 s3)[24]? = some (.int .i64 op):=by rw [← eop];rfl
 have k1:(H.z c3 s3)[1]? = some (.int .i64 p):=by rw [← hp];rfl
 clear r l24 l1 ht up
 have nop:∀ {x y:Int} {A:Prop},x≠y→¬ (x=y∧A):=fun hn e=>hn e.1
 by_cases c95:op=95
 ·subst c95
  rw [if_neg (nop (x:=95) (y:=96) (by decide)),if_neg (nop (x:=95) (y:=97) (by decide)),if_neg (nop (x:=95) (y:=98) (by decide))] at hk
  refine ⟨_,loadC0 aggHp at3 rfl,cw_ ?_⟩
  refine ⟨_,(r3.z o.len).ld 24 aggOp k24,cw_ ?_⟩
  refine ⟨_,loadC0 aggHp at3 rfl,cw_ ?_⟩
  refine ⟨_,(r3.z o.len).ld 1 aggPv k1,cw_ ?_⟩
  by_cases p3:p=3
  ·rw [if_pos ⟨rfl,p3⟩] at hk
   refine bt_ ?_ (by simpa using p3)
   refine ⟨_,loadC0 aggHp at3 rfl,cw_ ?_⟩
   refine hleave_x n3 3 (.inr rfl) fun h4 n4=>(cw_ ?_)
   exact hk h4 n4
  ·rw [if_neg (fun e=>p3 e.2)] at hk
   refine bf_ ?_ (by simpa using p3)
   refine ⟨_,loadC0 aggHp at3 rfl,cw_ ?_⟩
   refine ⟨_,(r3.z o.len).ld 24 aggOp k24,cw_ ?_⟩
   refine ⟨_,loadC0 aggHp at3 rfl,cw_ ?_⟩
   refine ⟨_,(r3.z o.len).ld 24 aggOp k24,cw_ ?_⟩
   refine ⟨_,loadC0 aggHp at3 rfl,cw_ ?_⟩
   refine ⟨_,(r3.z o.len).ld 24 aggOp k24,cw_ ?_⟩
   refine ⟨_,loadC0 aggHp at3 rfl,cw_ ?_⟩
   refine hillegal_x n3 fun h4 n4=>(cw_ ?_)
   exact hk h4 n4
 rw [if_neg (nop c95)] at hk
 by_cases c96:op=96
 ·subst c96
  rw [if_neg (nop (x:=96) (y:=97) (by decide)),if_neg (nop (x:=96) (y:=98) (by decide))] at hk
  refine ⟨_,loadC0 aggHp at3 rfl,cw_ ?_⟩
  refine ⟨_,(r3.z o.len).ld 24 aggOp k24,cw_ ?_⟩
  refine ⟨_,loadC0 aggHp at3 rfl,cw_ ?_⟩
  refine ⟨_,(r3.z o.len).ld 24 aggOp k24,cw_ ?_⟩
  refine letsTsr_x n3 at3 at_g3 e22 ?_
  cases v22 with
  | true =>
   rw [if_pos ⟨rfl,rfl⟩] at hk
   conv=>whnf
   refine ⟨_,loadC0 aggHp at3 rfl,cw_ ?_⟩
   refine hleave_x n3 1 (.inl rfl) fun h4 n4=>(cw_ ?_)
   exact hk h4 n4
  | false =>
   rw [if_neg (fun e=>by cases e.2)] at hk
   conv=>whnf
   refine ⟨_,loadC0 aggHp at3 rfl,cw_ ?_⟩
   refine ⟨_,(r3.z o.len).ld 24 aggOp k24,cw_ ?_⟩
   refine ⟨_,loadC0 aggHp at3 rfl,cw_ ?_⟩
   refine ⟨_,(r3.z o.len).ld 24 aggOp k24,cw_ ?_⟩
   refine ⟨_,loadC0 aggHp at3 rfl,cw_ ?_⟩
   refine hillegal_x n3 fun h4 n4=>(cw_ ?_)
   exact hk h4 n4
 rw [if_neg (nop c96)] at hk
 by_cases c97:op=97
 ·subst c97
  rw [if_neg (nop (x:=97) (y:=98) (by decide))] at hk
  refine ⟨_,loadC0 aggHp at3 rfl,cw_ ?_⟩
  refine ⟨_,(r3.z o.len).ld 24 aggOp k24,cw_ ?_⟩
  refine ⟨_,loadC0 aggHp at3 rfl,cw_ ?_⟩
  refine ⟨_,(r3.z o.len).ld 24 aggOp k24,cw_ ?_⟩
  refine ⟨_,loadC0 aggHp at3 rfl,cw_ ?_⟩
  refine ⟨_,(r3.z o.len).ld 24 aggOp k24,cw_ ?_⟩
  refine letsTw_x n3 at3 at_g3 e21 ?_
  cases v21 with
  | true =>
   rw [if_pos ⟨rfl,rfl⟩] at hk
   conv=>whnf
   refine ⟨_,loadC0 aggHp at3 rfl,cw_ ?_⟩
   refine wr_intro (by exact (r3.z o.len).st 4 sizB6 (by show 4<71;decide) rfl rfl) (fun g4 at_g4 ot_g4=>cw_ ?_)
   have m4:HaN k g4 b { H with parked:=true }:=HaN.turn1 up3 rfl o.len at_g4 ot_g4 (n3.inv.parked true) rfl rfl rfl
   have hne:t1≠b:=fun e=>by
    obtain ⟨_,_,rb,_⟩:=n.row
    rw [e,(show h b=some _ from rb)] at n_t1;cases n_t1
   have at4:g4 t1=some (rowO 31 [.pointer (some ⟨b,0,none⟩)]):=(ot_g4 t1 hne).trans at3
   obtain ⟨c4,s4,r4,ht4,up4⟩:=m4.row
   refine ⟨_,loadC0 aggHp at4 rfl,cw_ ?_⟩
   refine ⟨_,loadC0 aggHp at4 rfl,cw_ ?_⟩
   refine ⟨_,(r4.z m4.inv.ok.len).ld 0 aggU rfl,cw_ ?_⟩
   refine ov_by (n4_eq H.pc) (cw_ ?_)
   refine hretire_x m4 (n4 H.pc) (n4_lt _) fun h5 n5=>?_
   refine ⟨trivial,cw_ ?_⟩
   exact hk h5 (by rw [← hp];exact n5)
  | false =>
   rw [if_neg (fun e=>by cases e.2)] at hk
   conv=>whnf
   refine ⟨_,loadC0 aggHp at3 rfl,cw_ ?_⟩
   refine ⟨_,(r3.z o.len).ld 24 aggOp k24,cw_ ?_⟩
   refine ⟨_,loadC0 aggHp at3 rfl,cw_ ?_⟩
   refine hillegal_x n3 fun h4 n4=>(cw_ ?_)
   exact hk h4 n4
 rw [if_neg (nop c97)] at hk
 by_cases c98:op=98
 ·subst c98
  refine ⟨_,loadC0 aggHp at3 rfl,cw_ ?_⟩
  refine ⟨_,(r3.z o.len).ld 24 aggOp k24,cw_ ?_⟩
  refine ⟨_,loadC0 aggHp at3 rfl,cw_ ?_⟩
  refine ⟨_,(r3.z o.len).ld 24 aggOp k24,cw_ ?_⟩
  refine ⟨_,loadC0 aggHp at3 rfl,cw_ ?_⟩
  refine ⟨_,(r3.z o.len).ld 24 aggOp k24,cw_ ?_⟩
  refine ⟨_,loadC0 aggHp at3 rfl,cw_ ?_⟩
  refine ⟨_,(r3.z o.len).ld 24 aggOp k24,cw_ ?_⟩
  refine letsTvm_x n3 at3 at_g3 e20 ?_
  cases v20 with
  | true =>
   rw [if_pos ⟨rfl,rfl⟩] at hk
   conv=>whnf
   refine ⟨_,loadC0 aggHp at3 rfl,cw_ ?_⟩
   refine hfence_x n3 hl fun h4 n4=>(cw_ ?_)
   exact hk h4 n4
  | false =>
   rw [if_neg (fun e=>by cases e.2)] at hk
   conv=>whnf
   refine ⟨_,loadC0 aggHp at3 rfl,cw_ ?_⟩
   refine hillegal_x n3 fun h4 n4=>(cw_ ?_)
   exact hk h4 n4
 rw [if_neg (nop c98)] at hk
 refine ⟨_,loadC0 aggHp at3 rfl,cw_ ?_⟩
 refine ⟨_,(r3.z o.len).ld 24 aggOp k24,cw_ ?_⟩
 rw [show (op==95)=false by simpa using c95]
 conv=>whnf
 refine ⟨_,loadC0 aggHp at3 rfl,cw_ ?_⟩
 refine ⟨_,(r3.z o.len).ld 24 aggOp k24,cw_ ?_⟩
 rw [show (op==96)=false by simpa using c96]
 conv=>whnf
 refine ⟨_,loadC0 aggHp at3 rfl,cw_ ?_⟩
 refine ⟨_,(r3.z o.len).ld 24 aggOp k24,cw_ ?_⟩
 rw [show (op==97)=false by simpa using c97]
 conv=>whnf
 refine ⟨_,loadC0 aggHp at3 rfl,cw_ ?_⟩
 refine ⟨_,(r3.z o.len).ld 24 aggOp k24,cw_ ?_⟩
 rw [show (op==98)=false by simpa using c98]
 conv=>whnf
 refine ⟨_,loadC0 aggHp at3 rfl,cw_ ?_⟩
 refine hillegal_x n3 fun h4 n4=>(cw_ ?_)
 exact hk h4 n4
def DecX (dec:Nat→Option Ins):Prop:=∀ (w:Nat) (h:Hp) (K:Value→Hp→Prop),w<2 ^ 32→K (match dec w with
 | some x=>.tuple #[.agg x.cs.toArray,.bool true]
 | none=>.tuple #[.agg Ins.zero.cs.toArray,.bool false]) h→X Tryz.prog 99 #[.int .u32 w] h K
theorem iteLt {p:Prop} [Decidable p] {a b n:Nat} (h1:a<n) (h2:b<n):(if p then a else b)<n:=by split <;> assumption
theorem aluN_lt (op:Int) {a b:Nat} (ha:a<2 ^ 64) (hb:b<2 ^ 64):aluN op a b<2 ^ 64:=by
 have hm:∀ m,m % 18446744073709551616<2 ^ 64:=fun m=>Nat.mod_lt _ (by decide)
 have hdv:∀ m,a / m<2 ^ 64:=fun m=>Nat.lt_of_le_of_lt (Nat.div_le_self _ _) ha
 unfold aluN
 repeat' refine iteLt ?_ ?_
 all_goals first
  | exact hm _
  | exact ofI_lt _
  | exact word_lt64 _
  | exact hdv _
  | exact ha
  | exact Nat.lt_of_le_of_lt (Nat.mod_le _ _) ha
  | exact mulN_lt _ _
  | exact divN_lt _ _
  | exact divuN_lt ha
  | exact remN_lt ha
  | exact remuN_lt ha
  | exact Nat.xor_lt_two_pow ha hb
  | exact Nat.or_lt_two_pow ha hb
  | exact Nat.lt_of_le_of_lt Nat.and_le_left ha
  | decide
  | (refine Nat.div_lt_of_lt_mul ?_;exact Nat.lt_of_lt_of_le (Nat.mul_lt_mul'' ha hb) (by decide))
theorem exec_ok {x:Ins} {pc:Nat} {r:List Nat} {p:Int} (hr:∀ n ∈ r,n<2 ^ 64) (hp:pc<2 ^ 64):(execE x pc r p).ok:=by
 have ha:=regN_lt hr x.rs1
 have hb:=regN_lt hr x.rs2
 have h4:=n4_lt pc
 have hm:∀ m,m % 18446744073709551616<2 ^ 64:=fun m=>Nat.mod_lt _ (by decide)
 have hbm:∀ m,regN r x.rs2 % m<2 ^ 64:=fun m=>Nat.lt_of_le_of_lt (Nat.mod_le _ _) hb
 have hos:(opSize x.op:Int)≤8:=by rcases opSize_or x.op with e | e | e | e | e <;> rw [e] <;> decide
 have z:(0:Nat)<2 ^ 64:=by decide
 have z8:(0:Int)≤0∧(0:Int)≤8:=by decide
 have hj:∀ to link:Nat,to<2 ^ 64→link<2 ^ 64→(jumpE x to link).ok:=fun to link h1 h2=>by
  unfold jumpE
  split
  ·exact ⟨z,z,h1,z,z,.inl rfl,z8⟩
  ·split
   ·exact ⟨h2,h1,z,z,z,.inl rfl,z8⟩
   ·exact ⟨z,h1,z,z,z,.inl rfl,z8⟩
 unfold execE
 simp only
 split
 ·exact ⟨aluN_lt _ ha (by split;exact ofI_lt _;exact hb),h4,z,z,z,.inl rfl,z8⟩
 split
 ·refine ⟨?_,h4,z,z,z,.inl rfl,z8⟩
  show upN _ _ _<_
  unfold upN
  split
  ·exact ofI_lt _
  ·exact hm _
 split
 ·split
  ·exact hj _ _ (target_lt _ _ _ _) h4
  ·exact ⟨z,h4,z,z,z,.inl rfl,z8⟩
 split
 ·exact hj _ _ (target_lt _ _ _ _) h4
 split
 ·exact ⟨z,h4,z,hm _,z,.inr (.inl rfl),Int.natCast_nonneg _,hos⟩
 split
 ·exact ⟨z,h4,z,hm _,hbm _,.inr (.inr rfl),Int.natCast_nonneg _,hos⟩
 split
 ·unfold atomE
  split
  ·exact ⟨z,z,ha,z,z,.inl rfl,z8⟩
  ·refine ⟨z,h4,z,ha,?_,?_,Int.natCast_nonneg _,hos⟩
   ·show (if _ then 0 else _)<_
    split
    ·exact z
    ·exact hbm _
   ·show (if linkB x.op then (1:Int) else 2)=0∨_∨_
    split
    ·exact .inr (.inl rfl)
    ·exact .inr (.inr rfl)
 split
 ·exact ⟨z,h4,z,z,z,.inl rfl,z8⟩
 split
 ·exact ⟨z,z,z,z,z,.inl rfl,z8⟩
 split
 ·exact ⟨z,z,hp,z,z,.inl rfl,z8⟩
 ·exact ef0_ok
theorem hdecode_x {dec:Nat→Option Ins} (hdec:DecX dec) (n:HaN k h b H) (hl:H.told.length+3+3≤2 ^ 19) (hk:∀ h',HaN k h' b (H.decode tbT fitsN dec)→K (.tuple #[]) h'):X Tryz.prog 54 #[.pointer (some ⟨b,0,none⟩)] h K:=by
 obtain ⟨c,s,r,ht,up⟩:=n.row
 have i:=n.inv
 have o:=i.ok
 unfold Hd.decode at hk
 obtain ⟨d,hd⟩:∃ d,dec H.t.word=d:=⟨_,rfl⟩
 rw [hd] at hk
 cases d with
 | none =>
  refine fnv (args:=_) mixed [(2,2)] [] [] Tryz.func54 rfl (by kernel_rfl) (cw_ ?_)
  refine ⟨_,(r.z o.len).ld 23 aggU32 rfl,cw_ ?_⟩
  refine hdec H.t.word h _ i.word ?_
  rw [hd]
  conv=>whnf
  refine hillegal_x n fun h1 n1=>(cw_ ?_)
  exact hk h1 n1
 | some x =>
  simp only at hk
  obtain ⟨e,he⟩:∃ e,execE x H.pc H.r H.priv=e:=⟨_,rfl⟩
  have heo:e.ok:=by rw [← he];exact exec_ok o.rw o.pc
  rw [he] at hk
  refine fnv (args:=_) mixed [(2,2)] [] [] Tryz.func54 rfl (by kernel_rfl) (cw_ ?_)
  refine ⟨_,(r.z o.len).ld 23 aggU32 rfl,cw_ ?_⟩
  refine hdec H.t.word h _ i.word ?_
  rw [hd]
  conv=>whnf
  refine wr_intro (by exact st_x x (r.z o.len)) (fun h1 at_h1 ot_h1=>cw_ ?_)
  have n1:HaN k h1 b { H with t:={ H.t with x:=x } }:=HaN.turn1 up rfl o.len at_h1 ot_h1 { i with ok:=⟨o.r,o.rw,o.f,o.pc⟩ } rfl rfl rfl
  obtain ⟨c1,s1,r1,ht1,up1⟩:=n1.row
  refine ⟨_,(r1.z o.len).ld 0 aggU rfl,cw_ ?_⟩
  refine ⟨_,(r1.z o.len).ld 1 aggPv rfl,cw_ ?_⟩
  refine xdo_x r1.regs o.r o.rw x H.pc H.priv ?_
  rw [he]
  refine ⟨trivial,cw_ ?_⟩
  refine wr_intro (by exact st_e e (r1.z o.len)) (fun h2 at_h2 ot_h2=>cw_ ?_)
  have n2:HaN k h2 b { H with t:={ H.t with x:=x,e:=e } }:=HaN.turn1 up1 rfl o.len at_h2 ot_h2 { i with ok:=⟨o.r,o.rw,o.f,o.pc⟩,e:=heo } rfl rfl rfl
  refine ⟨trivial,cw_ ?_⟩
  obtain ⟨c2,s2,r2,ht2,up2⟩:=n2.row
  refine ⟨_,(r2.z o.len).ld 32 aggI4 rfl,cw_ ?_⟩
  by_cases k1:e.kind=1
  ·rw [if_pos k1] at hk
   refine bt_ ?_ (by simpa using k1)
   refine ⟨_,(r2.z o.len).ld 33 aggI4 rfl,cw_ ?_⟩
   refine ⟨_,(r2.z o.len).ld 34 aggU rfl,cw_ ?_⟩
   refine hset_x n2 e.rd e.value heo.value fun h3 n3=>?_
   refine ⟨trivial,cw_ ?_⟩
   obtain ⟨c3,s3,r3,ht3,up3⟩:=n3.row
   refine ⟨_,(r3.z n3.inv.ok.len).ld 35 aggU rfl,cw_ ?_⟩
   refine hretire_x n3 e.next heo.next fun h4 n4=>(cw_ ?_)
   exact hk h4 n4
  rw [if_neg k1] at hk
  refine bf_ ?_ (by simpa using k1)
  by_cases k2:e.kind=2
  ·rw [if_pos k2] at hk
   refine bt_ ?_ (by simpa using k2)
   refine ⟨_,(r2.z o.len).ldA 36 aggCau sizCau (x:=e.cause.cs) rfl rfl,cw_ ?_⟩
   refine ⟨_,(r2.z o.len).ld 38 aggU rfl,cw_ ?_⟩
   refine htrap_x n2 e.cause e.tval heo.tval fun h3 n3=>?_
   refine ⟨trivial,cw_ ?_⟩
   exact hk h3 n3
  rw [if_neg k2] at hk
  refine bf_ ?_ (by simpa using k2)
  by_cases k3:e.kind=3
  ·rw [if_pos k3] at hk
   refine bt_ ?_ (by simpa using k3)
   refine haccess_x n2 hl fun h3 n3=>(cw_ ?_)
   exact hk h3 n3
  rw [if_neg k3] at hk
  refine bf_ ?_ (by simpa using k3)
  have hl20:H.told.length≤2 ^ 20:=by omega
  refine hsystem_x n2 hl20 fun h3 n3=>(cw_ ?_)
  exact hk h3 n3
end
end Go.Proofs.YtdhlpighdlnohaaGreat
namespace Go.Proofs.YtdhlpighdlnohaaGreat
open Go Go.Mid Go.RowKit Go.Bits
attribute [local irreducible] mid
theorem Hd.inv.zero {H:Hd} (i:H.inv):({ H with t:=.zero }:Hd).inv:={ i with
 ok:=⟨i.ok.r,i.ok.rw,i.ok.f,i.ok.pc⟩
 w:=wk0_ok
 wa:=.inl rfl
 word:=by show (0:Nat)<4294967296;decide
 lines:=by show (0:Nat)<2 ^ 64;decide
 e:=ef0_ok
 addr:=by show (0:Nat)<2 ^ 64;decide
 next:=by show (0:Nat)<2 ^ 64;decide
 cut:=by show (0:Int)≤0∧(0:Int)≤0;decide
 size:=by show (0:Int)≤0∧(0:Int)≤8;decide
 mask:=by show (0:Nat)<2 ^ 64;decide
 nx:=by show (0:Int)≤0∧(0:Int)≤7;decide }
theorem Hd.inv.lin {H:Hd} (i:H.inv) {l:Nat} (hl:l<2 ^ 64):({ H with t:={ H.t with lines:=l } }:Hd).inv:={ i with ok:=⟨i.ok.r,i.ok.rw,i.ok.f,i.ok.pc⟩,lines:=hl }
def wakeG (H:Hd):Option Cau→Hd
 | some c=>({ H with parked:=false }:Hd).trap c 0
 | none=>({ H with parked:=false }:Hd).fetch tbT
theorem wake_eq (H:Hd):H.wake tbT=if (H.parked && decide (waitN H.f H.t.lines=0))=true then { H with t:=.zero } else wakeG H (irqN H.f H.priv H.t.lines):=by
 unfold Hd.wake wakeG
 rfl
section
set_option maxHeartbeats 16000000
variable {k h:Hp} {K:Value→Hp→Prop} {b:Nat} {H:Hd}
theorem hwake_x (n:HaN k h b H) (hl:H.told.length+1≤2 ^ 20) (hk:∀ h',HaN k h' b (H.wake tbT)→K (.tuple #[]) h'):X Tryz.prog 51 #[.pointer (some ⟨b,0,none⟩)] h K:=by
 obtain ⟨c,s,r,ht,up⟩:=n.row
 have i:=n.inv
 have o:=i.ok
 rw [wake_eq] at hk
 obtain ⟨pk,epk⟩:∃ p,H.parked=p:=⟨_,rfl⟩
 obtain ⟨w,ew⟩:∃ w,waitN H.f H.t.lines=w:=⟨_,rfl⟩
 obtain ⟨q,eq⟩:∃ q,irqN H.f H.priv H.t.lines=q:=⟨_,rfl⟩
 have l4:(H.z c s)[4]? = some (.bool pk):=by rw [← epk];rfl
 have hW:(pk && decide (w=0))=true→∀ h',HaN k h' b { H with t:=.zero }→K (.tuple #[]) h':=fun e=>by
  have e2:(H.parked && decide (waitN H.f H.t.lines=0))=true:=by rw [epk,ew];exact e
  rw [if_pos e2] at hk;exact hk
 have hO:(pk && decide (w=0))=false→∀ h',HaN k h' b (wakeG H q)→K (.tuple #[]) h':=fun e=>by
  have e2:¬ (H.parked && decide (waitN H.f H.t.lines=0))=true:=by rw [epk,ew,e];decide
  rw [if_neg e2,eq] at hk;exact hk
 clear hk
 cases pk with
 | false =>
  have hO:=hO rfl
  refine fnv (args:=_) mixed [(2,2)] [] [] Tryz.func51 rfl (by kernel_rfl) (cw_ ?_)
  refine ⟨_,(r.z o.len).ld 4 aggB6 l4,cw_ ?_⟩
  refine wr_intro (by exact (r.z o.len).st 4 sizB6 (by show 4<71;decide) rfl rfl) (fun h1 at_h1 ot_h1=>cw_ ?_)
  have n1:HaN k h1 b { H with parked:=false }:=HaN.turn1 up rfl o.len at_h1 ot_h1 (i.parked false) rfl rfl rfl
  obtain ⟨c1,s1,r1,ht1,up1⟩:=n1.row
  refine ⟨_,(r1.z o.len).ld 1 aggPv rfl,cw_ ?_⟩
  refine ⟨_,(r1.z o.len).ld 8 aggU rfl,cw_ ?_⟩
  refine inext_x (r1.file o.r) o.f H.priv H.t.lines i.lines ?_
  rw [show irqN ({ H with parked:=false }:Hd).f H.priv H.t.lines=q from eq]
  refine ⟨trivial,?_⟩
  cases q with
  | some cc =>
   conv=>whnf
   refine htrap_x n1 cc 0 (by decide) fun h2 n2=>(cw_ ?_)
   exact hO h2 n2
  | none =>
   conv=>whnf
   refine hfetch_x n1 hl fun h2 n2=>(cw_ ?_)
   exact hO h2 n2
 | true =>
  refine fnv (args:=_) mixed [(2,2)] [] [] Tryz.func51 rfl (by kernel_rfl) (cw_ ?_)
  refine ⟨_,(r.z o.len).ld 4 aggB6 l4,cw_ ?_⟩
  refine ⟨_,(r.z o.len).ld 8 aggU rfl,cw_ ?_⟩
  refine iwakes_x (r.file o.r) o.f H.t.lines i.lines ?_
  rw [ew]
  refine ⟨trivial,?_⟩
  by_cases w0:w=0
  ·have hW:=hW (by rw [decide_eq_true w0];rfl)
   rw [decide_eq_false (show ¬ w≠0 from fun e=>e w0)]
   conv=>whnf
   refine big_by (v:=tn0V) (by kernel_rfl) (cw_ ?_)
   refine wr_intro (by exact st_tn (r.z o.len)) (fun h1 at_h1 ot_h1=>cw_ ?_)
   exact hW h1 (HaN.turn1 up rfl o.len at_h1 ot_h1 i.zero rfl rfl rfl)
  ·have hO:=hO (by rw [decide_eq_false w0];rfl)
   rw [decide_eq_true (show w≠0 from w0)]
   conv=>whnf
   refine wr_intro (by exact (r.z o.len).st 4 sizB6 (by show 4<71;decide) rfl rfl) (fun h1 at_h1 ot_h1=>cw_ ?_)
   have n1:HaN k h1 b { H with parked:=false }:=HaN.turn1 up rfl o.len at_h1 ot_h1 (i.parked false) rfl rfl rfl
   obtain ⟨c1,s1,r1,ht1,up1⟩:=n1.row
   refine ⟨_,(r1.z o.len).ld 1 aggPv rfl,cw_ ?_⟩
   refine ⟨_,(r1.z o.len).ld 8 aggU rfl,cw_ ?_⟩
   refine inext_x (r1.file o.r) o.f H.priv H.t.lines i.lines ?_
   rw [show irqN ({ H with parked:=false }:Hd).f H.priv H.t.lines=q from eq]
   refine ⟨trivial,?_⟩
   cases q with
   | some cc =>
    conv=>whnf
    refine htrap_x n1 cc 0 (by decide) fun h2 n2=>(cw_ ?_)
    exact hO h2 n2
   | none =>
    conv=>whnf
    refine hfetch_x n1 hl fun h2 n2=>(cw_ ?_)
    exact hO h2 n2
theorem hflushed_x (n:HaN k h b H) (hk:∀ h' s k' ob,k.le k'→Gr k' akT 19 s H.told.length (H.told.flatMap Ak.cs) ob→HaN k' h' b { H with told:=[] }→K s h'):X Tryz.prog 60 #[.pointer (some ⟨b,0,none⟩)] h K:=by
 obtain ⟨c,s,g,ob,r,hg,ht,hs,ap,gb,ho⟩:=n.go
 have i:=n.inv
 have o:=i.ok
 have hv:s.cells.toList=[s]∧s.oneCell'=true:=by obtain ⟨sa,sc,rfl⟩:=hs.shape;exact ⟨rfl,rfl⟩
 obtain ⟨sa,sc,rfl⟩:=hs.shape
 refine fnv (args:=_) mixed [] [] [] Tryz.func60 rfl (by kernel_rfl) (cw_ ?_)
 refine ⟨_,(r.z o.len).ld 70 aggSa rfl,cw_ ?_⟩
 refine wr_intro (by exact (r.z o.len).st 70 sizSa (by show 70<71;decide) rfl rfl) (fun h1 at_h1 ot_h1=>cw_ ?_)
 refine hk h1 _ (fun d=>if ob=some d then h d else k d) ob (fun d x e=>?_) ?_ ⟨fun d x e=>?_,?_,{ i with ok:=⟨o.r,o.rw,o.f,o.pc⟩ },c,.slice none 0 0,g,none,HaR.ofZ (H:=H) (H':={ H with told:=[] }) rfl ⟨at_h1,o.len⟩,fun d x e=>?_,ht,Gr.nil,fun d x e=>?_,gb,fun x e=>by cases e⟩
 ·have:ob≠some d:=fun e2=>by rw [(ho d e2).1] at e;cases e
  show (if ob=some d then h d else k d)=some x
  rw [if_neg this];exact e
 ·exact hs.agree fun x hx=>if_pos hx
 ·have hd:d≠b:=fun e2=>by
   subst e2
   have e:(if ob=some d then h d else k d)=some x:=e
   split at e
   ·rename_i e3;exact (ho d e3).2.1 rfl
   ·rw [n.nb] at e;cases e
  rw [ot_h1 d hd]
  have e:(if ob=some d then h d else k d)=some x:=e
  split at e
  ·exact e
  ·exact n.le d x e
 ·show (if ob=some b then h b else k b)=none
  split
  ·rename_i e3;exact absurd rfl (ho b e3).2.1
  ·exact n.nb
 ·rw [ot_h1 d (fun e2=>by subst e2;rw [gb] at e;cases e)]
  exact hg d x e
 ·have e:(if ob=some d then h d else k d)=some x:=e
  split at e
  ·rename_i e3;exact (ho d e3).2.2
  ·exact ap d x e
end
end Go.Proofs.YtdhlpighdlnohaaGreat
namespace Go.Proofs.YtdhlpighdlnohaaGreat
open Go Go.Mid Go.RowKit Go.Bits
attribute [local irreducible] mid
def drF (H:Hd) (q:Rq):Hd:=if q.s then H.forget tbT q else H
theorem drF_t {H:Hd} {q:Rq} (h:q.s=true):drF H q=H.forget tbT q:=if_pos h
theorem drF_f {H:Hd} {q:Rq} (h:q.s=false):drF H q=H:=if_neg (by rw [h];decide)
theorem drF_le {H:Hd} {q:Rq} {m:Nat} (h:H.told.length≤m):(drF H q).told.length≤m+1:=by
 unfold drF
 split
 ·show (H.told++[_]).length≤_;rw [List.length_append];exact Nat.succ_le_succ h
 ·omega
section
set_option maxHeartbeats 16000000
variable {k h:Hp} {K:Value→Hp→Prop} {b:Nat} {H:Hd}
theorem aggRq8:isAggT Tryz.prog 61 = some true:=by kernel_rfl
theorem sizRq8:sizeT Tryz.prog 61 = some 40:=by kernel_rfl
theorem hdrain_x (n:HaN k h b H) (m0 m1 m2 m3 m4 m5 m6 m7:Rq) (hq:∀ q ∈ [m0,m1,m2,m3,m4,m5,m6,m7],q.ok) (hl:H.told.length≤1000) (hk:∀ h',HaN k h' b (H.drain tbT [m0,m1,m2,m3,m4,m5,m6,m7])→K (.tuple #[]) h'):X Tryz.prog 50 #[.pointer (some ⟨b,0,none⟩),.agg (([m0,m1,m2,m3,m4,m5,m6,m7]:List Rq).flatMap Rq.cs).toArray] h K:=by
 have hD:H.drain tbT [m0,m1,m2,m3,m4,m5,m6,m7]=drF (drF (drF (drF (drF (drF (drF (drF H m0) m1) m2) m3) m4) m5) m6) m7:=rfl
 rw [hD] at hk
 clear hD
 have hq0:=hq m0 (by simp)
 have hq1:=hq m1 (by simp)
 have hq2:=hq m2 (by simp)
 have hq3:=hq m3 (by simp)
 have hq4:=hq m4 (by simp)
 have hq5:=hq m5 (by simp)
 have hq6:=hq m6 (by simp)
 have hq7:=hq m7 (by simp)
 clear hq
 refine fnv (args:=_) mixed [(5,5),(10,5)] [] [] Tryz.func50 rfl (by kernel_rfl) (cw_ ?_)
 refine new_intro (o:=_) (fun z g1 n_z le_z at_z ot_z=>cw_ ?_)
 refine ⟨_,loadA0 aggRq8 sizRq8 (show g1 z=some (rowO 61 (([m0,m1,m2,m3,m4,m5,m6,m7]:List Rq).flatMap Rq.cs)) from at_z) rfl,cw_ ?_⟩
 obtain ⟨F,hF⟩:∃ F,drF (drF (drF (drF (drF (drF (drF (drF H m0) m1) m2) m3) m4) m5) m6) m7=F:=⟨_,rfl⟩
 rw [hF] at hk
 refine loop_at [7] [] (fun r vs _ h'=>∃ (i:Nat) (G:Hd),i≤8∧r=8 - i∧vs=[.v (.int .i64 i)]∧HaN k h' b G∧G.told.length≤1000+i∧(List.drop i [m0,m1,m2,m3,m4,m5,m6,m7]).foldl drF G=F) 8 ⟨0,H,by decide,rfl,rfl,n.up le_z,hl,hF⟩ ?_
 rintro r vs cs mm bx g2 ⟨i,G,hi,rfl,rfl,nG,hGl,hR⟩
 conv=>whnf
 refine br_ (fun q1=>?_) fun q1=>?_
 ·have c8:i=0∨i=1∨i=2∨i=3∨i=4∨i=5∨i=6∨i=7:=by omega
  clear q1
  rcases c8 with rfl | rfl | rfl | rfl | rfl | rfl | rfl | rfl
  ·conv=>whnf
   refine br_ (fun q2=>?_) fun q2=>?_
   ·conv=>whnf
    refine hforget_x nG m0 hq0 (by omega) fun g3 n3=>(cw_ ?_)
    refine n_ ?_
    exact ⟨8 - 1,by decide,1,drF G m0,by decide,rfl,rfl,by rw [drF_t q2];exact n3,drF_le hGl,hR⟩
   ·conv=>whnf
    refine n_ ?_
    exact ⟨8 - 1,by decide,1,drF G m0,by decide,rfl,rfl,by rw [drF_f q2];exact nG,drF_le hGl,hR⟩
  ·conv=>whnf
   refine br_ (fun q2=>?_) fun q2=>?_
   ·conv=>whnf
    refine hforget_x nG m1 hq1 (by omega) fun g3 n3=>(cw_ ?_)
    refine n_ ?_
    exact ⟨8 - 2,by decide,2,drF G m1,by decide,rfl,rfl,by rw [drF_t q2];exact n3,drF_le hGl,hR⟩
   ·conv=>whnf
    refine n_ ?_
    exact ⟨8 - 2,by decide,2,drF G m1,by decide,rfl,rfl,by rw [drF_f q2];exact nG,drF_le hGl,hR⟩
  ·conv=>whnf
   refine br_ (fun q2=>?_) fun q2=>?_
   ·conv=>whnf
    refine hforget_x nG m2 hq2 (by omega) fun g3 n3=>(cw_ ?_)
    refine n_ ?_
    exact ⟨8 - 3,by decide,3,drF G m2,by decide,rfl,rfl,by rw [drF_t q2];exact n3,drF_le hGl,hR⟩
   ·conv=>whnf
    refine n_ ?_
    exact ⟨8 - 3,by decide,3,drF G m2,by decide,rfl,rfl,by rw [drF_f q2];exact nG,drF_le hGl,hR⟩
  ·conv=>whnf
   refine br_ (fun q2=>?_) fun q2=>?_
   ·conv=>whnf
    refine hforget_x nG m3 hq3 (by omega) fun g3 n3=>(cw_ ?_)
    refine n_ ?_
    exact ⟨8 - 4,by decide,4,drF G m3,by decide,rfl,rfl,by rw [drF_t q2];exact n3,drF_le hGl,hR⟩
   ·conv=>whnf
    refine n_ ?_
    exact ⟨8 - 4,by decide,4,drF G m3,by decide,rfl,rfl,by rw [drF_f q2];exact nG,drF_le hGl,hR⟩
  ·conv=>whnf
   refine br_ (fun q2=>?_) fun q2=>?_
   ·conv=>whnf
    refine hforget_x nG m4 hq4 (by omega) fun g3 n3=>(cw_ ?_)
    refine n_ ?_
    exact ⟨8 - 5,by decide,5,drF G m4,by decide,rfl,rfl,by rw [drF_t q2];exact n3,drF_le hGl,hR⟩
   ·conv=>whnf
    refine n_ ?_
    exact ⟨8 - 5,by decide,5,drF G m4,by decide,rfl,rfl,by rw [drF_f q2];exact nG,drF_le hGl,hR⟩
  ·conv=>whnf
   refine br_ (fun q2=>?_) fun q2=>?_
   ·conv=>whnf
    refine hforget_x nG m5 hq5 (by omega) fun g3 n3=>(cw_ ?_)
    refine n_ ?_
    exact ⟨8 - 6,by decide,6,drF G m5,by decide,rfl,rfl,by rw [drF_t q2];exact n3,drF_le hGl,hR⟩
   ·conv=>whnf
    refine n_ ?_
    exact ⟨8 - 6,by decide,6,drF G m5,by decide,rfl,rfl,by rw [drF_f q2];exact nG,drF_le hGl,hR⟩
  ·conv=>whnf
   refine br_ (fun q2=>?_) fun q2=>?_
   ·conv=>whnf
    refine hforget_x nG m6 hq6 (by omega) fun g3 n3=>(cw_ ?_)
    refine n_ ?_
    exact ⟨8 - 7,by decide,7,drF G m6,by decide,rfl,rfl,by rw [drF_t q2];exact n3,drF_le hGl,hR⟩
   ·conv=>whnf
    refine n_ ?_
    exact ⟨8 - 7,by decide,7,drF G m6,by decide,rfl,rfl,by rw [drF_f q2];exact nG,drF_le hGl,hR⟩
  ·conv=>whnf
   refine br_ (fun q2=>?_) fun q2=>?_
   ·conv=>whnf
    refine hforget_x nG m7 hq7 (by omega) fun g3 n3=>(cw_ ?_)
    refine n_ ?_
    exact ⟨8 - 8,by decide,8,drF G m7,by decide,rfl,rfl,by rw [drF_t q2];exact n3,drF_le hGl,hR⟩
   ·conv=>whnf
    refine n_ ?_
    exact ⟨8 - 8,by decide,8,drF G m7,by decide,rfl,rfl,by rw [drF_f q2];exact nG,drF_le hGl,hR⟩
 ·obtain rfl:i=8:=by omega
  conv=>whnf
  have hR:G=F:=hR
  rw [← hR] at hk
  exact hk g2 nG
end
end Go.Proofs.YtdhlpighdlnohaaGreat
