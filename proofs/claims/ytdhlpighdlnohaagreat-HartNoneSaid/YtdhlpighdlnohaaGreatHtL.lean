/-
  A hart: shootings.
-/
import Derived.Test.YtdhlpighdlnohaaGreatExE
import Derived.Test.YtdhlpighdlnohaaGreatImmP
set_option linter.unusedSimpArgs false
set_option linter.unusedVariables false
set_option maxHeartbeats 8000000
set_option maxRecDepth 10000
set_option linter.unusedSimpArgs false
set_option linter.unusedVariables false
namespace Go.Proofs.YtdhlpighdlnohaaGreat
open Go Go.Mid Go.RowKit Go.Bits
abbrev rfXExF0:Go.Mid.RF:=[(4,4),(18,4),(22,4),(25,4),(45,4),(48,4),(52,4),(59,4),(66,4),(69,4),(74,4),(85,4),(90,4),(94,4),(98,4),(104,4),(122,4),(8,8)]
attribute [local irreducible] mid
theorem class2 {n:Int}:classN n=2↔n=1∨n=2:=by unfold classN;repeat' split <;> omega
theorem class9 {n:Int}:classN n=9↔n=50∨n=51:=by unfold classN;repeat' split <;> omega
theorem ofI_add (a:Nat) (n:Int):IntKind.u64.wrap ((a:Int)+((ofI n:Nat):Int))=(((a+ofI n) % 18446744073709551616:Nat):Int):=addW a (ofI n)
section
set_option maxHeartbeats 16000000
variable {h:Hp} {K:Value→Hp→Prop}
theorem xnumI_x (n:Int) (e:aluB n=true) (q:Bool) (hq:q=immB n) (hk:K (.bool q) h):X Tryz.prog 174 #[.int .i64 n] h K:=xnum_x n (by rw [hq,eximm_eq e] at hk;exact hk)
theorem flow4 {op rd r1 r2 imm csr:Int} {aq rl:Bool} {pc a b:Nat} (e:5≤op∧op≤10):flowE ⟨op,rd,r1,r2,imm,csr,aq,rl⟩ pc a b=if takenB op a b then jumpE ⟨op,rd,r1,r2,imm,csr,aq,rl⟩ (targetN op pc a imm) (n4 pc) else { Ef.zero with kind:=1,next:=n4 pc }:=by
 unfold flowE
 simp only
 cases takenB op a b with
 | true=>rw [if_neg (by simp),if_pos rfl]
 | false=>rw [if_pos ⟨e.1,e.2,rfl⟩,if_neg (by decide)]
theorem flow3 {op rd r1 r2 imm csr:Int} {aq rl:Bool} {pc a b:Nat} (e:op=3∨op=4):flowE ⟨op,rd,r1,r2,imm,csr,aq,rl⟩ pc a b=jumpE ⟨op,rd,r1,r2,imm,csr,aq,rl⟩ (targetN op pc a imm) (n4 pc):=by
 unfold flowE
 exact if_neg (fun h=>by have h1:5≤op:=h.1;omega)
theorem adoT_x (n:Int) (e:aluB n=true) (a b:Nat) (ha:a<2 ^ 64) (hb:b<2 ^ 64) (hk:∀ v,aluN n a b=v→K (.tuple #[ux v,.bool true]) h):X Tryz.prog 175 #[.int .i64 n,ux a,ux b] h K:=ado_x n a b ha hb (by rw [e,if_pos rfl];exact hk _ rfl)
theorem rggetE_x {b o:Nat} {el:TypeId} {A B:List Value} {x:List Nat} (p:Pa h b o el A (wcs x) B) (hx:x.length=32) (i:Int) {a:Nat} (e:regN x i=a) (hk:K (ux a) h):X Tryz.prog 172 #[.pointer (some ⟨b,o,none⟩),.int .i64 i] h K:=rgget_x p hx i (by rw [e];exact hk)
theorem classE_x (n:Int) {c:Int} (e:classN n=c) (hk:K (.int .i64 c) h):X Tryz.prog 173 #[.int .i64 n] h K:=class_x n (by rw [e];exact hk)
theorem xdo_x {b o:Nat} {el:TypeId} {A B:List Value} {r:List Nat} (p:Pa h b o el A (wcs r) B) (hr:r.length=32) (hrw:∀ n ∈ r,n<2 ^ 64) (x:Ins) (pc:Nat) (priv:Int) (hk:K (.agg (execE x pc r priv).cs.toArray) h):X Tryz.prog 101 #[.agg x.cs.toArray,ux pc,.pointer (some ⟨b,o,none⟩),.int .i64 priv] h K:=by
 have h1:=class_alu x.op
 have h2:=@class2 x.op
 have h3:=@class3 x.op
 have h4:=@class4 x.op
 have h5:=@class5 x.op
 have h6:=@class6 x.op
 have h7:=@class7 x.op
 have h9:=@class9 x.op
 obtain ⟨a,ea⟩:∃ a,regN r x.rs1=a:=⟨_,rfl⟩
 obtain ⟨d,ed⟩:∃ d,regN r x.rs2=d:=⟨_,rfl⟩
 have ha:=regN_lt hrw x.rs1
 have hb:=regN_lt hrw x.rs2
 rw [ea] at ha
 rw [ed] at hb
 obtain ⟨q,hq⟩:∃ q,q=immB x.op:=⟨_,rfl⟩
 obtain ⟨c,ec⟩:∃ c,classN x.op=c:=⟨_,rfl⟩
 rw [ec] at h1 h2 h3 h4 h5 h6 h7 h9
 unfold execE at hk
 rw [ea,ed,← hq] at hk
 simp only at hk
 obtain ⟨op,rd,r1,r2,imm,csr,aq,rl⟩:=x
 simp only at hk h1 h2 h3 h4 h5 h6 h7 h9 ea ed ec hq
 refine fnv (args:=_) mixed rfXExF0 [] [] Tryz.func101 rfl (by kernel_rfl) (cw_ ?_)
 refine rggetE_x p hr r1 ea ?_
 refine ⟨trivial,cw_ ?_⟩
 refine rggetE_x p hr r2 ed ?_
 refine ⟨trivial,cw_ ?_⟩
 refine classE_x op ec (cw_ ?_)
 refine br_ (fun q1=>?_) fun q1=>?_
 ·have e1:aluB op=true:=h1.2 q1
  rw [if_pos e1] at hk
  conv=>whnf
  refine xnumI_x op e1 q hq ?_
  cases q with
  | true =>
   conv=>whnf
   refine ov_by (u64ofI imm) (cw_ ?_)
   refine adoT_x op e1 a (ofI imm) ha (ofI_lt imm) fun v ev=>?_
   rw [if_pos rfl,ev] at hk
   conv=>whnf
   refine ov_by (n4_eq pc) (cw_ ?_)
   exact hk
  | false =>
   conv=>whnf
   refine adoT_x op e1 a d ha hb fun v ev=>?_
   rw [if_neg (by decide),ev] at hk
   conv=>whnf
   refine ov_by (n4_eq pc) (cw_ ?_)
   exact hk
 rw [if_neg (fun e=>q1 (h1.1 e))] at hk
 conv=>whnf
 refine br_ (fun q2=>?_) fun q2=>?_
 ·have e2:=h2.1 q2
  rw [if_pos e2] at hk
  conv=>whnf
  refine aup_x op e2 pc imm ?_
  generalize upN op pc imm=v at hk ⊢
  conv=>whnf
  refine ov_by (n4_eq pc) (cw_ ?_)
  exact hk
 rw [if_neg (fun e=>q2 (h2.2 e))] at hk
 conv=>whnf
 refine br_ (fun q4=>?_) fun q4=>?_
 ·have e4:=h4.1 q4
  rw [if_pos e4,← flow4 e4] at hk
  conv=>whnf
  refine xflow_x ⟨op,rd,r1,r2,imm,csr,aq,rl⟩ pc a d (by show 3≤op∧op≤10;omega) ha hb (cw_ ?_)
  exact hk
 rw [if_neg (fun e=>q4 (h4.2 e))] at hk
 conv=>whnf
 refine br_ (fun q3=>?_) fun q3=>?_
 ·have e3:=h3.1 q3
  rw [if_pos e3,← flow3 (b:=d) e3] at hk
  conv=>whnf
  refine xflow_x ⟨op,rd,r1,r2,imm,csr,aq,rl⟩ pc a d (by show 3≤op∧op≤10;omega) ha hb (cw_ ?_)
  exact hk
 rw [if_neg (fun e=>q3 (h3.2 e))] at hk
 conv=>whnf
 refine br_ (fun q5=>?_) fun q5=>?_
 ·have e5:=h5.1 q5
  rw [if_pos e5] at hk
  conv=>whnf
  refine ov_by (n4_eq pc) (cw_ ?_)
  refine ov_by (u64ofI imm) (cw_ ?_)
  refine ov_by (ofI_add a imm) (cw_ ?_)
  refine ksize_x op ?_
  refine ⟨trivial,cw_ ?_⟩
  exact hk
 rw [if_neg (fun e=>q5 (h5.2 e))] at hk
 conv=>whnf
 refine br_ (fun q6=>?_) fun q6=>?_
 ·have e6:=h6.1 q6
  rw [if_pos e6] at hk
  conv=>whnf
  refine ksize_x op (cw_ ?_)
  have hs:=opSize_in op (.inl (by omega))
  refine ov_by (n4_eq pc) (cw_ ?_)
  refine ov_by (u64ofI imm) (cw_ ?_)
  refine ov_by (ofI_add a imm) (cw_ ?_)
  refine ov_is (show (8:Int)*(opSize op:Int)=((8*opSize op:Nat):Int) by omega) (by omega) (cw_ ?_)
  refine blow_x d (8*opSize op) hb (by omega) ?_
  refine ⟨trivial,cw_ ?_⟩
  exact hk
 rw [if_neg (fun e=>q6 (h6.2 e))] at hk
 conv=>whnf
 refine br_ (fun q7=>?_) fun q7=>?_
 ·have e7:=h7.1 q7
  rw [if_pos e7] at hk
  conv=>whnf
  refine xatom_x ⟨op,rd,r1,r2,imm,csr,aq,rl⟩ pc a d e7 ha hb (cw_ ?_)
  exact hk
 rw [if_neg (fun e=>q7 (h7.2 e))] at hk
 conv=>whnf
 refine br_ (fun q9=>?_) fun q9=>?_
 ·have e9:=h9.1 q9
  rw [if_pos e9] at hk
  conv=>whnf
  refine ov_by (n4_eq pc) (cw_ ?_)
  exact hk
 rw [if_neg (fun e=>q9 (h9.2 e))] at hk
 conv=>whnf
 refine br_ (fun q52=>?_) fun q52=>?_
 ·rw [if_pos q52] at hk
  conv=>whnf
  refine ccall_x priv (cw_ ?_)
  refine xtrap_x ⟨false,_⟩ 0 (cw_ ?_)
  exact hk
 rw [if_neg q52] at hk
 conv=>whnf
 refine br_ (fun q53=>?_) fun q53=>?_
 ·rw [if_pos q53] at hk
  conv=>whnf
  refine xtrap_x ⟨false,3⟩ pc (cw_ ?_)
  exact hk
 rw [if_neg q53] at hk
 conv=>whnf
 exact hk
end
end Go.Proofs.YtdhlpighdlnohaaGreat
namespace Go.Proofs.YtdhlpighdlnohaaGreat
open Go Go.Mid Go.RowKit Go.Bits
attribute [local irreducible] mid
theorem setR_N (r:List Nat) (i:Int) (v:Nat):setR r i v=setN r i v:=by
 unfold setR setN
 by_cases q:1≤i∧i<32
 ·rw [if_pos q,if_pos ⟨by omega,by omega,q.2⟩]
 ·rw [if_neg q,if_neg (fun e=>q ⟨by omega,e.2.2⟩)]
theorem setR_ok {r:List Nat} (h1:r.length=32) (h2:∀ n ∈ r,n<2 ^ 64) (i:Int) {v:Nat} (hv:v<2 ^ 64):(setR r i v).length=32∧∀ n ∈ setR r i v,n<2 ^ 64:=by
 unfold setR
 split
 ·refine ⟨by rw [List.length_set];exact h1,fun n hn=>?_⟩
  rcases List.mem_or_eq_of_mem_set hn with e | e
  ·exact h2 n e
  ·rw [e];exact hv
 ·exact ⟨h1,h2⟩
theorem Hd.inv.set {H:Hd} (i:H.inv) (j:Int) {v:Nat} (hv:v<2 ^ 64):({ H with r:=setR H.r j v }:Hd).inv:={ i with ok:=⟨(setR_ok i.ok.r i.ok.rw j hv).1,(setR_ok i.ok.r i.ok.rw j hv).2,i.ok.f,i.ok.pc⟩ }
theorem Hd.inv.live {H:Hd} (i:H.inv) (q:Bool):({ H with live:=q }:Hd).inv:={ i with ok:=⟨i.ok.r,i.ok.rw,i.ok.f,i.ok.pc⟩ }
theorem n4_lt (pc:Nat):n4 pc<2 ^ 64:=Nat.mod_lt _ (by decide)
section
set_option maxHeartbeats 16000000
variable {k h:Hp} {K:Value→Hp→Prop} {b:Nat} {H:Hd}
theorem hset_x (n:HaN k h b H) (j:Int) (v:Nat) (hv:v<2 ^ 64) (hk:∀ h',HaN k h' b { H with r:=setR H.r j v }→K (.tuple #[]) h'):X Tryz.prog 36 #[.pointer (some ⟨b,5,none⟩),.int .i64 j,ux v] h K:=by
 obtain ⟨c,s,r,ht,up⟩:=n.row
 have i:=n.inv
 refine rgset_x r.regs i.ok.r j v fun h1 o1 p1=>?_
 rw [← setR_N] at p1
 exact hk h1 (up h1 _ (HaR.ofRegs p1) (fun d x hd e=>by rw [o1 d hd];exact e) (i.set j hv) rfl rfl rfl)
theorem hhit_x (n:HaN k h b H) (hk:∀ h',HaN k h' b H.hit→K (.tuple #[]) h'):X Tryz.prog 108 #[.pointer (some ⟨b,0,none⟩)] h K:=by
 obtain ⟨c,s,r,ht,up⟩:=n.row
 have o:=n.inv.ok
 refine fnv (args:=_) mixed [] [] [] Tryz.func108 rfl (by kernel_rfl) (cw_ ?_)
 refine ⟨_,(r.z o.len).ld 25 aggI4 rfl,cw_ ?_⟩
 refine hset_x n H.t.x.rd 0 (by decide) fun h1 n1=>?_
 refine ⟨trivial,cw_ ?_⟩
 obtain ⟨c1,s1,r1,ht1,up1⟩:=n1.row
 refine ⟨_,(r1.z n1.inv.ok.len).ld 0 aggU rfl,cw_ ?_⟩
 refine ov_by (n4_eq H.pc) (cw_ ?_)
 refine hretire_x n1 (n4 H.pc) (n4_lt _) fun h2 n2=>(cw_ ?_)
 exact hk h2 n2
theorem lands_lt (op:Int) {data:Nat} (good:Bool) (hd:data<2 ^ 64):landsN op data good<2 ^ 64:=by
 unfold landsN
 have hm:∀ m,data % m<2 ^ 64:=fun m=>Nat.lt_of_le_of_lt (Nat.mod_le _ _) hd
 repeat' split
 all_goals first
  | exact sign_lt _ _
  | exact hm _
  | decide
theorem hlanded_x (n:HaN k h b H) (a:An) (hd:a.data<2 ^ 64) (hk:∀ h',HaN k h' b (H.landed a.data a.good)→K (.tuple #[]) h'):X Tryz.prog 56 #[.pointer (some ⟨b,0,none⟩),.agg a.cs.toArray] h K:=by
 have i:=n.inv
 have o:=i.ok
 have hln:=lands_lt H.t.x.op a.good hd
 unfold Hd.landed at hk
 simp only at hk
 obtain ⟨v,hv⟩:∃ v,landsN H.t.x.op a.data a.good=v:=⟨_,rfl⟩
 rw [hv] at hk hln
 refine fnv (args:=_) mixed [] [105] [] Tryz.func56 rfl (by kernel_rfl) (cw_ ?_)
 refine new_intro (o:=rowO 86 a.cs) (fun z h1 n_z le_z at_z ot_z=>cw_ ?_)
 have n1:=n.up le_z
 obtain ⟨c,s,r,ht,up⟩:=n1.row
 refine ⟨_,(r.z o.len).ld 33 aggI4 rfl,cw_ ?_⟩
 refine ⟨_,(r.z o.len).ldA 24 aggIns sizIns (x:=H.t.x.cs) rfl rfl,cw_ ?_⟩
 refine ⟨_,loadA0 aggAn sizAn at_z rfl,cw_ ?_⟩
 refine ⟨_,xlands_x H.t.x a hd ⟨rfl,rfl⟩,?_⟩
 rw [hv]
 conv=>whnf
 refine hset_x n1 H.t.e.rd v hln fun h2 n2=>?_
 refine ⟨trivial,cw_ ?_⟩
 obtain ⟨c2,s2,r2,ht2,up2⟩:=n2.row
 have o2:=n2.inv.ok
 refine ⟨_,(r2.z o2.len).ld 44 aggKd rfl,cw_ ?_⟩
 by_cases k5:H.t.ask.kind=5
 ·rw [if_pos k5] at hk
  refine bt_ ?_ (by simpa using k5)
  refine wr_intro (by exact (r2.z o2.len).st 3 sizB6 (by show 3<71;decide) rfl rfl) (fun h3 at_h3 ot_h3=>cw_ ?_)
  have n3:HaN k h3 b { H with r:=setR H.r H.t.e.rd v,live:=true }:=HaN.turn1 up2 rfl o2.len at_h3 ot_h3 (n2.inv.live true) rfl rfl rfl
  obtain ⟨c3,s3,r3,ht3,up3⟩:=n3.row
  refine ⟨_,(r3.z n3.inv.ok.len).ld 35 aggU rfl,cw_ ?_⟩
  refine hretire_x n3 H.t.e.next i.e.next fun h4 n4=>(cw_ ?_)
  exact hk h4 n4
 ·rw [if_neg k5] at hk
  refine bf_ ?_ (by simpa using k5)
  by_cases k6:H.t.ask.kind=6
  ·rw [if_pos k6] at hk
   refine bt_ ?_ (by simpa using k6)
   refine wr_intro (by exact (r2.z o2.len).st 3 sizB6 (by show 3<71;decide) rfl rfl) (fun h3 at_h3 ot_h3=>cw_ ?_)
   have n3:HaN k h3 b { H with r:=setR H.r H.t.e.rd v,live:=false }:=HaN.turn1 up2 rfl o2.len at_h3 ot_h3 (n2.inv.live false) rfl rfl rfl
   obtain ⟨c3,s3,r3,ht3,up3⟩:=n3.row
   refine ⟨_,(r3.z n3.inv.ok.len).ld 35 aggU rfl,cw_ ?_⟩
   refine hretire_x n3 H.t.e.next i.e.next fun h4 n4=>(cw_ ?_)
   exact hk h4 n4
  ·rw [if_neg k6] at hk
   refine bf_ ?_ (by simpa using k6)
   refine ⟨_,(r2.z o2.len).ld 35 aggU rfl,cw_ ?_⟩
   refine hretire_x n2 H.t.e.next i.e.next fun h4 n4=>(cw_ ?_)
   exact hk h4 n4
end
end Go.Proofs.YtdhlpighdlnohaaGreat
namespace Go.Proofs.YtdhlpighdlnohaaGreat
open Go Go.Bits
inductive Lk (h:Hd):Hd→Prop
 | go (h':Hd) (e1:h'.turns=h.turns) (e2:h'.retired=h.retired) (e3:h'.live=h.live) (e4:h'.t.at_=5→h'.t.ask.kind=6→h'.t.ask.live=h'.live) (e5:h'.t.at_=3∨h'.t.at_=6→h'.t.ask.kind≠5∧h'.t.ask.kind≠6):Lk h h'
 | trap (h':Hd) (e1:h'.turns=IntKind.i64.wrap (h.turns+1)) (e2:h'.retired=h.retired) (e3:h'.live=false) (e4:h'.t=.zero):Lk h h'
 | ret (h':Hd) (e1:h'.turns=IntKind.i64.wrap (h.turns+1)) (e2:h'.retired=IntKind.i64.wrap (h.retired+1)) (e3:h'.live=h.live) (e4:h'.t=.zero):Lk h h'
structure Nc (h h':Hd):Prop where
 turns:h'.turns=h.turns
 retired:h'.retired=h.retired
 live:h'.live=h.live
theorem Nc.rfl_ (h:Hd):Nc h h:=⟨rfl,rfl,rfl⟩
theorem Nc.lk {h g h':Hd} (n:Nc h g) (l:Lk g h'):Lk h h':=by
 cases l with
 | go e1 e2 e3 e4 e5=>exact .go _ (e1.trans n.turns) (e2.trans n.retired) (e3.trans n.live) e4 e5
 | trap e1 e2 e3 e4=>exact .trap _ (by rw [e1,n.turns]) (e2.trans n.retired) e3 e4
 | ret e1 e2 e3 e4=>exact .ret _ (by rw [e1,n.turns]) (by rw [e2,n.retired]) (e3.trans n.live) e4
theorem Nc.of {h g h':Hd} (l:Lk g h') (n:Nc h g):Lk h h':=n.lk l
section
variable (T:TlbF) (fits:Int→Nat→Int→Bool) (dec:Nat→Option Ins)
theorem lk_trap (h:Hd) (c:Cau) (v:Nat):Lk h (h.trap c v):=.trap _ rfl rfl rfl rfl
theorem nc_translate (h:Hd) (va:Nat) (a p:Int):Nc h (h.translate T va a p).1∧(h.translate T va a p).1.t.ask=h.t.ask∧(h.translate T va a p).1.t.e=h.t.e∧(h.translate T va a p).1.t.at_=h.t.at_:=by
 unfold Hd.translate
 split
 ·exact ⟨.rfl_ h,rfl,rfl,rfl⟩
 ·split
  ·split
   ·exact ⟨⟨rfl,rfl,rfl⟩,rfl,rfl,rfl⟩
   ·exact ⟨⟨rfl,rfl,rfl⟩,rfl,rfl,rfl⟩
  ·exact ⟨⟨rfl,rfl,rfl⟩,rfl,rfl,rfl⟩
theorem lk_walked (h:Hd):((h.walked T).2=none∧((h.walked T).1=h∨Lk h (h.walked T).1∧(h.walked T).1.t=.zero))∨∃ pa,(h.walked T).2=some pa∧Nc h (h.walked T).1∧(h.walked T).1.t=h.t:=by
 unfold Hd.walked
 split
 ·exact .inl ⟨rfl,.inl rfl⟩
 ·split
  ·exact .inl ⟨rfl,.inr ⟨lk_trap _ _ _,rfl⟩⟩
  ·split
   ·exact .inl ⟨rfl,.inr ⟨lk_trap _ _ _,rfl⟩⟩
   ·exact .inr ⟨_,rfl,⟨rfl,rfl,rfl⟩,rfl⟩
structure LI (h:Hd):Prop where
 sc:h.t.at_=5→h.t.ask.kind=6→h.t.ask.live=h.live
 no:h.t.at_=3∨h.t.at_=6→h.t.ask.kind≠5∧h.t.ask.kind≠6
 lo:0≤h.t.at_∧h.t.at_≤9
end
end Go.Proofs.YtdhlpighdlnohaaGreat
namespace Go.Proofs.YtdhlpighdlnohaaGreat
open Go Go.Mid Go.RowKit Go.Bits
attribute [local irreducible] mid
theorem cut_le {va:Nat} {size:Int} (h:0≤size):((splN va size:Nat):Int)≤size:=by
 unfold splN
 split
 ·exact h
 ·omega
theorem spl_lt (va:Nat) (size:Int):splN va size<2 ^ 64:=by
 unfold splN
 split <;> omega
theorem walked_some {H H1:Hd} {p:Nat} (e:H.walked tbT=(H1,some p)):H1.t=H.t:=by
 rcases lk_walked tbT H with ⟨e1,_⟩ | ⟨_,_,_,e2⟩
 ·rw [e] at e1;cases e1
 ·rw [e] at e2;exact e2
theorem translate_t (H:Hd) (va:Nat) (a q:Int):(H.translate tbT va a q).1.t.ask=H.t.ask∧(H.translate tbT va a q).1.t.e=H.t.e:=⟨(nc_translate tbT H va a q).2.1,(nc_translate tbT H va a q).2.2.1⟩
section
set_option maxHeartbeats 16000000
variable {k h:Hp} {K:Value→Hp→Prop} {b:Nat} {H:Hd}
theorem hpartC_x (n:HaN k h b H) (pa:Nat) (hp:pa<2 ^ 64) (hc:0<H.t.ask.cut) (hk:∀ h',HaN k h' b (H.partAt2 fitsN pa)→K (.tuple #[]) h'):X Tryz.prog 104 #[.pointer (some ⟨b,0,none⟩),ux pa] h K:=by
 obtain ⟨c,s,r,ht,up⟩:=n.row
 have i:=n.inv
 have o:=i.ok
 refine fnv (args:=_) mixed [] [] [] Tryz.func104 rfl (by kernel_rfl) (cw_ ?_)
 refine ⟨_,(r.z o.len).ld 47 aggI4 rfl,cw_ ?_⟩
 refine bt_ ?_ (by simpa using hc)
 refine wr_intro (by exact (r.z o.len).st 46 sizU (by show 46<71;decide) rfl rfl) (fun h1 at_h1 ot_h1=>cw_ ?_)
 have n1:HaN k h1 b { H with t:={ H.t with ask:={ H.t.ask with next:=pa } } }:=HaN.turn1 up rfl o.len at_h1 ot_h1 (i.ask H.t.at_ { H.t.ask with next:=pa } i.addr hp i.cut i.size) rfl rfl rfl
 refine hreach_x n1 fun h2 n2=>(cw_ ?_)
 exact hk h2 n2
section
variable {A0:Ak} {E0:Ef} {B:Nat} {F:Hd→Nat→Hd}
def wkG (F:Hd→Nat→Hd) (r:Hd×Option Nat):Hd:=match r with
 | (h,some pa)=>F h pa
 | (h,none)=>h
def trG (F:Hd→Nat→Hd) (r:Hd×Option Nat):Hd:=match r with
 | (h,some pa)=>F h pa
 | (h,none)=>wkG F (({ h with t:={ h.t with at_:=4 } }:Hd).walked tbT)
theorem dwG_x (hB:B≤2 ^ 19) (hP:∀ (h:Hp) (H:Hd) (pa:Nat) (K:Value→Hp→Prop),HaN k h b H→H.t.ask=A0→H.t.e=E0→pa<2 ^ 64→H.told.length≤B→(∀ h',HaN k h' b (F H pa)→K (.tuple #[]) h')→X Tryz.prog 104 #[.pointer (some ⟨b,0,none⟩),ux pa] h K)
  (n:HaN k h b H) (e1:H.t.ask=A0) (e2:H.t.e=E0) (hl:H.told.length+2≤B) (hk:∀ h',HaN k h' b (wkG F (H.walked tbT))→K (.tuple #[]) h'):X Tryz.prog 55 #[.pointer (some ⟨b,0,none⟩)] h K:=by
 have htl:=walked_told H
 obtain ⟨H1,m,hm⟩:∃ H1 m,H.walked tbT=(H1,m):=⟨_,_,rfl⟩
 have hpa:∀ p,m=some p→p<2 ^ 64:=fun p e=>walked_lt (H:=H) (by rw [hm];exact e)
 rw [hm] at hk htl
 refine fnv (args:=_) mixed [] [] [] Tryz.func55 rfl (by kernel_rfl) (cw_ ?_)
 refine hwalked_x n (by omega) ?_
 rw [hm]
 intro h1 n1
 cases m with
 | none =>
  conv=>whnf
  exact hk h1 n1
 | some p =>
  have ht:=walked_some hm
  conv=>whnf
  refine hP h1 H1 p _ n1 (by rw [ht];exact e1) (by rw [ht];exact e2) (hpa p rfl) (by have:H1.told.length≤H.told.length+2:=htl;omega) fun h2 n2=>(cw_ ?_)
  exact hk h2 n2
theorem partG_x (hB:B≤2 ^ 19) (hP:∀ (h:Hp) (H:Hd) (pa:Nat) (K:Value→Hp→Prop),HaN k h b H→H.t.ask=A0→H.t.e=E0→pa<2 ^ 64→H.told.length≤B→(∀ h',HaN k h' b (F H pa)→K (.tuple #[]) h')→X Tryz.prog 104 #[.pointer (some ⟨b,0,none⟩),ux pa] h K)
  (n:HaN k h b H) (va:Nat) (hv:va<2 ^ 64) (e1:H.t.ask=A0) (e2:H.t.e=E0) (hl:H.told.length+3≤B) (hk:∀ h',HaN k h' b (trG F (H.translate tbT va H.t.e.access (dataP (H.f.at 768) H.priv)))→K (.tuple #[]) h'):X Tryz.prog 182 #[.pointer (some ⟨b,0,none⟩),ux va] h K:=by
 obtain ⟨c,s,r,ht,up⟩:=n.row
 have i:=n.inv
 have o:=i.ok
 have htl:=translate_told H va H.t.e.access (dataP (H.f.at 768) H.priv)
 have htt:=translate_t H va H.t.e.access (dataP (H.f.at 768) H.priv)
 obtain ⟨H1,m,hm⟩:∃ H1 m,H.translate tbT va H.t.e.access (dataP (H.f.at 768) H.priv)=(H1,m):=⟨_,_,rfl⟩
 have hpa:∀ p,m=some p→p<2 ^ 64:=fun p e=>translate_lt (H:=H) hv (by rw [hm];exact e)
 rw [hm] at hk htl htt
 refine fnv (args:=_) mixed [] [184, 291] [] Tryz.func182 rfl (by kernel_rfl) (cw_ ?_)
 refine ⟨_,(r.z o.len).ld 39 aggI4 rfl,cw_ ?_⟩
 refine ⟨_,hstate_x n ⟨rfl,rfl⟩,cw_ ?_⟩
 refine ⟨_,(r.z o.len).ld 1 aggPv rfl,cw_ ?_⟩
 refine ⟨_,sdata_x _ H.priv (o.f.at_lt 768) ⟨rfl,rfl⟩,cw_ ?_⟩
 refine htranslate_x n va H.t.e.access (dataP (H.f.at 768) H.priv) (by omega) hv i.e.access ?_
 rw [hm]
 intro h1 n1
 refine ⟨trivial,?_⟩
 cases m with
 | some p =>
  conv=>whnf
  refine hP h1 H1 p _ n1 (by rw [htt.1];exact e1) (by rw [htt.2];exact e2) (hpa p rfl) (by have:H1.told.length≤H.told.length+1:=htl;omega) fun h2 n2=>(cw_ ?_)
  exact hk h2 n2
 | none =>
  conv=>whnf
  obtain ⟨c1,s1,r1,ht1,up1⟩:=n1.row
  have o1:=n1.inv.ok
  refine wr_intro (by exact (r1.z o1.len).st 7 sizWhr (by show 7<71;decide) rfl rfl) (fun h2 at_h2 ot_h2=>cw_ ?_)
  have n2:HaN k h2 b { H1 with t:={ H1.t with at_:=4 } }:=HaN.turn1 up1 rfl o1.len at_h2 ot_h2 (n1.inv.at 4) rfl rfl rfl
  refine dwG_x hB hP n2 (by rw [← e1];exact htt.1) (by rw [← e2];exact htt.2) (by have:H1.told.length≤H.told.length+1:=htl;show H1.told.length+2≤B;omega) fun h3 n3=>(cw_ ?_)
  exact hk h3 n3
end
theorem trG_part2 (H:Hd) (va:Nat):H.part2 tbT fitsN va=trG (Hd.partAt2 fitsN) (H.translate tbT va H.t.e.access (dataP (H.f.at 768) H.priv)):=by
 unfold Hd.part2 Hd.dataWalked2 trG wkG
 rfl
theorem trG_part (H:Hd) (va:Nat):H.part tbT fitsN va=trG (Hd.partAt tbT fitsN) (H.translate tbT va H.t.e.access (dataP (H.f.at 768) H.priv)):=by
 unfold Hd.part Hd.dataWalked trG wkG
 rfl
end
end Go.Proofs.YtdhlpighdlnohaaGreat
namespace Go.Proofs.YtdhlpighdlnohaaGreat
open Go Go.Mid Go.RowKit Go.Bits
attribute [local irreducible] mid
section
set_option maxHeartbeats 16000000
variable {k h:Hp} {K:Value→Hp→Prop} {b:Nat} {H:Hd}
theorem cutE_x (va:Nat) (size:Int) {v:Nat} (hv:va<2 ^ 64) (e:splN va size=v) (hk:K (.int .i64 v) h):X Tryz.prog 190 #[ux va,.int .i64 size] h K:=cutN_x va size hv (by rw [e];exact hk)
theorem hpartAt_x (n:HaN k h b H) (pa:Nat) (hp:pa<2 ^ 64) (hs:H.t.ask.size=H.t.e.size) (hl:H.told.length+3≤2 ^ 19) (hk:∀ h',HaN k h' b (H.partAt tbT fitsN pa)→K (.tuple #[]) h'):X Tryz.prog 104 #[.pointer (some ⟨b,0,none⟩),ux pa] h K:=by
 have i:=n.inv
 have o:=i.ok
 unfold Hd.partAt at hk
 by_cases q0:0<H.t.ask.cut
 ·rw [if_pos q0] at hk
  exact hpartC_x n pa hp q0 hk
 rw [if_neg q0] at hk
 have hcl:=cut_le (va:=H.t.e.va) i.e.size.1
 have hclt:=spl_lt H.t.e.va H.t.e.size
 obtain ⟨c,s,r,ht,up⟩:=n.row
 obtain ⟨ct,hct⟩:∃ ct,splN H.t.e.va H.t.e.size=ct:=⟨_,rfl⟩
 rw [hct] at hk hcl hclt
 refine fnv (args:=_) mixed [] [] [] Tryz.func104 rfl (by kernel_rfl) (cw_ ?_)
 refine ⟨_,(r.z o.len).ld 47 aggI4 rfl,cw_ ?_⟩
 refine bf_ ?_ (by simpa using q0)
 refine wr_intro (by exact (r.z o.len).st 45 sizU (by show 45<71;decide) rfl rfl) (fun h1 at_h1 ot_h1=>cw_ ?_)
 have n1:HaN k h1 b { H with t:={ H.t with ask:={ H.t.ask with addr:=pa } } }:=HaN.turn1 up rfl o.len at_h1 ot_h1 (i.ask H.t.at_ { H.t.ask with addr:=pa } hp i.next i.cut i.size) rfl rfl rfl
 obtain ⟨c1,s1,r1,ht1,up1⟩:=n1.row
 have i1:=n1.inv
 have o1:=i1.ok
 refine ⟨_,(r1.z o1.len).ld 41 aggU rfl,cw_ ?_⟩
 refine ⟨_,(r1.z o1.len).ld 42 aggI4 rfl,cw_ ?_⟩
 refine cutE_x H.t.e.va H.t.e.size i.e.va hct ?_
 refine ⟨trivial,cw_ ?_⟩
 refine br_ (fun q1=>?_) fun q1=>?_
 ·rw [if_pos (by omega)] at hk
  conv=>whnf
  refine wr_intro (by exact (r1.z o1.len).st 47 sizI4 (by show 47<71;decide) rfl rfl) (fun h2 at_h2 ot_h2=>cw_ ?_)
  have n2:HaN k h2 b { H with t:={ H.t with ask:={ H.t.ask with addr:=pa,cut:=ct } } }:=HaN.turn1 up1 rfl o1.len at_h2 ot_h2 (i.ask H.t.at_ { H.t.ask with addr:=pa,cut:=ct } hp i.next (by show 0≤(ct:Int)∧(ct:Int)≤H.t.ask.size;omega) i.size) rfl rfl rfl
  obtain ⟨c2,s2,r2,ht2,up2⟩:=n2.row
  refine ⟨_,(r2.z n2.inv.ok.len).ld 41 aggU rfl,cw_ ?_⟩
  refine ov_by (w64 hclt) (cw_ ?_)
  refine ov_by (addW H.t.e.va ct) (cw_ ?_)
  refine partG_x (A0:={ H.t.ask with addr:=pa,cut:=ct }) (E0:=H.t.e) (B:=2 ^ 19) (F:=Hd.partAt2 fitsN) (by decide) (fun h H' pa K n e1 _ hp _ hk=>hpartC_x n pa hp (by rw [e1];show 0<(ct:Int);omega) hk) n2 _ (Nat.mod_lt _ (by decide)) rfl rfl hl fun h3 n3=>(cw_ ?_)
  rw [← trG_part2] at n3
  exact hk h3 n3
 ·rw [if_neg (by omega)] at hk
  conv=>whnf
  refine hreach_x n1 fun h2 n2=>(cw_ ?_)
  exact hk h2 n2
theorem hdataWalked_x (n:HaN k h b H) (hs:H.t.ask.size=H.t.e.size) (hl:H.told.length+2+3≤2 ^ 19) (hk:∀ h',HaN k h' b (H.dataWalked tbT fitsN)→K (.tuple #[]) h'):X Tryz.prog 55 #[.pointer (some ⟨b,0,none⟩)] h K:=by
 refine dwG_x (A0:=H.t.ask) (E0:=H.t.e) (B:=2 ^ 19 - 3) (F:=Hd.partAt tbT fitsN) (by decide) (fun h H' pa K n e1 e2 hp hl hk=>hpartAt_x n pa hp (by rw [e1,e2];exact hs) (by omega) hk) n rfl rfl (by omega) fun h1 n1=>hk h1 ?_
 have:H.dataWalked tbT fitsN=wkG (Hd.partAt tbT fitsN) (H.walked tbT):=by unfold Hd.dataWalked wkG;rfl
 rw [this]
 exact n1
theorem hpart_x (n:HaN k h b H) (va:Nat) (hv:va<2 ^ 64) (hs:H.t.ask.size=H.t.e.size) (hl:H.told.length+3+3≤2 ^ 19) (hk:∀ h',HaN k h' b (H.part tbT fitsN va)→K (.tuple #[]) h'):X Tryz.prog 182 #[.pointer (some ⟨b,0,none⟩),ux va] h K:=by
 refine partG_x (A0:=H.t.ask) (E0:=H.t.e) (B:=2 ^ 19 - 3) (F:=Hd.partAt tbT fitsN) (by decide) (fun h H' pa K n e1 e2 hp hl hk=>hpartAt_x n pa hp (by rw [e1,e2];exact hs) (by omega) hk) n va hv rfl rfl (by omega) fun h1 n1=>hk h1 ?_
 rw [trG_part]
 exact n1
theorem haccess_x (n:HaN k h b H) (hl:H.told.length+3+3≤2 ^ 19) (hk:∀ h',HaN k h' b (H.access tbT fitsN)→K (.tuple #[]) h'):X Tryz.prog 102 #[.pointer (some ⟨b,0,none⟩)] h K:=by
 obtain ⟨c,s,r,ht,up⟩:=n.row
 have i:=n.inv
 have o:=i.ok
 unfold Hd.access at hk
 refine fnv (args:=_) mixed [] [] [] Tryz.func102 rfl (by kernel_rfl) (cw_ ?_)
 refine ⟨_,(r.z o.len).ld 40 aggKd rfl,cw_ ?_⟩
 refine ⟨_,(r.z o.len).ld 42 aggI4 rfl,cw_ ?_⟩
 refine ⟨_,(r.z o.len).ld 43 aggU rfl,cw_ ?_⟩
 refine big_by (v:=.agg (Ak.cs { Ak.zero with kind:=H.t.e.ask,size:=H.t.e.size,data:=H.t.e.data }).toArray) (by kernel_rfl) (cw_ ?_)
 refine wr_intro (by exact st_ask { Ak.zero with kind:=H.t.e.ask,size:=H.t.e.size,data:=H.t.e.data } (r.z o.len)) (fun h1 at_h1 ot_h1=>cw_ ?_)
 refine ⟨trivial,cw_ ?_⟩
 have n1:HaN k h1 b { H with t:={ H.t with ask:={ Ak.zero with kind:=H.t.e.ask,size:=H.t.e.size,data:=H.t.e.data } } }:=HaN.turn1 up rfl o.len at_h1 ot_h1 (i.ask H.t.at_ { Ak.zero with kind:=H.t.e.ask,size:=H.t.e.size,data:=H.t.e.data } (by show (0:Nat)<2 ^ 64;decide) (by show (0:Nat)<2 ^ 64;decide) ⟨Int.le_refl 0,i.e.size.1⟩ i.e.size) rfl rfl rfl
 obtain ⟨c1,s1,r1,ht1,up1⟩:=n1.row
 refine ⟨_,(r1.z n1.inv.ok.len).ld 41 aggU rfl,cw_ ?_⟩
 refine hpart_x n1 H.t.e.va i.e.va rfl hl fun h2 n2=>(cw_ ?_)
 exact hk h2 n2
end
end Go.Proofs.YtdhlpighdlnohaaGreat
namespace Go.Proofs.YtdhlpighdlnohaaGreat
open Go Go.Mid Go.RowKit Go.Bits
abbrev rfXHtL0:Go.Mid.RF:=[(1,1),(3,1),(6,1),(7,1),(10,1),(2,2)]
attribute [local irreducible] mid
theorem plain_ok {r:Rq} (h:r.ok):(plainQ r).ok:=by
 obtain ⟨h1,h2,h3⟩:=h
 unfold plainQ
 refine ⟨?_,?_,?_⟩
 ·show (if r.v then r.va else 0)<_;split;exact h1;decide
 ·show _≤(if r.a then r.asid else 0);split;exact h2;decide
 ·show (if r.a then r.asid else 0)≤_;split;exact h3;decide
theorem after_le:∀ (f g:Nat) {m j:Nat},afterN m f g=some j→g≤j∧j<g+f
 | 0,g,m,j,e=>by cases e
 | f+1,g,m,j,e=>by
  unfold afterN at e
  split at e
  ·cases e;omega
  ·have:=after_le f (g+1) e;omega
section
set_option maxHeartbeats 16000000
variable {k h:Hp} {K:Value→Hp→Prop} {b:Nat} {H:Hd}
theorem mplain_x (r:Rq) (hk:K (.agg (plainQ r).cs.toArray) h):X Tryz.prog 296 #[.agg r.cs.toArray] h K:=by
 obtain ⟨s,v,a,va,asid⟩:=r
 unfold plainQ at hk
 cases v <;> cases a
 all_goals
  refine fnv (args:=_) mixed rfXHtL0 [] [] Tryz.func296 rfl (by kernel_rfl) (cw_ ?_)
  exact hk
theorem safter_x {o:Nat} {el:TypeId} {A B:List Value} {s:Sho} (p:Pa h b o el A s.cs B) (hm:s.mask<2 ^ 64) (fr:Nat) (hf:fr≤8) (hk0:s.after fr=none→K (.bool false) h) (hk1:∀ j h',s.after fr=some j→Pa h' b o el A ({ s with next:=j }:Sho).cs B→(∀ d,d≠b→h' d=h d)→K (.bool true) h'):X Tryz.prog 107 #[.pointer (some ⟨b,o,none⟩),.int .i64 fr] h K:=by
 obtain ⟨R,hR⟩:∃ R,s.after fr=R:=⟨_,rfl⟩
 rw [hR] at hk0 hk1
 unfold Sho.after at hR
 refine fnv (args:=_) mixed [] [] [] Tryz.func107 rfl (by kernel_rfl) (cw_ ?_)
 refine loop_at [5] [] (fun r vs _ h'=>h=h'∧∃ g:Nat,g≤8∧r=8 - g∧vs=[.v (.int .i64 g)]∧afterN s.mask (8 - g) g=R) (8 - fr) ⟨rfl,fr,hf,rfl,rfl,hR⟩ ?_
 rintro r vs cs mm bx _ ⟨rfl,g,hg,rfl,rfl,hgR⟩
 conv=>whnf
 refine br_ (fun q1=>?_) fun q1=>?_
 ·have hg7:g<8:=by omega
  obtain ⟨f,hf8⟩:∃ f,8 - g=f+1:=⟨7 - g,by omega⟩
  rw [hf8] at hgR
  unfold afterN at hgR
  obtain ⟨d,hd⟩:∃ d,s.mask / 2 ^ g=d:=⟨_,rfl⟩
  have hd1:d<2 ^ 64:=by rw [← hd];exact Nat.lt_of_le_of_lt (Nat.div_le_self _ _) hm
  rw [hd] at hgR
  conv=>whnf
  refine ⟨_,p.ld 5 aggU rfl,cw_ ?_⟩
  refine ov_by (w64 (show g<2 ^ 64 by omega)) (cw_ ?_)
  refine val_by ((shr64 s.mask g (by omega)).trans (congrArg (fun n:Nat=>(n:Int)) hd)) (cw_ ?_)
  refine val_by ((and64 hd1 (show 1<2 ^ 64 by decide)).trans (congrArg (fun n:Nat=>(n:Int)) (Nat.and_one_is_mod d))) (cw_ ?_)
  refine br_ (fun q2=>?_) fun q2=>?_
  ·rw [if_pos (by omega)] at hgR
   conv=>whnf
   refine wr_intro (by exact p.st 6 sizI4 (by show 6<7;decide) rfl rfl) (fun h1 at_h1 ot_h1=>cw_ ?_)
   exact hk1 g h1 hgR.symm ⟨at_h1,p.len⟩ ot_h1
  ·rw [if_neg (by omega)] at hgR
   conv=>whnf
   refine n_ ?_
   exact ⟨8 - (g+1),by omega,rfl,g+1,by omega,rfl,rfl,by rw [show 8 - (g+1)=f by omega];exact hgR⟩
 ·obtain rfl:g=8:=by omega
  conv=>whnf
  exact hk0 hgR.symm
theorem HaR.shot {c:Nat} {s:Value} (r:HaR h b H c s) (o:H.a.length=62):Pa h b 125 harT (H.a++(zP2 H c++(H.t.x.cs++(H.t.e.cs++H.t.ask.cs)))) H.t.shot.cs [s]:=⟨by rw [r];show some (rowO harT (H.a++H.z c s))=_;rw [z_shot];simp only [List.append_assoc],by rw [List.length_append,o];rfl⟩
theorem HaR.ofShot {x:Sho} {c:Nat} {s:Value} (r:Pa h b 125 harT (H.a++(zP2 H c++(H.t.x.cs++(H.t.e.cs++H.t.ask.cs)))) x.cs [s]):HaR h b { H with t:={ H.t with shot:=x } } c s:=by
 unfold HaR
 rw [r.row]
 show _=some (rowO harT (H.a++({ H with t:={ H.t with shot:=x } }:Hd).z c s))
 rw [z_shot]
 simp only [List.append_assoc]
 rfl
theorem Hd.inv.shot {H:Hd} (i:H.inv) (a:Int) (x:Sho) (h1:x.mask<2 ^ 64) (h2:0≤x.next∧x.next≤7):({ H with t:={ H.t with at_:=a,shot:=x } }:Hd).inv:={ i with ok:=⟨i.ok.r,i.ok.rw,i.ok.f,i.ok.pc⟩,mask:=h1,nx:=h2 }
theorem hafter_x (n:HaN k h b H) (fr:Nat) (hf:fr≤8) (hk0:H.t.shot.after fr=none→K (.bool false) h) (hk1:∀ j h',H.t.shot.after fr=some j→HaN k h' b { H with t:={ H.t with shot:={ H.t.shot with next:=j } } }→K (.bool true) h'):X Tryz.prog 107 #[.pointer (some ⟨b,125,none⟩),.int .i64 fr] h K:=by
 obtain ⟨c,s,r,ht,up⟩:=n.row
 have i:=n.inv
 refine safter_x (r.shot i.ok.len) i.mask fr hf hk0 fun j h1 e p1 o1=>hk1 j h1 e (up h1 _ (HaR.ofShot p1) (fun d x hd e=>by rw [o1 d hd];exact e) (i.shot H.t.at_ _ i.mask ?_) rfl rfl rfl)
 have:=after_le _ _ (show afterN _ _ _=some j from e)
 show (0:Int)≤(j:Int)∧(j:Int)≤7
 omega
theorem hposted_x (n:HaN k h b H) (hk:∀ h',HaN k h' b H.posted→K (.tuple #[]) h'):X Tryz.prog 58 #[.pointer (some ⟨b,0,none⟩)] h K:=by
 obtain ⟨c,s,r,ht,up⟩:=n.row
 have i:=n.inv
 have o:=i.ok
 have hnx:=i.nx
 obtain ⟨j,hj⟩:∃ j:Nat,H.t.shot.next+1=(j:Int):=⟨(H.t.shot.next+1).toNat,by omega⟩
 unfold Hd.posted at hk
 rw [hj,Int.toNat_natCast] at hk
 refine fnv (args:=_) mixed [] [] [] Tryz.func58 rfl (by kernel_rfl) (cw_ ?_)
 refine ⟨_,(r.z o.len).ld 69 aggI4 rfl,cw_ ?_⟩
 refine ov_is hj (by omega) (cw_ ?_)
 refine hafter_x n j (by omega) (fun e=>?_) fun y h1 e n1=>?_
 ·rw [e] at hk
  refine ⟨trivial,cw_ ?_⟩
  refine hafter_x n 0 (by decide) (fun e0=>?_) fun y h1 e0 n1=>?_
  ·simp only [e0] at hk
   conv=>whnf
   refine wr_intro (by exact (r.z o.len).st 7 sizWhr (by show 7<71;decide) rfl rfl) (fun h2 at_h2 ot_h2=>cw_ ?_)
   exact hk h2 (HaN.turn1 up rfl o.len at_h2 ot_h2 (i.at 8) rfl rfl rfl)
  ·simp only [e0] at hk
   conv=>whnf
   obtain ⟨c1,s1,r1,ht1,up1⟩:=n1.row
   have o1:=n1.inv.ok
   refine wr_intro (by exact (r1.z o1.len).st 7 sizWhr (by show 7<71;decide) rfl rfl) (fun h2 at_h2 ot_h2=>cw_ ?_)
   exact hk h2 (HaN.turn1 up1 rfl o1.len at_h2 ot_h2 (n1.inv.at 8) rfl rfl rfl)
 ·rw [e] at hk
  refine ⟨trivial,cw_ ?_⟩
  exact hk h1 n1
theorem hchecked_x (n:HaN k h b H) (g:Bool) (hk:∀ h',HaN k h' b (H.checked g)→K (.tuple #[]) h'):X Tryz.prog 59 #[.pointer (some ⟨b,0,none⟩),.bool g] h K:=by
 obtain ⟨c,s,r,ht,up⟩:=n.row
 have i:=n.inv
 have o:=i.ok
 have hnx:=i.nx
 obtain ⟨j,hj⟩:∃ j:Nat,H.t.shot.next+1=(j:Int):=⟨(H.t.shot.next+1).toNat,by omega⟩
 unfold Hd.checked at hk
 rw [hj,Int.toNat_natCast] at hk
 cases g with
 | false =>
  refine fnv (args:=_) mixed [] [] [] Tryz.func59 rfl (by kernel_rfl) (cw_ ?_)
  refine wr_intro (by exact (r.z o.len).st 7 sizWhr (by show 7<71;decide) rfl rfl) (fun h2 at_h2 ot_h2=>cw_ ?_)
  exact hk h2 (HaN.turn1 up rfl o.len at_h2 ot_h2 (i.at 8) rfl rfl rfl)
 | true =>
  rw [if_pos rfl] at hk
  refine fnv (args:=_) mixed [] [] [] Tryz.func59 rfl (by kernel_rfl) (cw_ ?_)
  refine ⟨_,(r.z o.len).ld 69 aggI4 rfl,cw_ ?_⟩
  refine ov_is hj (by omega) (cw_ ?_)
  refine hafter_x n j (by omega) (fun e=>?_) fun y h1 e n1=>?_
  ·rw [e] at hk
   refine ⟨trivial,cw_ ?_⟩
   refine hhit_x n fun h1 n1=>(cw_ ?_)
   exact hk h1 n1
  ·rw [e] at hk
   refine ⟨trivial,cw_ ?_⟩
   obtain ⟨c1,s1,r1,ht1,up1⟩:=n1.row
   have o1:=n1.inv.ok
   refine wr_intro (by exact (r1.z o1.len).st 7 sizWhr (by show 7<71;decide) rfl rfl) (fun h2 at_h2 ot_h2=>cw_ ?_)
   exact hk h2 (HaN.turn1 up1 rfl o1.len at_h2 ot_h2 (n1.inv.at 8) rfl rfl rfl)
end
end Go.Proofs.YtdhlpighdlnohaaGreat
