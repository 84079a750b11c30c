/-
  Instructions as words: the rows.
-/
import Derived.Test.YtdhlpighdlnohaaGreatHtQ
import Derived.Test.YtdhlpighdlnohaaGreatFmt
import Derived.Test.YtdhlpighdlnohaaGreatCsC
set_option linter.unusedSimpArgs false
set_option linter.unusedVariables false
set_option maxHeartbeats 8000000
set_option maxRecDepth 10000
set_option linter.unusedSimpArgs false
set_option linter.unusedVariables false
namespace Go.Proofs.YtdhlpighdlnohaaGreat
open Go Go.Mid Go.RowKit Go.Bits
attribute [local irreducible] mid
theorem tell_q (w:Wk) (d:Nat) (g:Bool):(w.tell d g).q=w.q:=by
 unfold Wk.tell
 repeat' split
 all_goals rfl
theorem tell_ok {w:Wk} (o:w.ok) {d:Nat} (g:Bool) (hd:d<2 ^ 64):(w.tell d g).ok:=by
 unfold Wk.tell
 split
 ·exact o
 split
 ·split
  ·exact ⟨o.root,o.va,o.lev,o.place,mark_lt o.entry⟩
  ·exact Wk.ok.look (w:={ w with again:=IntKind.i64.wrap (w.again+1) }) ⟨o.root,o.va,o.lev,o.place,o.entry⟩ w.q.root 2 (by decide)
 split
 ·exact ⟨o.root,o.va,o.lev,o.place,hd⟩
 split
 ·exact Wk.ok.look (w:={ w with entry:=d }) ⟨o.root,o.va,o.lev,o.place,hd⟩ _ _ (by have:=o.lev;omega)
 split
 ·exact ⟨o.root,o.va,o.lev,o.place,hd⟩
 split
 ·exact ⟨o.root,o.va,o.lev,o.place,hd⟩
 ·exact ⟨o.root,o.va,o.lev,o.place,hd⟩
structure Hd.J (H:Hd):Prop where
 lo:0≤H.t.at_∧H.t.at_≤9
 sz:H.t.at_=4→H.t.ask.size=H.t.e.size
 told:H.told.length≤1000
section
set_option maxHeartbeats 16000000
variable {k h:Hp} {K:Value→Hp→Prop} {b:Nat} {H:Hd}
theorem aggWhr:isAggT Tryz.prog 121 = some false:=by kernel_rfl
theorem sizU32:sizeT Tryz.prog 126 = some 1:=by kernel_rfl
theorem htell_x {dec:Nat→Option Ins} (hdec:DecX dec) (n:HaN k h b H) (j:H.J) (a:An) (ha:a.ok) (hk:∀ h' s k' ob,k.le k'→Gr k' akT 19 s (H.tell tbT fitsN dec a).2.length ((H.tell tbT fitsN dec a).2.flatMap Ak.cs) ob→HaN k' h' b (H.tell tbT fitsN dec a).1→K s h'):X Tryz.prog 15 #[.pointer (some ⟨b,0,none⟩),.agg a.cs.toArray] h K:=by
 have i:=n.inv
 have o:=i.ok
 have hd:=ha.data
 have jt:=j.told
 obtain ⟨a0,ea⟩:∃ a0,H.t.at_=a0:=⟨_,rfl⟩
 have hlo:=j.lo
 have hsz:=j.sz
 rw [ea] at hlo hsz
 have hk2:∀ G,H.go tbT fitsN dec a=G→∀ h' s k' ob,k.le k'→Gr k' akT 19 s G.told.length (G.told.flatMap Ak.cs) ob→HaN k' h' b { G with told:=[] }→K s h':=fun G e=>by subst e;exact hk
 clear hk
 unfold Hd.go at hk2
 rw [ea] at hk2
 have c9:a0=0∨a0=1∨a0=2∨a0=3∨a0=4∨a0=5∨a0=6∨a0=7∨a0=8∨a0=9:=by omega
 rcases c9 with rfl | rfl | rfl | rfl | rfl | rfl | rfl | rfl | rfl | rfl
 ·refine fnv (args:=_) mixed [] [] [] Tryz.func15 rfl (by kernel_rfl) (cw_ ?_)
  refine new_intro (o:=rowO 86 a.cs) (fun z g1 n_z le_z at_z ot_z=>cw_ ?_)
  have n1:=n.up le_z
  obtain ⟨c,s,r,ht,up⟩:=n1.row
  have l7:(H.z c s)[7]? = some (.int .i64 0):=by rw [← ea];rfl
  refine ⟨_,(r.z o.len).ld 7 aggWhr l7,cw_ ?_⟩
  refine ⟨_,loadPA (k:=2) rfl aggRq8 sizRq8 at_z rfl rfl,cw_ ?_⟩
  refine hdrain_x n1 a.m0 a.m1 a.m2 a.m3 a.m4 a.m5 a.m6 a.m7 ha.ms jt fun g2 n2=>(cw_ ?_)
  obtain ⟨c2,s2,r2,ht2,up2⟩:=n2.row
  have o2:=n2.inv.ok
  refine wr_intro (by exact (r2.z o2.len).st 7 sizWhr (by show 7<71;decide) rfl rfl) (fun g3 at_g3 ot_g3=>cw_ ?_)
  have nE:HaN k g3 b { (H.drain tbT a.ms) with t:={ (H.drain tbT a.ms).t with at_:=1 } }:=HaN.turn1 up2 rfl o2.len at_g3 ot_g3 (n2.inv.at 1) rfl rfl rfl
  refine hflushed_x nE fun h9 s9 k9 ob9 q1 q2 q3=>(cw_ ?_)
  exact hk2 _ rfl h9 s9 k9 ob9 q1 q2 q3
 ·refine fnv (args:=_) mixed [] [] [] Tryz.func15 rfl (by kernel_rfl) (cw_ ?_)
  refine new_intro (o:=rowO 86 a.cs) (fun z g1 n_z le_z at_z ot_z=>cw_ ?_)
  have n1:=n.up le_z
  obtain ⟨c,s,r,ht,up⟩:=n1.row
  have l7:(H.z c s)[7]? = some (.int .i64 1):=by rw [← ea];rfl
  refine ⟨_,(r.z o.len).ld 7 aggWhr l7,cw_ ?_⟩
  refine ⟨_,loadC0 aggU at_z rfl,cw_ ?_⟩
  refine wr_intro (by exact (r.z o.len).st 8 sizU (by show 8<71;decide) rfl rfl) (fun g2 at_g2 ot_g2=>cw_ ?_)
  have n2:HaN k g2 b { H with t:={ H.t with lines:=a.data } }:=HaN.turn1 up rfl o.len at_g2 ot_g2 (i.lin hd) rfl rfl rfl
  refine hwake_x n2 (Nat.le_trans (Nat.add_le_add_right jt (1)) (by decide)) fun g3 nE=>(cw_ ?_)
  refine hflushed_x nE fun h9 s9 k9 ob9 q1 q2 q3=>(cw_ ?_)
  exact hk2 _ rfl h9 s9 k9 ob9 q1 q2 q3
 ·refine fnv (args:=_) mixed [] [] [] Tryz.func15 rfl (by kernel_rfl) (cw_ ?_)
  refine new_intro (o:=rowO 86 a.cs) (fun z g1 n_z le_z at_z ot_z=>cw_ ?_)
  have n1:=n.up le_z
  obtain ⟨c,s,r,ht,up⟩:=n1.row
  have l7:(H.z c s)[7]? = some (.int .i64 2):=by rw [← ea];rfl
  refine ⟨_,(r.z o.len).ld 7 aggWhr l7,cw_ ?_⟩
  refine ⟨_,loadA0 aggAn sizAn at_z rfl,cw_ ?_⟩
  refine wtell_x (r.wk o.len) i.w a hd fun g2 p2 o2=>?_
  refine ⟨trivial,cw_ ?_⟩
  have n2:HaN k g2 b { H with t:={ H.t with wk:=H.t.wk.tell a.data a.good } }:=up g2 _ (HaR.ofWk p2) (fun d x hd e=>by rw [o2 d hd];exact e) { i with ok:=⟨o.r,o.rw,o.f,o.pc⟩,w:=tell_ok i.w a.good hd,wa:=by rw [show ({ H with t:={ H.t with wk:=H.t.wk.tell a.data a.good } }:Hd).t.wk.q=H.t.wk.q from tell_q _ _ _];exact i.wa } rfl rfl rfl
  refine hfetchWalked_x n2 (Nat.le_trans (Nat.add_le_add_right jt (1)) (by decide)) fun g3 nE=>(cw_ ?_)
  refine hflushed_x nE fun h9 s9 k9 ob9 q1 q2 q3=>(cw_ ?_)
  exact hk2 _ rfl h9 s9 k9 ob9 q1 q2 q3
 ·refine fnv (args:=_) mixed [] [] [] Tryz.func15 rfl (by kernel_rfl) (cw_ ?_)
  refine new_intro (o:=rowO 86 a.cs) (fun z g1 n_z le_z at_z ot_z=>cw_ ?_)
  have n1:=n.up le_z
  obtain ⟨c,s,r,ht,up⟩:=n1.row
  have l7:(H.z c s)[7]? = some (.int .i64 3):=by rw [← ea];rfl
  refine ⟨_,(r.z o.len).ld 7 aggWhr l7,cw_ ?_⟩
  refine ⟨_,loadC0 aggU at_z rfl,cw_ ?_⟩
  refine ov_by (toU32 a.data) (cw_ ?_)
  refine wr_intro (by exact (r.z o.len).st 23 sizU32 (by show 23<71;decide) rfl rfl) (fun g2 at_g2 ot_g2=>cw_ ?_)
  have n2:HaN k g2 b { H with t:={ H.t with word:=a.data % 4294967296 } }:=HaN.turn1 up rfl o.len at_g2 ot_g2 { i with ok:=⟨o.r,o.rw,o.f,o.pc⟩,word:=Nat.mod_lt _ (by decide) } rfl rfl rfl
  refine hdecode_x hdec n2 (show H.told.length+3+3≤2 ^ 19 from Nat.le_trans (Nat.add_le_add_right (Nat.add_le_add_right jt _) _) (by decide)) fun g3 nE=>(cw_ ?_)
  refine hflushed_x nE fun h9 s9 k9 ob9 q1 q2 q3=>(cw_ ?_)
  exact hk2 _ rfl h9 s9 k9 ob9 q1 q2 q3
 ·refine fnv (args:=_) mixed [] [] [] Tryz.func15 rfl (by kernel_rfl) (cw_ ?_)
  refine new_intro (o:=rowO 86 a.cs) (fun z g1 n_z le_z at_z ot_z=>cw_ ?_)
  have n1:=n.up le_z
  obtain ⟨c,s,r,ht,up⟩:=n1.row
  have l7:(H.z c s)[7]? = some (.int .i64 4):=by rw [← ea];rfl
  refine ⟨_,(r.z o.len).ld 7 aggWhr l7,cw_ ?_⟩
  refine ⟨_,loadA0 aggAn sizAn at_z rfl,cw_ ?_⟩
  refine wtell_x (r.wk o.len) i.w a hd fun g2 p2 o2=>?_
  refine ⟨trivial,cw_ ?_⟩
  have n2:HaN k g2 b { H with t:={ H.t with wk:=H.t.wk.tell a.data a.good } }:=up g2 _ (HaR.ofWk p2) (fun d x hd e=>by rw [o2 d hd];exact e) { i with ok:=⟨o.r,o.rw,o.f,o.pc⟩,w:=tell_ok i.w a.good hd,wa:=by rw [show ({ H with t:={ H.t with wk:=H.t.wk.tell a.data a.good } }:Hd).t.wk.q=H.t.wk.q from tell_q _ _ _];exact i.wa } rfl rfl rfl
  refine hdataWalked_x n2 (hsz rfl) (show H.told.length+2+3≤2 ^ 19 from Nat.le_trans (Nat.add_le_add_right (Nat.add_le_add_right jt _) _) (by decide)) fun g3 nE=>(cw_ ?_)
  refine hflushed_x nE fun h9 s9 k9 ob9 q1 q2 q3=>(cw_ ?_)
  exact hk2 _ rfl h9 s9 k9 ob9 q1 q2 q3
 ·refine fnv (args:=_) mixed [] [] [] Tryz.func15 rfl (by kernel_rfl) (cw_ ?_)
  refine new_intro (o:=rowO 86 a.cs) (fun z g1 n_z le_z at_z ot_z=>cw_ ?_)
  have n1:=n.up le_z
  obtain ⟨c,s,r,ht,up⟩:=n1.row
  have l7:(H.z c s)[7]? = some (.int .i64 5):=by rw [← ea];rfl
  refine ⟨_,(r.z o.len).ld 7 aggWhr l7,cw_ ?_⟩
  refine ⟨_,loadA0 aggAn sizAn at_z rfl,cw_ ?_⟩
  refine hlanded_x n1 a hd fun g3 nE=>(cw_ ?_)
  refine hflushed_x nE fun h9 s9 k9 ob9 q1 q2 q3=>(cw_ ?_)
  exact hk2 _ rfl h9 s9 k9 ob9 q1 q2 q3
 ·refine fnv (args:=_) mixed [] [] [] Tryz.func15 rfl (by kernel_rfl) (cw_ ?_)
  refine new_intro (o:=rowO 86 a.cs) (fun z g1 n_z le_z at_z ot_z=>cw_ ?_)
  have n1:=n.up le_z
  obtain ⟨c,s,r,ht,up⟩:=n1.row
  have l7:(H.z c s)[7]? = some (.int .i64 6):=by rw [← ea];rfl
  refine ⟨_,(r.z o.len).ld 7 aggWhr l7,cw_ ?_⟩
  refine ⟨_,(r.z o.len).ld 25 aggI4 rfl,cw_ ?_⟩
  refine ⟨_,loadC0 aggU at_z rfl,cw_ ?_⟩
  refine hset_x n1 H.t.x.rd a.data hd fun g2 n2=>?_
  refine ⟨trivial,cw_ ?_⟩
  obtain ⟨c2,s2,r2,ht2,up2⟩:=n2.row
  refine ⟨_,(r2.z n2.inv.ok.len).ld 0 aggU rfl,cw_ ?_⟩
  refine ov_by (n4_eq H.pc) (cw_ ?_)
  refine hretire_x n2 (n4 H.pc) (n4_lt _) fun g3 nE=>(cw_ ?_)
  refine hflushed_x nE fun h9 s9 k9 ob9 q1 q2 q3=>(cw_ ?_)
  exact hk2 _ rfl h9 s9 k9 ob9 q1 q2 q3
 ·refine fnv (args:=_) mixed [] [] [] Tryz.func15 rfl (by kernel_rfl) (cw_ ?_)
  refine new_intro (o:=rowO 86 a.cs) (fun z g1 n_z le_z at_z ot_z=>cw_ ?_)
  have n1:=n.up le_z
  obtain ⟨c,s,r,ht,up⟩:=n1.row
  have l7:(H.z c s)[7]? = some (.int .i64 7):=by rw [← ea];rfl
  refine ⟨_,(r.z o.len).ld 7 aggWhr l7,cw_ ?_⟩
  refine hposted_x n1 fun g3 nE=>(cw_ ?_)
  refine hflushed_x nE fun h9 s9 k9 ob9 q1 q2 q3=>(cw_ ?_)
  exact hk2 _ rfl h9 s9 k9 ob9 q1 q2 q3
 ·refine fnv (args:=_) mixed [] [] [] Tryz.func15 rfl (by kernel_rfl) (cw_ ?_)
  refine new_intro (o:=rowO 86 a.cs) (fun z g1 n_z le_z at_z ot_z=>cw_ ?_)
  have n1:=n.up le_z
  obtain ⟨c,s,r,ht,up⟩:=n1.row
  have l7:(H.z c s)[7]? = some (.int .i64 8):=by rw [← ea];rfl
  refine ⟨_,(r.z o.len).ld 7 aggWhr l7,cw_ ?_⟩
  refine ⟨_,loadPA (k:=2) rfl aggRq8 sizRq8 at_z rfl rfl,cw_ ?_⟩
  refine hdrain_x n1 a.m0 a.m1 a.m2 a.m3 a.m4 a.m5 a.m6 a.m7 ha.ms jt fun g2 n2=>(cw_ ?_)
  obtain ⟨c2,s2,r2,ht2,up2⟩:=n2.row
  have o2:=n2.inv.ok
  refine wr_intro (by exact (r2.z o2.len).st 7 sizWhr (by show 7<71;decide) rfl rfl) (fun g3 at_g3 ot_g3=>cw_ ?_)
  have nE:HaN k g3 b { (H.drain tbT a.ms) with t:={ (H.drain tbT a.ms).t with at_:=9 } }:=HaN.turn1 up2 rfl o2.len at_g3 ot_g3 (n2.inv.at 9) rfl rfl rfl
  refine hflushed_x nE fun h9 s9 k9 ob9 q1 q2 q3=>(cw_ ?_)
  exact hk2 _ rfl h9 s9 k9 ob9 q1 q2 q3
 ·refine fnv (args:=_) mixed [] [] [] Tryz.func15 rfl (by kernel_rfl) (cw_ ?_)
  refine new_intro (o:=rowO 86 a.cs) (fun z g1 n_z le_z at_z ot_z=>cw_ ?_)
  have n1:=n.up le_z
  obtain ⟨c,s,r,ht,up⟩:=n1.row
  have l7:(H.z c s)[7]? = some (.int .i64 9):=by rw [← ea];rfl
  refine ⟨_,(r.z o.len).ld 7 aggWhr l7,cw_ ?_⟩
  refine ⟨_,loadC (i:=1) aggB6 at_z rfl,cw_ ?_⟩
  refine hchecked_x n1 a.good fun g3 nE=>(cw_ ?_)
  refine hflushed_x nE fun h9 s9 k9 ob9 q1 q2 q3=>(cw_ ?_)
  exact hk2 _ rfl h9 s9 k9 ob9 q1 q2 q3
end
end Go.Proofs.YtdhlpighdlnohaaGreat
namespace Go.Proofs.YtdhlpighdlnohaaGreat
open Go Go.Mid Go.RowKit Go.Bits
attribute [local irreducible] mid
section
set_option maxHeartbeats 16000000
variable {k h:Hp} {K:Value→Hp→Prop} {b:Nat} {H:Hd}
theorem hturns_x (n:HaN k h b H) (hk:K (.int .i64 H.turns) h):X Tryz.prog 18 #[.pointer (some ⟨b,0,none⟩)] h K:=by
 obtain ⟨c,s,r,ht,up⟩:=n.row
 refine fnv (args:=_) mixed [] [] [] Tryz.func18 rfl (by kernel_rfl) (cw_ ?_)
 refine ⟨_,(r.z n.inv.ok.len).ld 5 aggI4 rfl,cw_ ?_⟩
 exact hk
theorem hretired_x (n:HaN k h b H) (hk:K (.int .i64 H.retired) h):X Tryz.prog 19 #[.pointer (some ⟨b,0,none⟩)] h K:=by
 obtain ⟨c,s,r,ht,up⟩:=n.row
 refine fnv (args:=_) mixed [] [] [] Tryz.func19 rfl (by kernel_rfl) (cw_ ?_)
 refine ⟨_,(r.z n.inv.ok.len).ld 6 aggI4 rfl,cw_ ?_⟩
 exact hk
theorem hrests_x (n:HaN k h b H) (hk:K (.bool (decide (H.t.at_=0))) h):X Tryz.prog 20 #[.pointer (some ⟨b,0,none⟩)] h K:=by
 obtain ⟨c,s,r,ht,up⟩:=n.row
 refine fnv (args:=_) mixed [] [] [] Tryz.func20 rfl (by kernel_rfl) (cw_ ?_)
 refine ⟨_,(r.z n.inv.ok.len).ld 7 aggWhr rfl,cw_ ?_⟩
 exact kq hk (bI (by rw [Bool.eq_iff_iff];simp))
theorem sto_x (s:Sho) (hk:K (.int .i64 s.next) h):X Tryz.prog 44 #[.agg s.cs.toArray] h K:=by
 refine fnv (args:=_) mixed [(1,1),(3,1)] [] [] Tryz.func44 rfl (by kernel_rfl) (cw_ ?_)
 exact hk
theorem hask_x (n:HaN k h b H) (j:H.J) (hk:K (.agg H.ask.cs.toArray) h):X Tryz.prog 13 #[.pointer (some ⟨b,0,none⟩)] h K:=by
 refine X.forget ?_
 have i:=n.inv
 have o:=i.ok
 have hlo:=j.lo
 obtain ⟨a0,ea⟩:∃ a0,H.t.at_=a0:=⟨_,rfl⟩
 rw [ea] at hlo
 obtain ⟨x,hx⟩:∃ x,H.ask=x:=⟨_,rfl⟩
 rw [hx] at hk
 unfold Hd.ask at hx
 rw [ea] at hx
 have c9:a0=0∨a0=1∨a0=2∨a0=3∨a0=4∨a0=5∨a0=6∨a0=7∨a0=8∨a0=9:=by omega
 rcases c9 with rfl | rfl | rfl | rfl | rfl | rfl | rfl | rfl | rfl | rfl
 ·refine fnv (args:=_) mixed [] [44] [] Tryz.func13 rfl (by kernel_rfl) (cw_ ?_)
  refine new_intro (o:=_) (fun z g1 n_z le_z at_z ot_z=>cw_ ?_)
  have n1:=n.up le_z
  obtain ⟨c,s,r,ht,up⟩:=n1.row
  have hzb:z≠b:=fun e=>by
   obtain ⟨_,_,rb,_⟩:=n.row
   rw [e,(show h b=some _ from rb)] at n_z;cases n_z
  refine ⟨_,(r.z o.len).ld 7 aggWhr (show (H.z c s)[7]? = some (.int .i64 0) by rw [← ea];rfl),?_⟩;conv=>whnf
  refine big_by (v:=.agg x.cs.toArray) (by rw [← hx];kernel_rfl) (cw_ ?_)
  refine wr_intro (by exact storeA0 (z:=.agg x.cs.toArray) sizAk at_z rfl (ak_len x) (ak_one x)) (fun g2 at_g2 ot_g2=>cw_ ?_)
  refine ⟨_,loadA0 aggAk sizAk at_g2 (ak_len x),cw_ ?_⟩
  exact ⟨h,Hp.le_st n_z le_z ot_g2,hk⟩
 ·refine fnv (args:=_) mixed [] [44] [] Tryz.func13 rfl (by kernel_rfl) (cw_ ?_)
  refine new_intro (o:=_) (fun z g1 n_z le_z at_z ot_z=>cw_ ?_)
  have n1:=n.up le_z
  obtain ⟨c,s,r,ht,up⟩:=n1.row
  have hzb:z≠b:=fun e=>by
   obtain ⟨_,_,rb,_⟩:=n.row
   rw [e,(show h b=some _ from rb)] at n_z;cases n_z
  refine ⟨_,(r.z o.len).ld 7 aggWhr (show (H.z c s)[7]? = some (.int .i64 1) by rw [← ea];rfl),?_⟩;conv=>whnf
  refine big_by (v:=.agg x.cs.toArray) (by rw [← hx];kernel_rfl) (cw_ ?_)
  refine wr_intro (by exact storeA0 (z:=.agg x.cs.toArray) sizAk at_z rfl (ak_len x) (ak_one x)) (fun g2 at_g2 ot_g2=>cw_ ?_)
  refine ⟨_,loadA0 aggAk sizAk at_g2 (ak_len x),cw_ ?_⟩
  exact ⟨h,Hp.le_st n_z le_z ot_g2,hk⟩
 ·have hx2:H.t.wk.ask=x:=by simpa using hx
  clear hx
  refine fnv (args:=_) mixed [] [44] [] Tryz.func13 rfl (by kernel_rfl) (cw_ ?_)
  refine new_intro (o:=_) (fun z g1 n_z le_z at_z ot_z=>cw_ ?_)
  have n1:=n.up le_z
  obtain ⟨c,s,r,ht,up⟩:=n1.row
  have hzb:z≠b:=fun e=>by
   obtain ⟨_,_,rb,_⟩:=n.row
   rw [e,(show h b=some _ from rb)] at n_z;cases n_z
  refine ⟨_,(r.z o.len).ld 7 aggWhr (show (H.z c s)[7]? = some (.int .i64 2) by rw [← ea];rfl),?_⟩;conv=>whnf
  refine wask_x (r.wk o.len) i.w ?_
  rw [hx2]
  conv=>whnf
  refine new_intro (o:=_) (fun y g3 n_y le_y at_y ot_y=>cw_ ?_)
  refine wr_intro (by exact storeA0 (z:=.agg x.cs.toArray) sizAk at_y rfl (ak_len x) (ak_one x)) (fun g4 at_g4 ot_g4=>cw_ ?_)
  refine ⟨_,loadA0 aggAk sizAk at_g4 (ak_len x),cw_ ?_⟩
  have hzy:z≠y:=fun e=>by rw [e] at at_z;rw [at_z] at n_y;cases n_y
  have at_z2:=(ot_g4 z hzy).trans (le_y _ _ at_z)
  refine wr_intro (by exact storeA0 (z:=.agg x.cs.toArray) sizAk at_z2 rfl (ak_len x) (ak_one x)) (fun g5 at_g5 ot_g5=>cw_ ?_)
  refine ⟨_,loadA0 aggAk sizAk at_g5 (ak_len x),cw_ ?_⟩
  exact ⟨h,fun d o e=>by
   have h1:d≠z:=fun e2=>by rw [e2,n_z] at e;cases e
   have h2:d≠y:=fun e2=>by rw [e2] at e;rw [le_z _ _ e] at n_y;cases n_y
   rw [ot_g5 d h1,ot_g4 d h2]
   exact le_y _ _ (le_z _ _ e),hk⟩
 ·have hx2:H.t.ask=x:=by simpa using hx
  subst hx2
  refine fnv (args:=_) mixed [] [44] [] Tryz.func13 rfl (by kernel_rfl) (cw_ ?_)
  refine new_intro (o:=_) (fun z g1 n_z le_z at_z ot_z=>cw_ ?_)
  have n1:=n.up le_z
  obtain ⟨c,s,r,ht,up⟩:=n1.row
  have hzb:z≠b:=fun e=>by
   obtain ⟨_,_,rb,_⟩:=n.row
   rw [e,(show h b=some _ from rb)] at n_z;cases n_z
  refine ⟨_,(r.z o.len).ld 7 aggWhr (show (H.z c s)[7]? = some (.int .i64 3) by rw [← ea];rfl),?_⟩;conv=>whnf
  refine ⟨_,(r.z o.len).ldA 44 aggAk sizAk (x:=H.t.ask.cs) rfl rfl,cw_ ?_⟩
  refine wr_intro (by exact storeA0 (z:=.agg H.t.ask.cs.toArray) sizAk at_z rfl (ak_len H.t.ask) (ak_one H.t.ask)) (fun g2 at_g2 ot_g2=>cw_ ?_)
  refine ⟨_,loadA0 aggAk sizAk at_g2 (ak_len H.t.ask),cw_ ?_⟩
  exact ⟨h,Hp.le_st n_z le_z ot_g2,hk⟩
 ·have hx2:H.t.wk.ask=x:=by simpa using hx
  clear hx
  refine fnv (args:=_) mixed [] [44] [] Tryz.func13 rfl (by kernel_rfl) (cw_ ?_)
  refine new_intro (o:=_) (fun z g1 n_z le_z at_z ot_z=>cw_ ?_)
  have n1:=n.up le_z
  obtain ⟨c,s,r,ht,up⟩:=n1.row
  have hzb:z≠b:=fun e=>by
   obtain ⟨_,_,rb,_⟩:=n.row
   rw [e,(show h b=some _ from rb)] at n_z;cases n_z
  refine ⟨_,(r.z o.len).ld 7 aggWhr (show (H.z c s)[7]? = some (.int .i64 4) by rw [← ea];rfl),?_⟩;conv=>whnf
  refine wask_x (r.wk o.len) i.w ?_
  rw [hx2]
  conv=>whnf
  refine new_intro (o:=_) (fun y g3 n_y le_y at_y ot_y=>cw_ ?_)
  refine wr_intro (by exact storeA0 (z:=.agg x.cs.toArray) sizAk at_y rfl (ak_len x) (ak_one x)) (fun g4 at_g4 ot_g4=>cw_ ?_)
  refine ⟨_,loadA0 aggAk sizAk at_g4 (ak_len x),cw_ ?_⟩
  have hzy:z≠y:=fun e=>by rw [e] at at_z;rw [at_z] at n_y;cases n_y
  have at_z2:=(ot_g4 z hzy).trans (le_y _ _ at_z)
  refine wr_intro (by exact storeA0 (z:=.agg x.cs.toArray) sizAk at_z2 rfl (ak_len x) (ak_one x)) (fun g5 at_g5 ot_g5=>cw_ ?_)
  refine ⟨_,loadA0 aggAk sizAk at_g5 (ak_len x),cw_ ?_⟩
  exact ⟨h,fun d o e=>by
   have h1:d≠z:=fun e2=>by rw [e2,n_z] at e;cases e
   have h2:d≠y:=fun e2=>by rw [e2] at e;rw [le_z _ _ e] at n_y;cases n_y
   rw [ot_g5 d h1,ot_g4 d h2]
   exact le_y _ _ (le_z _ _ e),hk⟩
 ·have hx2:H.t.ask=x:=by simpa using hx
  subst hx2
  refine fnv (args:=_) mixed [] [44] [] Tryz.func13 rfl (by kernel_rfl) (cw_ ?_)
  refine new_intro (o:=_) (fun z g1 n_z le_z at_z ot_z=>cw_ ?_)
  have n1:=n.up le_z
  obtain ⟨c,s,r,ht,up⟩:=n1.row
  have hzb:z≠b:=fun e=>by
   obtain ⟨_,_,rb,_⟩:=n.row
   rw [e,(show h b=some _ from rb)] at n_z;cases n_z
  refine ⟨_,(r.z o.len).ld 7 aggWhr (show (H.z c s)[7]? = some (.int .i64 5) by rw [← ea];rfl),?_⟩;conv=>whnf
  refine ⟨_,(r.z o.len).ldA 44 aggAk sizAk (x:=H.t.ask.cs) rfl rfl,cw_ ?_⟩
  refine wr_intro (by exact storeA0 (z:=.agg H.t.ask.cs.toArray) sizAk at_z rfl (ak_len H.t.ask) (ak_one H.t.ask)) (fun g2 at_g2 ot_g2=>cw_ ?_)
  refine ⟨_,loadA0 aggAk sizAk at_g2 (ak_len H.t.ask),cw_ ?_⟩
  exact ⟨h,Hp.le_st n_z le_z ot_g2,hk⟩
 ·have hx2:H.t.ask=x:=by simpa using hx
  subst hx2
  refine fnv (args:=_) mixed [] [44] [] Tryz.func13 rfl (by kernel_rfl) (cw_ ?_)
  refine new_intro (o:=_) (fun z g1 n_z le_z at_z ot_z=>cw_ ?_)
  have n1:=n.up le_z
  obtain ⟨c,s,r,ht,up⟩:=n1.row
  have hzb:z≠b:=fun e=>by
   obtain ⟨_,_,rb,_⟩:=n.row
   rw [e,(show h b=some _ from rb)] at n_z;cases n_z
  refine ⟨_,(r.z o.len).ld 7 aggWhr (show (H.z c s)[7]? = some (.int .i64 6) by rw [← ea];rfl),?_⟩;conv=>whnf
  refine ⟨_,(r.z o.len).ldA 44 aggAk sizAk (x:=H.t.ask.cs) rfl rfl,cw_ ?_⟩
  refine wr_intro (by exact storeA0 (z:=.agg H.t.ask.cs.toArray) sizAk at_z rfl (ak_len H.t.ask) (ak_one H.t.ask)) (fun g2 at_g2 ot_g2=>cw_ ?_)
  refine ⟨_,loadA0 aggAk sizAk at_g2 (ak_len H.t.ask),cw_ ?_⟩
  exact ⟨h,Hp.le_st n_z le_z ot_g2,hk⟩
 ·refine fnv (args:=_) mixed [] [44] [] Tryz.func13 rfl (by kernel_rfl) (cw_ ?_)
  refine new_intro (o:=_) (fun z g1 n_z le_z at_z ot_z=>cw_ ?_)
  have n1:=n.up le_z
  obtain ⟨c,s,r,ht,up⟩:=n1.row
  have hzb:z≠b:=fun e=>by
   obtain ⟨_,_,rb,_⟩:=n.row
   rw [e,(show h b=some _ from rb)] at n_z;cases n_z
  refine ⟨_,(r.z o.len).ld 7 aggWhr (show (H.z c s)[7]? = some (.int .i64 7) by rw [← ea];rfl),?_⟩;conv=>whnf
  refine ⟨_,(r.z o.len).ldA 63 aggSho sizSho (x:=H.t.shot.cs) rfl rfl,cw_ ?_⟩
  refine ⟨_,sto_x H.t.shot ⟨rfl,rfl⟩,cw_ ?_⟩
  refine ⟨_,(r.z o.len).ldA 63 aggRq sizRq (x:=H.t.shot.req.cs) rfl rfl,cw_ ?_⟩
  refine big_by (v:=.agg x.cs.toArray) (by rw [← hx];kernel_rfl) (cw_ ?_)
  refine wr_intro (by exact storeA0 (z:=.agg x.cs.toArray) sizAk at_z rfl (ak_len x) (ak_one x)) (fun g2 at_g2 ot_g2=>cw_ ?_)
  refine ⟨trivial,cw_ ?_⟩
  refine ⟨_,loadA0 aggAk sizAk at_g2 (ak_len x),cw_ ?_⟩
  exact ⟨h,Hp.le_st n_z le_z ot_g2,hk⟩
 ·refine fnv (args:=_) mixed [] [44] [] Tryz.func13 rfl (by kernel_rfl) (cw_ ?_)
  refine new_intro (o:=_) (fun z g1 n_z le_z at_z ot_z=>cw_ ?_)
  have n1:=n.up le_z
  obtain ⟨c,s,r,ht,up⟩:=n1.row
  have hzb:z≠b:=fun e=>by
   obtain ⟨_,_,rb,_⟩:=n.row
   rw [e,(show h b=some _ from rb)] at n_z;cases n_z
  refine ⟨_,(r.z o.len).ld 7 aggWhr (show (H.z c s)[7]? = some (.int .i64 8) by rw [← ea];rfl),?_⟩;conv=>whnf
  refine big_by (v:=.agg x.cs.toArray) (by rw [← hx];kernel_rfl) (cw_ ?_)
  refine wr_intro (by exact storeA0 (z:=.agg x.cs.toArray) sizAk at_z rfl (ak_len x) (ak_one x)) (fun g2 at_g2 ot_g2=>cw_ ?_)
  refine ⟨_,loadA0 aggAk sizAk at_g2 (ak_len x),cw_ ?_⟩
  exact ⟨h,Hp.le_st n_z le_z ot_g2,hk⟩
 ·refine fnv (args:=_) mixed [] [44] [] Tryz.func13 rfl (by kernel_rfl) (cw_ ?_)
  refine new_intro (o:=_) (fun z g1 n_z le_z at_z ot_z=>cw_ ?_)
  have n1:=n.up le_z
  obtain ⟨c,s,r,ht,up⟩:=n1.row
  have hzb:z≠b:=fun e=>by
   obtain ⟨_,_,rb,_⟩:=n.row
   rw [e,(show h b=some _ from rb)] at n_z;cases n_z
  refine ⟨_,(r.z o.len).ld 7 aggWhr (show (H.z c s)[7]? = some (.int .i64 9) by rw [← ea];rfl),?_⟩;conv=>whnf
  refine ⟨_,(r.z o.len).ldA 63 aggSho sizSho (x:=H.t.shot.cs) rfl rfl,cw_ ?_⟩
  refine sto_x H.t.shot (cw_ ?_)
  refine big_by (v:=.agg x.cs.toArray) (by rw [← hx];kernel_rfl) (cw_ ?_)
  refine wr_intro (by exact storeA0 (z:=.agg x.cs.toArray) sizAk at_z rfl (ak_len x) (ak_one x)) (fun g2 at_g2 ot_g2=>cw_ ?_)
  refine ⟨_,loadA0 aggAk sizAk at_g2 (ak_len x),cw_ ?_⟩
  exact ⟨h,Hp.le_st n_z le_z ot_g2,hk⟩
end
end Go.Proofs.YtdhlpighdlnohaaGreat
namespace Go.Proofs.YtdhlpighdlnohaaGreat
open Go Go.Mid Go.RowKit Go.Bits
attribute [local irreducible] mid
def Hd.new0 (id:Int) (c:Cn):Hd:=⟨id,c,List.replicate 32 0,Csf.new id,2147483648,3,[],false,false,0,0,.zero,[]⟩
def Hd.new (id:Int) (c:Cn):Hd:={ Hd.new0 id c with r:=setR (Hd.new0 id c).r 10 id.toNat }
theorem new0_inv {id:Int} {c:Cn} (hc:wrightB c=true) (hi:0≤id∧id<c.harts):(Hd.new0 id c).inv where
 ok:=⟨rfl,fun n hn=>by rw [List.eq_of_mem_replicate hn];decide,new_ok id,by show (2147483648:Nat)<2 ^ 64;decide⟩
 T:=Tb.good_nil (by unfold wrightB at hc;simp only [Bool.and_eq_true,decide_eq_true_eq] at hc;exact hc.2)
 cr:=hc
 id:=hi
 w:=wk0_ok
 wa:=.inl rfl
 word:=by show (0:Nat)<4294967296;decide
 lines:=by show (0:Nat)<2 ^ 64;decide
 e:=ef0_ok
 addr:=by show (0:Nat)<2 ^ 64;decide
 next:=by show (0:Nat)<2 ^ 64;decide
 cut:=by show (0:Int)≤0∧(0:Int)≤0;decide
 size:=by show (0:Int)≤0∧(0:Int)≤8;decide
 mask:=by show (0:Nat)<2 ^ 64;decide
 nx:=by show (0:Int)≤0∧(0:Int)≤7;decide
def new0V (id:Int) (c:Cn) (tc:Nat):Value:=.agg ((Hd.new0 id c).cs tc (.slice none 0 0)).toArray
theorem new0V_obj (id:Int) (c:Cn) (tc:Nat):Obj.cells (new0V id c tc).cells harT=rowO harT ((Hd.new0 id c).cs tc (.slice none 0 0)):=rfl
attribute [irreducible] new0V
section
set_option maxHeartbeats 16000000
variable {k h:Hp} {K:Value→Hp→Prop} {b:Nat} {H:Hd}
theorem tnew_x (n:Int) (hn:1≤n∧n≤32) (hk:∀ c h',h.le h'→Tb.TlbH (news h h') c n []→K (.tuple #[.pointer (some ⟨c,0,none⟩),.int .i64 0]) h'):X Tryz.prog 34 #[.int .i64 n] h K:=by
 refine fnv (args:=_) mixed [] [] [] Tryz.func34 rfl (by kernel_rfl) (cw_ ?_)
 refine bf_ ?_
 refine bf_ ?_
 refine new_intro (o:=.map #[] 0) (fun m H1 n_m le_m at_m ot_m=>cw_ ?_)
 refine new_intro (o:=rowO 179 [.int .i64 n,.map (some m),.slice none 0 0]) (fun c H2 n_c le_c at_c ot_c=>cw_ ?_)
 refine hk c H2 (Hp.le_trans le_m le_c) ⟨m,0,.map #[] 0,_,none,fun _ hx=>(by cases hx),?_,?_,Tb.MapO.congr MapO.nil fun a=>rfl,Gr.nil⟩
 ·exact (news_at (Hp.none_le le_m n_c)).trans at_c
 ·exact (news_at n_m).trans (le_c _ _ at_m)
theorem hnew_x (id:Int) (c:Cn) (hbad:¬ (wrightB c=true∧0≤id∧id<c.harts)→K (.tuple #[.pointer none,.int .i64 1]) h) (hk:wrightB c=true→0≤id∧id<c.harts→∀ b h',h.le h'→HaN h h' b (Hd.new id c)→K (.tuple #[.pointer (some ⟨b,0,none⟩),.int .i64 0]) h'):X Tryz.prog 7 #[.int .i64 id,.agg c.cs.toArray] h K:=by
 obtain ⟨w,hw⟩:∃ w,wrightB c=w:=⟨_,rfl⟩
 rw [hw] at hk hbad
 refine fnv (args:=_) mixed [(3,3),(18,3),(23,3)] [] [] Tryz.func7 rfl (by kernel_rfl) (cw_ ?_)
 refine wright_x c ?_
 rw [hw]
 conv=>whnf
 cases w with
 | false =>
  conv=>whnf
  exact hbad (fun e=>by cases e.1)
 | true =>
  conv=>whnf
  by_cases q1:id<0
  ·rw [decide_eq_true q1]
   conv=>whnf
   exact hbad (fun e=>by omega)
  rw [decide_eq_false q1]
  conv=>whnf
  by_cases q2:id ≥ c.harts
  ·rw [decide_eq_true q2]
   conv=>whnf
   exact hbad (fun e=>by omega)
  rw [decide_eq_false q2]
  conv=>whnf
  refine tnew_x c.tlb ?_ fun tc h1 le1 ht=>?_
  ·unfold wrightB at hw;simp only [Bool.and_eq_true,decide_eq_true_eq] at hw;exact hw.2
  conv=>whnf
  refine fnew_x id ?_
  refine ⟨trivial,cw_ ?_⟩
  refine big_by (v:=new0V id c tc) (by kernel_rfl) (cw_ ?_)
  refine new_intro (o:=_) (fun b g2 n_b le_b at_b ot_b=>cw_ ?_)
  obtain ⟨i,rfl⟩:∃ i:Nat,id=i:=⟨id.toNat,by omega⟩
  have nb1:news h h1 b=none:=by
   cases e:news h h1 b with
   | none=>rfl
   | some x=>rw [news_le h h1 b x e] at n_b;cases n_b
  have n0:HaN h g2 b (Hd.new0 i c):=⟨Hp.le_trans le1 le_b,Hp.none_le le1 n_b,new0_inv hw ⟨by omega,by omega⟩,tc,.slice none 0 0,news h h1,none,at_b.trans (congrArg some (new0V_obj i c tc)),Hp.le_trans (news_le h h1) le_b,ht,Gr.nil,news_apart h h1,nb1,fun x e=>by cases e⟩
  have hi:(i:Int)<c.harts:=by omega
  have hh:=(wr_harts hw).2
  refine ov_by (w64 (show i<2 ^ 64 by omega)) (cw_ ?_)
  refine hset_x n0 10 i (by omega) fun h4 n4=>(cw_ ?_)
  exact hk rfl ⟨by omega,hi⟩ b h4 n4.le n4
end
end Go.Proofs.YtdhlpighdlnohaaGreat
namespace Go.Proofs.YtdhlpighdlnohaaGreat.As
open Go Go.Mid Go.RowKit
attribute [local irreducible] mid
abbrev zv (n:Int):Value:=.int .i64 n
structure Rw where
 op:Nat
 fmt:Str
 mask:Nat
 is:Nat
def rowsL:List Rw:=[⟨1,[85],127,55⟩,⟨2,[85],127,23⟩,⟨3,[74],127,111⟩,⟨4,[73],28799,103⟩,⟨5,[66],28799,99⟩,⟨6,[66],28799,4195⟩,⟨7,[66],28799,16483⟩,⟨8,[66],28799,20579⟩,⟨9,[66],28799,24675⟩,⟨10,[66],28799,28771⟩,⟨11,[73],28799,3⟩,⟨12,[73],28799,4099⟩,⟨13,[73],28799,8195⟩,⟨14,[73],28799,12291⟩,⟨15,[73],28799,16387⟩,⟨16,[73],28799,20483⟩,⟨17,[73],28799,24579⟩,⟨18,[83],28799,35⟩,⟨19,[83],28799,4131⟩,⟨20,[83],28799,8227⟩,⟨21,[83],28799,12323⟩,⟨22,[73],28799,19⟩,⟨23,[73],28799,8211⟩,⟨24,[73],28799,12307⟩,⟨25,[73],28799,16403⟩,⟨26,[73],28799,24595⟩,⟨27,[73],28799,28691⟩,⟨28,[83,104,105,102,116],4227887231,4115⟩,⟨29,[83,104,105,102,116],4227887231,20499⟩,⟨30,[83,104,105,102,116],4227887231,1073762323⟩,⟨31,[82],4261441663,51⟩,⟨32,[82],4261441663,1073741875⟩,⟨33,[82],4261441663,4147⟩,⟨34,[82],4261441663,8243⟩,⟨35,[82],4261441663,12339⟩,⟨36,[82],4261441663,16435⟩,⟨37,[82],4261441663,20531⟩,⟨38,[82],4261441663,1073762355⟩,⟨39,[82],4261441663,24627⟩,⟨40,[82],4261441663,28723⟩,⟨41,[73],28799,27⟩,⟨42,[83,104,105,102,116,87],4261441663,4123⟩,⟨43,[83,104,105,102,116,87],4261441663,20507⟩,⟨44,[83,104,105,102,116,87],4261441663,1073762331⟩,⟨45,[82],4261441663,59⟩,⟨46,[82],4261441663,1073741883⟩,⟨47,[82],4261441663,4155⟩,⟨48,[82],4261441663,20539⟩,⟨49,[82],4261441663,1073762363⟩,⟨50,[73],28799,15⟩,⟨51,[73],28799,4111⟩,⟨52,[66,97,114,101],4294967295,115⟩,⟨53,[66,97,114,101],4294967295,1048691⟩,⟨54,[82],4261441663,33554483⟩,⟨55,[82],4261441663,33558579⟩,⟨56,[82],4261441663,33562675⟩,⟨57,[82],4261441663,33566771⟩,⟨58,[82],4261441663,33570867⟩,⟨59,[82],4261441663,33574963⟩,⟨60,[82],4261441663,33579059⟩,⟨61,[82],4261441663,33583155⟩,⟨62,[82],4261441663,33554491⟩,⟨63,[82],4261441663,33570875⟩,⟨64,[82],4261441663,33574971⟩,⟨65,[82],4261441663,33579067⟩,⟨66,[82],4261441663,33583163⟩,⟨67,[76,114],4193284223,268443695⟩,⟨68,[65],4160778367,402661423⟩,⟨69,[65],4160778367,134225967⟩,⟨70,[65],4160778367,8239⟩,⟨71,[65],4160778367,536879151⟩,⟨72,[65],4160778367,1610620975⟩,⟨73,[65],4160778367,1073750063⟩,⟨74,[65],4160778367,2147491887⟩,⟨75,[65],4160778367,2684362799⟩,⟨76,[65],4160778367,3221233711⟩,⟨77,[65],4160778367,3758104623⟩,⟨78,[76,114],4193284223,268447791⟩,⟨79,[65],4160778367,402665519⟩,⟨80,[65],4160778367,134230063⟩,⟨81,[65],4160778367,12335⟩,⟨82,[65],4160778367,536883247⟩,⟨83,[65],4160778367,1610625071⟩,⟨84,[65],4160778367,1073754159⟩,⟨85,[65],4160778367,2147495983⟩,⟨86,[65],4160778367,2684366895⟩,⟨87,[65],4160778367,3221237807⟩,⟨88,[65],4160778367,3758108719⟩,⟨89,[67,115,114],28799,4211⟩,⟨90,[67,115,114],28799,8307⟩,⟨91,[67,115,114],28799,12403⟩,⟨92,[67,115,114,73],28799,20595⟩,⟨93,[67,115,114,73],28799,24691⟩,⟨94,[67,115,114,73],28799,28787⟩,⟨95,[66,97,114,101],4294967295,807403635⟩,⟨96,[66,97,114,101],4294967295,270532723⟩,⟨97,[66,97,114,101],4294967295,273678451⟩,⟨98,[83,102,101,110,99,101],4261445631,301990003⟩]
structure Ins where
 op:Int
 a:Int
 b:Int
 c:Int
 m:Int
 s:Int
 aq:Bool
 rl:Bool
def Ins.cs (x:Ins):List Value:=[zv x.op,zv x.a,zv x.b,zv x.c,zv x.m,zv x.s,.bool x.aq,.bool x.rl]
def insn0:List Value:=[.int .i64 0,.int .i64 0,.int .i64 0,.int .i64 0,.int .i64 0,.int .i64 0,.bool false,.bool false]
end Go.Proofs.YtdhlpighdlnohaaGreat.As
