/-
  What instructions do: what lands.
-/
import Derived.Test.YtdhlpighdlnohaaGreatWoAc
import Derived.Test.YtdhlpighdlnohaaGreatBuF
import Derived.Test.YtdhlpighdlnohaaGreatTbTlb1
import Derived.Test.YtdhlpighdlnohaaGreatEvD
set_option linter.unusedSimpArgs false
set_option linter.unusedVariables false
set_option maxHeartbeats 8000000
set_option maxRecDepth 10000
set_option linter.unusedSimpArgs false
set_option linter.unusedVariables false
namespace Go.Proofs.YtdhlpighdlnohaaGreat
open Go Go.Mid Go.RowKit Go.Bits
attribute [local irreducible] mid
theorem Hd.inv.ask {H:Hd} (i:H.inv) (a:Int) (x:Ak) (h1:x.addr<2 ^ 64) (h2:x.next<2 ^ 64) (h3:0≤x.cut∧x.cut≤x.size) (h4:0≤x.size∧x.size≤8):({ H with t:={ H.t with at_:=a,ask:=x } }:Hd).inv:={ i with ok:=⟨i.ok.r,i.ok.rw,i.ok.f,i.ok.pc⟩,addr:=h1,next:=h2,cut:=h3,size:=h4 }
section
set_option maxHeartbeats 16000000
variable {k h:Hp} {K:Value→Hp→Prop} {b:Nat} {H:Hd}
theorem hmemE_x (n:HaN k h b H) (a:Nat) (m:Int) {v:Bool} (ha:a<2 ^ 64) (hm:0≤m∧m≤8) (e:memB H.c.lines a m=v) (hk:K (.bool v) h):X Tryz.prog 167 #[.pointer (some ⟨b,0,none⟩),ux a,.int .i64 m] h K:=hmemory_x n a m ha hm (by rw [e];exact hk)
theorem aggKd:isAggT Tryz.prog 75 = some false:=by kernel_rfl
theorem sizKd:sizeT Tryz.prog 75 = some 1:=by kernel_rfl
theorem aggOp:isAggT Tryz.prog 76 = some false:=by kernel_rfl
theorem sizOp:sizeT Tryz.prog 76 = some 1:=by kernel_rfl
theorem wr_harts {c:Cn} (h:wrightB c=true):1≤c.harts∧c.harts≤8:=by
 unfold wrightB at h
 simp only [Bool.and_eq_true,decide_eq_true_eq] at h
 omega
theorem hreach_x (n:HaN k h b H) (hk:∀ h',HaN k h' b (H.reach fitsN)→K (.tuple #[]) h'):X Tryz.prog 189 #[.pointer (some ⟨b,0,none⟩)] h K:=by
 obtain ⟨c,s,r,ht,up⟩:=n.row
 have i:=n.inv
 have o:=i.ok
 have hh:=wr_harts i.cr
 have hcut:=i.cut
 have hsz:=i.size
 have had:=i.addr
 have hnx:=i.next
 have p:=r.z o.len
 obtain ⟨m1,em1⟩:∃ m,memB H.c.lines H.t.ask.addr (if 0<H.t.ask.cut then H.t.ask.cut else H.t.ask.size)=m:=⟨_,rfl⟩
 obtain ⟨m2,em2⟩:∃ m,memB H.c.lines H.t.ask.next (H.t.ask.size - H.t.ask.cut)=m:=⟨_,rfl⟩
 obtain ⟨f,ef⟩:∃ f,fitsN H.c.harts H.t.ask.addr H.t.ask.size=f:=⟨_,rfl⟩
 have hkI:(m1 && (decide (H.t.ask.cut=0) || m2))=true→∀ h',HaN k h' b { H with t:={ H.t with at_:=5,ask:=H.opAsk } }→K (.tuple #[]) h':=fun e=>by
  have e2:H.inMem=true:=by unfold Hd.inMem;rw [em1,em2];exact e
  unfold Hd.reach at hk;simp only at hk;rw [if_pos e2] at hk;exact hk
 have hkO:(m1 && (decide (H.t.ask.cut=0) || m2))=false→∀ h',HaN k h' b (if H.t.ask.kind=2∧(decide (H.t.ask.cut=0) && f)=true then { H with t:={ H.t with at_:=5,ask:={ H.t.ask with kind:=9 } } } else if H.t.ask.kind=3∧(decide (H.t.ask.cut=0) && f)=true then { H with t:={ H.t with at_:=5,ask:={ H.t.ask with kind:=10 } } } else H.trap (accCode H.t.e.access 1 5 7) H.t.e.va)→K (.tuple #[]) h':=fun e=>by
  have e2:¬ H.inMem=true:=by unfold Hd.inMem;rw [em1,em2,e];decide
  unfold Hd.reach fitsB at hk;simp only at hk;rw [if_neg e2,ef] at hk;exact hk
 unfold Hd.opAsk at hkI
 clear hk
 refine fnv (args:=_) mixed [] [163] [] Tryz.func189 rfl (by kernel_rfl) (cw_ ?_)
 refine ⟨_,p.ld 48 aggI4 rfl,cw_ ?_⟩
 refine ⟨_,p.ld 47 aggI4 rfl,cw_ ?_⟩
 refine br_ (fun q0=>?_) fun q0=>?_
 focus
  conv=>whnf
  refine ⟨_,p.ld 47 aggI4 rfl,cw_ ?_⟩
  refine ⟨_,p.ld 45 aggU rfl,cw_ ?_⟩
  refine hmemE_x n H.t.ask.addr H.t.ask.cut had (by omega) (v:=m1) (by rw [← em1,if_pos q0]) ?_
 rotate_left
 focus
  conv=>whnf
  refine ⟨_,p.ld 45 aggU rfl,cw_ ?_⟩
  refine hmemE_x n H.t.ask.addr H.t.ask.size had (by omega) (v:=m1) (by rw [← em1,if_neg q0]) ?_
 rotate_left
 all_goals
  refine ⟨trivial,cw_ ?_⟩
  cases m1 with
  | false =>
   have hkO:=hkO rfl
   conv=>whnf
   refine ⟨_,p.ld 44 aggKd rfl,cw_ ?_⟩
   by_cases k2:H.t.ask.kind=2
   ·rw [show (H.t.ask.kind==2)=true by simpa using k2]
    have k3:(H.t.ask.kind==3)=false:=by rw [k2];rfl
    conv=>whnf
    refine ⟨_,p.ld 47 aggI4 rfl,cw_ ?_⟩
    by_cases c1:H.t.ask.cut=0
    ·rw [show (H.t.ask.cut==0)=true by simpa using c1]
     rw [decide_eq_true c1,Bool.true_and] at hkO
     conv=>whnf
     refine ⟨_,r.top.ld 1 aggI4 rfl,cw_ ?_⟩
     refine ⟨_,p.ld 45 aggU rfl,cw_ ?_⟩
     refine ⟨_,p.ld 48 aggI4 rfl,cw_ ?_⟩
     refine bfits_x _ _ _ hh had ?_
     rw [ef]
     refine ⟨trivial,cw_ ?_⟩
     cases f with
     | true =>
      rw [if_pos ⟨k2,rfl⟩] at hkO
      conv=>whnf
      refine wr_intro (by exact p.st 44 sizKd (by show 44<71;decide) rfl rfl) (fun g1 at_g1 ot_g1=>cw_ ?_)
      have r1:HaR g1 b { H with t:={ H.t with ask:={ H.t.ask with kind:=9 } } } c s:=HaR.ofZ (H:=H) rfl ⟨at_g1,o.len⟩
      refine wr_intro (by exact (r1.z o.len).st 7 sizWhr (by show 7<71;decide) rfl rfl) (fun g3 at_g3 ot_g3=>cw_ ?_)
      exact hkO g3 (HaN.turn1 up rfl o.len at_g3 (fun d hd=>by rw [ot_g3 d hd,ot_g1 d hd]) (i.ask 5 _ i.addr i.next i.cut i.size) rfl rfl rfl)
     | false =>
      rw [if_neg (fun e=>by cases e.2),if_neg (fun e=>by cases e.2)] at hkO
      conv=>whnf
      refine ⟨_,p.ld 44 aggKd rfl,cw_ ?_⟩
      rw [k3]
      conv=>whnf
      refine ⟨_,p.ld 39 aggI4 rfl,cw_ ?_⟩
      refine ⟨_,cfault_x H.t.e.access i.e.access ⟨rfl,rfl⟩,cw_ ?_⟩
      refine ⟨_,p.ld 41 aggU rfl,cw_ ?_⟩
      refine htrap_x n (accCode H.t.e.access 1 5 7) H.t.e.va i.e.va fun h1 n1=>?_
      refine ⟨trivial,cw_ ?_⟩
      exact hkO h1 n1
    ·rw [show (H.t.ask.cut==0)=false by simpa using c1]
     rw [decide_eq_false c1,Bool.false_and,if_neg (fun e=>by cases e.2),if_neg (fun e=>by cases e.2)] at hkO
     conv=>whnf
     refine ⟨_,p.ld 44 aggKd rfl,cw_ ?_⟩
     rw [k3]
     conv=>whnf
     refine ⟨_,p.ld 39 aggI4 rfl,cw_ ?_⟩
     refine ⟨_,cfault_x H.t.e.access i.e.access ⟨rfl,rfl⟩,cw_ ?_⟩
     refine ⟨_,p.ld 41 aggU rfl,cw_ ?_⟩
     refine htrap_x n (accCode H.t.e.access 1 5 7) H.t.e.va i.e.va fun h1 n1=>?_
     refine ⟨trivial,cw_ ?_⟩
     exact hkO h1 n1
   ·rw [show (H.t.ask.kind==2)=false by simpa using k2]
    rw [if_neg (fun e=>k2 e.1)] at hkO
    conv=>whnf
    refine ⟨_,p.ld 44 aggKd rfl,cw_ ?_⟩
    by_cases k3:H.t.ask.kind=3
    ·rw [show (H.t.ask.kind==3)=true by simpa using k3]
     conv=>whnf
     refine ⟨_,p.ld 47 aggI4 rfl,cw_ ?_⟩
     by_cases c1:H.t.ask.cut=0
     ·rw [show (H.t.ask.cut==0)=true by simpa using c1]
      rw [decide_eq_true c1,Bool.true_and] at hkO
      conv=>whnf
      refine ⟨_,r.top.ld 1 aggI4 rfl,cw_ ?_⟩
      refine ⟨_,p.ld 45 aggU rfl,cw_ ?_⟩
      refine ⟨_,p.ld 48 aggI4 rfl,cw_ ?_⟩
      refine bfits_x _ _ _ hh had ?_
      rw [ef]
      refine ⟨trivial,cw_ ?_⟩
      cases f with
      | true =>
       rw [if_pos ⟨k3,rfl⟩] at hkO
       conv=>whnf
       refine wr_intro (by exact p.st 44 sizKd (by show 44<71;decide) rfl rfl) (fun g1 at_g1 ot_g1=>cw_ ?_)
       have r1:HaR g1 b { H with t:={ H.t with ask:={ H.t.ask with kind:=10 } } } c s:=HaR.ofZ (H:=H) rfl ⟨at_g1,o.len⟩
       refine wr_intro (by exact (r1.z o.len).st 7 sizWhr (by show 7<71;decide) rfl rfl) (fun g3 at_g3 ot_g3=>cw_ ?_)
       exact hkO g3 (HaN.turn1 up rfl o.len at_g3 (fun d hd=>by rw [ot_g3 d hd,ot_g1 d hd]) (i.ask 5 _ i.addr i.next i.cut i.size) rfl rfl rfl)
      | false =>
       rw [if_neg (fun e=>by cases e.2)] at hkO
       conv=>whnf
       refine ⟨_,p.ld 39 aggI4 rfl,cw_ ?_⟩
       refine ⟨_,cfault_x H.t.e.access i.e.access ⟨rfl,rfl⟩,cw_ ?_⟩
       refine ⟨_,p.ld 41 aggU rfl,cw_ ?_⟩
       refine htrap_x n (accCode H.t.e.access 1 5 7) H.t.e.va i.e.va fun h1 n1=>?_
       refine ⟨trivial,cw_ ?_⟩
       exact hkO h1 n1
     ·rw [show (H.t.ask.cut==0)=false by simpa using c1]
      rw [decide_eq_false c1,Bool.false_and,if_neg (fun e=>by cases e.2)] at hkO
      conv=>whnf
      refine ⟨_,p.ld 39 aggI4 rfl,cw_ ?_⟩
      refine ⟨_,cfault_x H.t.e.access i.e.access ⟨rfl,rfl⟩,cw_ ?_⟩
      refine ⟨_,p.ld 41 aggU rfl,cw_ ?_⟩
      refine htrap_x n (accCode H.t.e.access 1 5 7) H.t.e.va i.e.va fun h1 n1=>?_
      refine ⟨trivial,cw_ ?_⟩
      exact hkO h1 n1
    ·rw [show (H.t.ask.kind==3)=false by simpa using k3]
     rw [if_neg (fun e=>k3 e.1)] at hkO
     conv=>whnf
     refine ⟨_,p.ld 39 aggI4 rfl,cw_ ?_⟩
     refine ⟨_,cfault_x H.t.e.access i.e.access ⟨rfl,rfl⟩,cw_ ?_⟩
     refine ⟨_,p.ld 41 aggU rfl,cw_ ?_⟩
     refine htrap_x n (accCode H.t.e.access 1 5 7) H.t.e.va i.e.va fun h1 n1=>?_
     refine ⟨trivial,cw_ ?_⟩
     exact hkO h1 n1
  | true =>
   conv=>whnf
   refine ⟨_,p.ld 47 aggI4 rfl,cw_ ?_⟩
   by_cases c0:H.t.ask.cut=0
   ·have hkI:=hkI (by rw [decide_eq_true c0];rfl)
    rw [show (H.t.ask.cut==0)=true by simpa using c0]
    conv=>whnf
    refine ⟨_,p.ld 44 aggKd rfl,cw_ ?_⟩
    by_cases k6:H.t.ask.kind=6
    ·simp only [if_pos k6] at hkI
     refine bt_ ?_ (by simpa using k6)
     refine ⟨_,p.ld 3 aggB6 rfl,cw_ ?_⟩
     refine wr_intro (by exact p.st 52 sizB6 (by show 52<71;decide) rfl rfl) (fun g1 at_g1 ot_g1=>cw_ ?_)
     have r1:HaR g1 b { H with t:={ H.t with ask:={ H.t.ask with live:=H.live } } } c s:=HaR.ofZ (H:=H) rfl ⟨at_g1,o.len⟩
     refine ⟨_,(r1.z o.len).ld 24 aggOp rfl,cw_ ?_⟩
     refine wr_intro (by exact (r1.z o.len).st 49 sizOp (by show 49<71;decide) rfl rfl) (fun g2 at_g2 ot_g2=>cw_ ?_)
     have r2:HaR g2 b { H with t:={ H.t with ask:={ H.t.ask with live:=H.live,op:=H.t.x.op } } } c s:=HaR.ofZ (H:=H) rfl ⟨at_g2,o.len⟩
     refine wr_intro (by exact (r2.z o.len).st 7 sizWhr (by show 7<71;decide) rfl rfl) (fun g3 at_g3 ot_g3=>cw_ ?_)
     exact hkI g3 (HaN.turn1 up rfl o.len at_g3 (fun d hd=>by rw [ot_g3 d hd,ot_g2 d hd,ot_g1 d hd]) (i.ask 5 _ i.addr i.next i.cut i.size) rfl rfl rfl)
    ·simp only [if_neg k6] at hkI
     refine bf_ ?_ (by simpa using k6)
     by_cases k4:H.t.ask.kind=4
     ·simp only [if_pos (Or.inl k4)] at hkI
      rw [show (H.t.ask.kind==4)=true by simpa using k4]
      conv=>whnf
      refine ⟨_,p.ld 24 aggOp rfl,cw_ ?_⟩
      refine wr_intro (by exact p.st 49 sizOp (by show 49<71;decide) rfl rfl) (fun g2 at_g2 ot_g2=>cw_ ?_)
      have r2:HaR g2 b { H with t:={ H.t with ask:={ H.t.ask with op:=H.t.x.op } } } c s:=HaR.ofZ (H:=H) rfl ⟨at_g2,o.len⟩
      refine wr_intro (by exact (r2.z o.len).st 7 sizWhr (by show 7<71;decide) rfl rfl) (fun g3 at_g3 ot_g3=>cw_ ?_)
      exact hkI g3 (HaN.turn1 up rfl o.len at_g3 (fun d hd=>by rw [ot_g3 d hd,ot_g2 d hd]) (i.ask 5 _ i.addr i.next i.cut i.size) rfl rfl rfl)
     ·rw [show (H.t.ask.kind==4)=false by simpa using k4]
      conv=>whnf
      by_cases k5:H.t.ask.kind=5
      ·simp only [if_pos (Or.inr k5)] at hkI
       refine bt_ ?_ (by simpa using k5)
       refine ⟨_,p.ld 24 aggOp rfl,cw_ ?_⟩
       refine wr_intro (by exact p.st 49 sizOp (by show 49<71;decide) rfl rfl) (fun g2 at_g2 ot_g2=>cw_ ?_)
       have r2:HaR g2 b { H with t:={ H.t with ask:={ H.t.ask with op:=H.t.x.op } } } c s:=HaR.ofZ (H:=H) rfl ⟨at_g2,o.len⟩
       refine wr_intro (by exact (r2.z o.len).st 7 sizWhr (by show 7<71;decide) rfl rfl) (fun g3 at_g3 ot_g3=>cw_ ?_)
       exact hkI g3 (HaN.turn1 up rfl o.len at_g3 (fun d hd=>by rw [ot_g3 d hd,ot_g2 d hd]) (i.ask 5 _ i.addr i.next i.cut i.size) rfl rfl rfl)
      ·simp only [if_neg (fun e:H.t.ask.kind=4∨H.t.ask.kind=5=>e.elim k4 k5)] at hkI
       refine bf_ ?_ (by simpa using k5)
       refine wr_intro (by exact p.st 7 sizWhr (by show 7<71;decide) rfl rfl) (fun g3 at_g3 ot_g3=>cw_ ?_)
       exact hkI g3 (HaN.turn1 up rfl o.len at_g3 ot_g3 (i.ask 5 _ i.addr i.next i.cut i.size) rfl rfl rfl)
   ·rw [show (H.t.ask.cut==0)=false by simpa using c0]
    conv=>whnf
    refine ⟨_,p.ld 46 aggU rfl,cw_ ?_⟩
    refine ⟨_,p.ld 48 aggI4 rfl,cw_ ?_⟩
    refine ⟨_,p.ld 47 aggI4 rfl,cw_ ?_⟩
    refine n_ ?_
    refine hmemE_x n H.t.ask.next (H.t.ask.size - H.t.ask.cut) hnx (by omega) em2 ?_
    refine ⟨trivial,cw_ ?_⟩
    cases m2 with
    | true =>
     have hkI:=hkI (by rw [decide_eq_false c0];rfl)
     conv=>whnf
     refine ⟨_,p.ld 44 aggKd rfl,cw_ ?_⟩
     by_cases k6:H.t.ask.kind=6
     ·simp only [if_pos k6] at hkI
      refine bt_ ?_ (by simpa using k6)
      refine ⟨_,p.ld 3 aggB6 rfl,cw_ ?_⟩
      refine wr_intro (by exact p.st 52 sizB6 (by show 52<71;decide) rfl rfl) (fun g1 at_g1 ot_g1=>cw_ ?_)
      have r1:HaR g1 b { H with t:={ H.t with ask:={ H.t.ask with live:=H.live } } } c s:=HaR.ofZ (H:=H) rfl ⟨at_g1,o.len⟩
      refine ⟨_,(r1.z o.len).ld 24 aggOp rfl,cw_ ?_⟩
      refine wr_intro (by exact (r1.z o.len).st 49 sizOp (by show 49<71;decide) rfl rfl) (fun g2 at_g2 ot_g2=>cw_ ?_)
      have r2:HaR g2 b { H with t:={ H.t with ask:={ H.t.ask with live:=H.live,op:=H.t.x.op } } } c s:=HaR.ofZ (H:=H) rfl ⟨at_g2,o.len⟩
      refine wr_intro (by exact (r2.z o.len).st 7 sizWhr (by show 7<71;decide) rfl rfl) (fun g3 at_g3 ot_g3=>cw_ ?_)
      exact hkI g3 (HaN.turn1 up rfl o.len at_g3 (fun d hd=>by rw [ot_g3 d hd,ot_g2 d hd,ot_g1 d hd]) (i.ask 5 _ i.addr i.next i.cut i.size) rfl rfl rfl)
     ·simp only [if_neg k6] at hkI
      refine bf_ ?_ (by simpa using k6)
      by_cases k4:H.t.ask.kind=4
      ·simp only [if_pos (Or.inl k4)] at hkI
       rw [show (H.t.ask.kind==4)=true by simpa using k4]
       conv=>whnf
       refine ⟨_,p.ld 24 aggOp rfl,cw_ ?_⟩
       refine wr_intro (by exact p.st 49 sizOp (by show 49<71;decide) rfl rfl) (fun g2 at_g2 ot_g2=>cw_ ?_)
       have r2:HaR g2 b { H with t:={ H.t with ask:={ H.t.ask with op:=H.t.x.op } } } c s:=HaR.ofZ (H:=H) rfl ⟨at_g2,o.len⟩
       refine wr_intro (by exact (r2.z o.len).st 7 sizWhr (by show 7<71;decide) rfl rfl) (fun g3 at_g3 ot_g3=>cw_ ?_)
       exact hkI g3 (HaN.turn1 up rfl o.len at_g3 (fun d hd=>by rw [ot_g3 d hd,ot_g2 d hd]) (i.ask 5 _ i.addr i.next i.cut i.size) rfl rfl rfl)
      ·rw [show (H.t.ask.kind==4)=false by simpa using k4]
       conv=>whnf
       by_cases k5:H.t.ask.kind=5
       ·simp only [if_pos (Or.inr k5)] at hkI
        refine bt_ ?_ (by simpa using k5)
        refine ⟨_,p.ld 24 aggOp rfl,cw_ ?_⟩
        refine wr_intro (by exact p.st 49 sizOp (by show 49<71;decide) rfl rfl) (fun g2 at_g2 ot_g2=>cw_ ?_)
        have r2:HaR g2 b { H with t:={ H.t with ask:={ H.t.ask with op:=H.t.x.op } } } c s:=HaR.ofZ (H:=H) rfl ⟨at_g2,o.len⟩
        refine wr_intro (by exact (r2.z o.len).st 7 sizWhr (by show 7<71;decide) rfl rfl) (fun g3 at_g3 ot_g3=>cw_ ?_)
        exact hkI g3 (HaN.turn1 up rfl o.len at_g3 (fun d hd=>by rw [ot_g3 d hd,ot_g2 d hd]) (i.ask 5 _ i.addr i.next i.cut i.size) rfl rfl rfl)
       ·simp only [if_neg (fun e:H.t.ask.kind=4∨H.t.ask.kind=5=>e.elim k4 k5)] at hkI
        refine bf_ ?_ (by simpa using k5)
        refine wr_intro (by exact p.st 7 sizWhr (by show 7<71;decide) rfl rfl) (fun g3 at_g3 ot_g3=>cw_ ?_)
        exact hkI g3 (HaN.turn1 up rfl o.len at_g3 ot_g3 (i.ask 5 _ i.addr i.next i.cut i.size) rfl rfl rfl)
    | false =>
     have hkO:=hkO (by rw [decide_eq_false c0];rfl)
     conv=>whnf
     refine ⟨_,p.ld 44 aggKd rfl,cw_ ?_⟩
     by_cases k2:H.t.ask.kind=2
     ·rw [show (H.t.ask.kind==2)=true by simpa using k2]
      have k3:(H.t.ask.kind==3)=false:=by rw [k2];rfl
      conv=>whnf
      refine ⟨_,p.ld 47 aggI4 rfl,cw_ ?_⟩
      by_cases c1:H.t.ask.cut=0
      ·rw [show (H.t.ask.cut==0)=true by simpa using c1]
       rw [decide_eq_true c1,Bool.true_and] at hkO
       conv=>whnf
       refine ⟨_,r.top.ld 1 aggI4 rfl,cw_ ?_⟩
       refine ⟨_,p.ld 45 aggU rfl,cw_ ?_⟩
       refine ⟨_,p.ld 48 aggI4 rfl,cw_ ?_⟩
       refine bfits_x _ _ _ hh had ?_
       rw [ef]
       refine ⟨trivial,cw_ ?_⟩
       cases f with
       | true =>
        rw [if_pos ⟨k2,rfl⟩] at hkO
        conv=>whnf
        refine wr_intro (by exact p.st 44 sizKd (by show 44<71;decide) rfl rfl) (fun g1 at_g1 ot_g1=>cw_ ?_)
        have r1:HaR g1 b { H with t:={ H.t with ask:={ H.t.ask with kind:=9 } } } c s:=HaR.ofZ (H:=H) rfl ⟨at_g1,o.len⟩
        refine wr_intro (by exact (r1.z o.len).st 7 sizWhr (by show 7<71;decide) rfl rfl) (fun g3 at_g3 ot_g3=>cw_ ?_)
        exact hkO g3 (HaN.turn1 up rfl o.len at_g3 (fun d hd=>by rw [ot_g3 d hd,ot_g1 d hd]) (i.ask 5 _ i.addr i.next i.cut i.size) rfl rfl rfl)
       | false =>
        rw [if_neg (fun e=>by cases e.2),if_neg (fun e=>by cases e.2)] at hkO
        conv=>whnf
        refine ⟨_,p.ld 44 aggKd rfl,cw_ ?_⟩
        rw [k3]
        conv=>whnf
        refine ⟨_,p.ld 39 aggI4 rfl,cw_ ?_⟩
        refine ⟨_,cfault_x H.t.e.access i.e.access ⟨rfl,rfl⟩,cw_ ?_⟩
        refine ⟨_,p.ld 41 aggU rfl,cw_ ?_⟩
        refine htrap_x n (accCode H.t.e.access 1 5 7) H.t.e.va i.e.va fun h1 n1=>?_
        refine ⟨trivial,cw_ ?_⟩
        exact hkO h1 n1
      ·rw [show (H.t.ask.cut==0)=false by simpa using c1]
       rw [decide_eq_false c1,Bool.false_and,if_neg (fun e=>by cases e.2),if_neg (fun e=>by cases e.2)] at hkO
       conv=>whnf
       refine ⟨_,p.ld 44 aggKd rfl,cw_ ?_⟩
       rw [k3]
       conv=>whnf
       refine ⟨_,p.ld 39 aggI4 rfl,cw_ ?_⟩
       refine ⟨_,cfault_x H.t.e.access i.e.access ⟨rfl,rfl⟩,cw_ ?_⟩
       refine ⟨_,p.ld 41 aggU rfl,cw_ ?_⟩
       refine htrap_x n (accCode H.t.e.access 1 5 7) H.t.e.va i.e.va fun h1 n1=>?_
       refine ⟨trivial,cw_ ?_⟩
       exact hkO h1 n1
     ·rw [show (H.t.ask.kind==2)=false by simpa using k2]
      rw [if_neg (fun e=>k2 e.1)] at hkO
      conv=>whnf
      refine ⟨_,p.ld 44 aggKd rfl,cw_ ?_⟩
      by_cases k3:H.t.ask.kind=3
      ·rw [show (H.t.ask.kind==3)=true by simpa using k3]
       conv=>whnf
       refine ⟨_,p.ld 47 aggI4 rfl,cw_ ?_⟩
       by_cases c1:H.t.ask.cut=0
       ·rw [show (H.t.ask.cut==0)=true by simpa using c1]
        rw [decide_eq_true c1,Bool.true_and] at hkO
        conv=>whnf
        refine ⟨_,r.top.ld 1 aggI4 rfl,cw_ ?_⟩
        refine ⟨_,p.ld 45 aggU rfl,cw_ ?_⟩
        refine ⟨_,p.ld 48 aggI4 rfl,cw_ ?_⟩
        refine bfits_x _ _ _ hh had ?_
        rw [ef]
        refine ⟨trivial,cw_ ?_⟩
        cases f with
        | true =>
         rw [if_pos ⟨k3,rfl⟩] at hkO
         conv=>whnf
         refine wr_intro (by exact p.st 44 sizKd (by show 44<71;decide) rfl rfl) (fun g1 at_g1 ot_g1=>cw_ ?_)
         have r1:HaR g1 b { H with t:={ H.t with ask:={ H.t.ask with kind:=10 } } } c s:=HaR.ofZ (H:=H) rfl ⟨at_g1,o.len⟩
         refine wr_intro (by exact (r1.z o.len).st 7 sizWhr (by show 7<71;decide) rfl rfl) (fun g3 at_g3 ot_g3=>cw_ ?_)
         exact hkO g3 (HaN.turn1 up rfl o.len at_g3 (fun d hd=>by rw [ot_g3 d hd,ot_g1 d hd]) (i.ask 5 _ i.addr i.next i.cut i.size) rfl rfl rfl)
        | false =>
         rw [if_neg (fun e=>by cases e.2)] at hkO
         conv=>whnf
         refine ⟨_,p.ld 39 aggI4 rfl,cw_ ?_⟩
         refine ⟨_,cfault_x H.t.e.access i.e.access ⟨rfl,rfl⟩,cw_ ?_⟩
         refine ⟨_,p.ld 41 aggU rfl,cw_ ?_⟩
         refine htrap_x n (accCode H.t.e.access 1 5 7) H.t.e.va i.e.va fun h1 n1=>?_
         refine ⟨trivial,cw_ ?_⟩
         exact hkO h1 n1
       ·rw [show (H.t.ask.cut==0)=false by simpa using c1]
        rw [decide_eq_false c1,Bool.false_and,if_neg (fun e=>by cases e.2)] at hkO
        conv=>whnf
        refine ⟨_,p.ld 39 aggI4 rfl,cw_ ?_⟩
        refine ⟨_,cfault_x H.t.e.access i.e.access ⟨rfl,rfl⟩,cw_ ?_⟩
        refine ⟨_,p.ld 41 aggU rfl,cw_ ?_⟩
        refine htrap_x n (accCode H.t.e.access 1 5 7) H.t.e.va i.e.va fun h1 n1=>?_
        refine ⟨trivial,cw_ ?_⟩
        exact hkO h1 n1
      ·rw [show (H.t.ask.kind==3)=false by simpa using k3]
       rw [if_neg (fun e=>k3 e.1)] at hkO
       conv=>whnf
       refine ⟨_,p.ld 39 aggI4 rfl,cw_ ?_⟩
       refine ⟨_,cfault_x H.t.e.access i.e.access ⟨rfl,rfl⟩,cw_ ?_⟩
       refine ⟨_,p.ld 41 aggU rfl,cw_ ?_⟩
       refine htrap_x n (accCode H.t.e.access 1 5 7) H.t.e.va i.e.va fun h1 n1=>?_
       refine ⟨trivial,cw_ ?_⟩
       exact hkO h1 n1
end
end Go.Proofs.YtdhlpighdlnohaaGreat
namespace Go.Proofs.YtdhlpighdlnohaaGreat
open Go Go.Mid Go.RowKit Go.Bits
abbrev rfXExC0:Go.Mid.RF:=[(3,3),(16,3),(20,3),(6,6),(7,7),(23,7),(24,7)]
attribute [local irreducible] mid
theorem class3 {n:Int}:classN n=3↔n=3∨n=4:=by unfold classN;repeat' split <;> omega
theorem class4 {n:Int}:classN n=4↔5≤n∧n≤10:=by unfold classN;repeat' split <;> omega
theorem n4_eq (pc:Nat):IntKind.u64.wrap ((pc:Int)+4)=((n4 pc:Nat):Int):=addW pc 4
section
variable {h:Hp} {K:Value→Hp→Prop}
theorem and3x {n:Nat} (hn:n<2 ^ 64):IntKind.u64.wrap ((BitVec.ofInt IntKind.u64.bits (n:Int) &&& BitVec.ofInt IntKind.u64.bits 3).toNat:Int)=((n % 4:Nat):Int):=(and64 hn (show 3<2 ^ 64 by decide)).trans (congrArg (fun x:Nat=>(x:Int)) (Nat.and_two_pow_sub_one_eq_mod n 2))
theorem xjump_x (x:Ins) (to link:Nat) (ht:to<2 ^ 64) (hk:K (.agg (jumpE x to link).cs.toArray) h):X Tryz.prog 286 #[.agg x.cs.toArray,ux to,ux link] h K:=by
 obtain ⟨op,rd,r1,r2,imm,csr,aq,rl⟩:=x
 unfold jumpE at hk
 simp only at hk
 refine fnv (args:=_) mixed rfXExC0 [] [] Tryz.func286 rfl (by kernel_rfl) (cw_ ?_)
 refine val_by (and3x ht) (cw_ ?_)
 refine br_ (fun q1=>?_) fun q1=>?_
 ·rw [if_pos (by omega)] at hk
  conv=>whnf
  refine calign_x 0 (.inl rfl) (cw_ ?_)
  refine xtrap_x (accCode 0 0 4 6) to (cw_ ?_)
  exact hk
 ·rw [if_neg (by omega)] at hk
  conv=>whnf
  refine class_x op ?_
  have h3:=@class3 op
  generalize classN op=c at *
  conv=>whnf
  refine br_ (fun q2=>?_) fun q2=>?_
  ·rw [if_pos (by omega)] at hk
   conv=>whnf
   exact hk
  ·rw [if_neg (by omega)] at hk
   conv=>whnf
   exact hk
def flowE (x:Ins) (pc a b:Nat):Ef :=
 if 5≤x.op∧x.op≤10∧takenB x.op a b=false then { Ef.zero with kind:=1,next:=n4 pc } else jumpE x (targetN x.op pc a x.imm) (n4 pc)
theorem target_lt (n:Int) (pc base:Nat) (imm:Int):targetN n pc base imm<2 ^ 64:=by
 unfold targetN
 split <;> omega
theorem xflow_x (x:Ins) (pc a b:Nat) (hn:3≤x.op∧x.op≤10) (ha:a<2 ^ 64) (hb:b<2 ^ 64) (hk:K (.agg (flowE x pc a b).cs.toArray) h):X Tryz.prog 177 #[.agg x.cs.toArray,ux pc,ux a,ux b] h K:=by
 obtain ⟨op,rd,r1,r2,imm,csr,aq,rl⟩:=x
 unfold flowE at hk
 simp only at hk hn
 refine fnv (args:=_) mixed [(4,4),(14,4),(30,4),(34,4),(8,8)] [] [] Tryz.func177 rfl (by kernel_rfl) (cw_ ?_)
 refine ataken_x op a b ha hb ?_
 by_cases q5:5≤op∧op≤10
 ·rw [show takeB op=true from decide_eq_true q5]
  cases qt:takenB op a b with
  | false =>
   rw [qt,if_pos ⟨q5.1,q5.2,rfl⟩] at hk
   conv=>whnf
   refine ov_by (n4_eq pc) (cw_ ?_)
   exact hk
  | true =>
   rw [qt,if_neg (by simp)] at hk
   conv=>whnf
   refine atarget_x op pc a imm ?_
   rw [if_pos hn,decide_eq_true hn]
   have tl:=target_lt op pc a imm
   generalize targetN op pc a imm=to at *
   conv=>whnf
   refine ov_by (n4_eq pc) (cw_ ?_)
   exact xjump_x ⟨op,rd,r1,r2,imm,csr,aq,rl⟩ to (n4 pc) tl hk
 ·rw [if_neg (fun e=>q5 ⟨e.1,e.2.1⟩)] at hk
  rw [show takeB op=false from decide_eq_false q5]
  conv=>whnf
  refine atarget_x op pc a imm ?_
  rw [if_pos hn,decide_eq_true hn]
  have tl:=target_lt op pc a imm
  generalize targetN op pc a imm=to at *
  conv=>whnf
  refine ov_by (n4_eq pc) (cw_ ?_)
  exact xjump_x ⟨op,rd,r1,r2,imm,csr,aq,rl⟩ to (n4 pc) tl hk
end
end Go.Proofs.YtdhlpighdlnohaaGreat
namespace Go.Proofs.YtdhlpighdlnohaaGreat
open Go Go.Mid Go.RowKit Go.Bits
abbrev rfXExD0:Go.Mid.RF:=[(4,4),(12,4),(15,4),(27,4),(40,4),(46,4),(8,8),(11,11),(43,11),(44,11),(49,11)]
attribute [local irreducible] mid
section
variable {h:Hp} {K:Value→Hp→Prop}
theorem xatom_x (x:Ins) (pc a b:Nat) (hn:67≤x.op∧x.op≤88) (ha:a<2 ^ 64) (hb:b<2 ^ 64) (hk:K (.agg (atomE x pc a b).cs.toArray) h):X Tryz.prog 179 #[.agg x.cs.toArray,ux pc,ux a,ux b] h K:=by
 obtain ⟨op,rd,r1,r2,imm,csr,aq,rl⟩:=x
 unfold atomE at hk
 simp only at hk hn
 have hs:=opSize_in op (.inr hn)
 refine fnv (args:=_) mixed rfXExD0 [] [] Tryz.func179 rfl (by kernel_rfl) (cw_ ?_)
 refine ksize_x op ?_
 generalize opSize op=s at *
 conv=>whnf
 refine alink_x op ?_
 cases ql:linkB op with
 | true =>
  simp only [ql] at hk
  conv=>whnf
  refine ov_by (w64 (show s<2 ^ 64 by omega)) (cw_ ?_)
  refine n_ ?_
  have et:Int.tmod (a:Int) (s:Int)=((a % s:Nat):Int):=rfl
  rw [et]
  by_cases q1:a % s=0
  ·rw [if_neg (fun e=>e q1)] at hk
   refine bf_ ?_
   refine ov_by (n4_eq pc) (cw_ ?_)
   refine n_ ?_
   rw [show (8:Int)*(s:Int)=((8*s:Nat):Int) by omega]
   refine blow_x b (8*s) hb (by omega) ?_
   generalize b % 2 ^ (8*s)=low at *
   conv=>whnf
   refine ⟨trivial,cw_ ?_⟩
   refine alink_x op ?_
   rw [ql]
   conv=>whnf
   exact hk
  ·rw [if_pos q1] at hk
   refine bt_ ?_
   refine calign_x 1 (.inr (.inl rfl)) (cw_ ?_)
   exact xtrap_x (accCode 1 0 4 6) a hk
 | false =>
  simp only [ql] at hk
  conv=>whnf
  refine ov_by (w64 (show s<2 ^ 64 by omega)) (cw_ ?_)
  refine n_ ?_
  have et:Int.tmod (a:Int) (s:Int)=((a % s:Nat):Int):=rfl
  rw [et]
  by_cases q1:a % s=0
  ·rw [if_neg (fun e=>e q1)] at hk
   refine bf_ ?_
   refine ov_by (n4_eq pc) (cw_ ?_)
   refine n_ ?_
   rw [show (8:Int)*(s:Int)=((8*s:Nat):Int) by omega]
   refine blow_x b (8*s) hb (by omega) ?_
   generalize b % 2 ^ (8*s)=low at *
   conv=>whnf
   refine ⟨trivial,cw_ ?_⟩
   refine alink_x op ?_
   rw [ql]
   conv=>whnf
   refine acond_x op ?_
   cases qc:condB op with
   | true =>
    simp only [qc] at hk
    conv=>whnf
    exact hk
   | false =>
    simp only [qc] at hk
    conv=>whnf
    exact hk
  ·rw [if_pos q1] at hk
   refine bt_ ?_
   refine calign_x 2 (.inr (.inr rfl)) (cw_ ?_)
   exact xtrap_x (accCode 2 0 4 6) a hk
end
end Go.Proofs.YtdhlpighdlnohaaGreat
namespace Go.Proofs.YtdhlpighdlnohaaGreat
open Go Go.Mid Go.RowKit Go.Bits
abbrev rfXExE0:Go.Mid.RF:=[(2,2),(5,2),(10,2),(15,2),(22,2),(29,2),(33,2)]
attribute [local irreducible] mid
section
variable {h:Hp} {K:Value→Hp→Prop}
theorem xlands_x (x:Ins) (b:An) (hd:b.data<2 ^ 64) (hk:K (ux (landsN x.op b.data b.good)) h):X Tryz.prog 105 #[.agg x.cs.toArray,.agg b.cs.toArray] h K:=by
 obtain ⟨op,rd,r1,r2,imm,csr,aq,rl⟩:=x
 obtain ⟨data,good,m0,m1,m2,m3,m4,m5,m6,m7⟩:=b
 refine X.forget ?_
 replace hk:∀ h':Hp,h.le h'→∃ g:Hp,g.le h'∧K (ux (landsN op data good)) g:=fun h' hle=>⟨h,hle,hk⟩
 unfold landsN at hk
 simp only at hd
 refine fnv (args:=_) mixed rfXExE0 [] [14,21] Tryz.func105 rfl (by kernel_rfl) (cw_ ?_)
 refine new_intro (o:=rowO 86 (An.cs ⟨data,good,m0,m1,m2,m3,m4,m5,m6,m7⟩)) (fun y h1 n_y le_y at_y ot_y=>cw_ ?_)
 specialize hk h1 le_y
 refine class_x op ?_
 have h5:=@class5 op
 have h7:=@class7 op
 generalize classN op=c at *
 conv=>whnf
 refine br_ (fun q5=>?_) fun q5=>?_
 ·have hr:=h5.1 (by omega)
  have hs:=opSize_in op (.inl ⟨by omega,by omega⟩)
  rw [if_pos hr] at hk
  conv=>whnf
  refine ksigned_x op ?_
  by_cases q:11≤op∧op≤14
  ·rw [if_pos q] at hk
   rw [decide_eq_true (Or.inl q)]
   conv=>whnf
   refine ⟨fun z=>h1.le z,Hp.le_refl _,cw_ ?_⟩
   refine ⟨_,fun _ e=>loadCA (k:=0) rfl aggU (e _ _ at_y) rfl,cw_ ?_⟩
   refine ksize_x op ?_
   generalize opSize op=s at *
   refine ⟨Hp.le_refl _,cw_ ?_⟩
   refine n_ ?_
   rw [show (8:Int)*(s:Int)=((8*s:Nat):Int) by omega]
   refine bsignB_x data (8*s) hd (by omega) ?_
   refine ⟨Hp.le_refl _,cw_ ?_⟩
   exact hk
  ·rw [if_neg q] at hk
   rw [decide_eq_false (by omega)]
   conv=>whnf
   refine ⟨fun z=>h1.le z,Hp.le_refl _,cw_ ?_⟩
   refine ⟨_,fun _ e=>loadCA (k:=0) rfl aggU (e _ _ at_y) rfl,cw_ ?_⟩
   refine ksize_x op ?_
   generalize opSize op=s at *
   refine ⟨Hp.le_refl _,cw_ ?_⟩
   refine n_ ?_
   rw [show (8:Int)*(s:Int)=((8*s:Nat):Int) by omega]
   refine blow_x data (8*s) hd (by omega) ?_
   refine ⟨Hp.le_refl _,cw_ ?_⟩
   exact hk
 ·rw [if_neg (fun e=>by have:=h5.2 e;omega)] at hk
  conv=>whnf
  refine br_ (fun q7=>?_) fun q7=>?_
  ·have hr:=h7.1 (by omega)
   rw [if_pos hr] at hk
   conv=>whnf
   refine acond_x op ?_
   cases qc:condB op with
   | false =>
    simp only [qc] at hk
    conv=>whnf
    refine ⟨_,loadCA (k:=0) rfl aggU at_y rfl,cw_ ?_⟩
    refine aload_x op data hr hd (cw_ ?_)
    exact hk
   | true =>
    simp only [qc] at hk
    conv=>whnf
    refine ⟨_,loadCA (k:=1) rfl aggBo at_y rfl,cw_ ?_⟩
    cases good with
    | true =>
     conv=>whnf
     exact hk
    | false =>
     conv=>whnf
     exact hk
  ·rw [if_neg (fun e=>by have:=h7.2 e;omega)] at hk
   conv=>whnf
   exact hk
end
end Go.Proofs.YtdhlpighdlnohaaGreat
