/-
  Instructions as text: the line of an instruction, the document's (printed by a program).
-/
import Derived.Test.YtdhkjcdneidgaaaGreatDoorPdqH
import Derived.Test.YtdhkjcdneidgaaaGreatDoorPgK
import Derived.Test.YtdhkjcdneidgaaaGreatDoorPdqA
import Derived.Test.YtdhkjcdneidgaaaGreatDoorAsF
import Derived.Test.YtdhkjcdneidgaaaGreatDoorAsQ
import Derived.Test.YtdhkjcdneidgaaaGreatDoorInsP
set_option linter.unusedSimpArgs false
set_option linter.unusedVariables false
set_option maxHeartbeats 8000000
set_option maxRecDepth 10000
set_option linter.unusedSimpArgs false
set_option linter.unusedVariables false
namespace Go.Proofs.YtdhkjcdneidgaaaGreatDoor
open Go Go.Mid Go.RowKit
open Go.Sort (swp pdq insertionSort heapSort breakPatterns choosePivot reverseRange partialInsertionSort partitionEqual partition Hint PermIn SortedIn Below SWO)
attribute [local irreducible] mid
section
variable {α:Type} [Inhabited α] {lt:α→α→Bool}
def pdqC (lt:α→α→Bool) (d3:Array α) (a b limit:Nat) (wb wp:Bool) (pivot:Nat):Array α :=
 if a>0 && !lt d3[a - 1]! d3[pivot]! then
  match partitionEqual lt d3 a b pivot with
  | (mid,d4)=>if a<mid∧mid≤b then pdq lt d4 mid b limit wb wp else d4
 else
  match partition lt d3 a b pivot with
  | (mid,ap,d4) =>
   if a≤mid∧mid<b then
    if mid - a<b - mid then
     pdq lt (pdq lt d4 a mid limit true true) (mid+1) b limit (decide (mid - a ≥ (b - a) / 8)) ap
    else
     pdq lt (pdq lt d4 (mid+1) b limit true true) a mid limit (decide (b - mid ≥ (b - a) / 8)) ap
   else d4
def pdqB (lt:α→α→Bool) (d2:Array α) (a b limit:Nat) (wb wp:Bool) (pivot:Nat) (hint:Hint):Array α :=
 let pi:=if wb && wp && hint=.increasing then partialInsertionSort lt d2 a b else (d2,false)
 if pi.2 then pi.1 else pdqC lt pi.1 a b limit wb wp pivot
def pdqA (lt:α→α→Bool) (d1:Array α) (a b limit:Nat) (wb wp:Bool):Array α :=
 let c:=choosePivot lt d1 a b
 pdqB lt (if c.2=.decreasing then reverseRange d1 a b else d1) a b limit wb wp (if c.2=.decreasing then (b - 1) - (c.1 - a) else c.1) (if c.2=.decreasing then Hint.increasing else c.2)
theorem pdq_eq (d:Array α) (a b limit:Nat) (wb wp:Bool):pdq lt d a b limit wb wp=if b - a≤12 then insertionSort lt d a b else if limit=0 then heapSort lt d a b else pdqA lt (if !wb then breakPatterns d a b else d) a b (if !wb then limit - 1 else limit) wb wp:=by
 rw [pdq]
 rfl
structure At1 (lt:α→α→Bool) (n:Nat) (F d:Array α) (a b:Nat) (G:Array α):Prop where
 size:d.size=n
 lo:a≤b
 hi:b≤n
 below:Below lt a b d
 goal:G=F
end
section
variable {h:Hp} {K:Value→Hp→Prop}
variable {α:Type} [Inhabited α]
variable {enc:α→List Value} {lt:α→α→Bool} {y:Value}
def Kp (b:Nat) (h h':Hp):Prop:=∀ c o,c≠b→h c=some o→h' c=some o
theorem Kp.refl (b:Nat) (h:Hp):Kp b h h:=fun _ _ _ e=>e
theorem Kp.eqs {b:Nat} {h h1 h2:Hp} (k:Kp b h h1) (e:∀ c,c≠b→h2 c=h1 c):Kp b h h2:=fun c o hc hh=>by rw [e c hc];exact k c o hc hh
theorem Kp.trans {b:Nat} {h h1 h2:Hp} (k:Kp b h h1) (k2:Kp b h1 h2):Kp b h h2:=fun c o hc hh=>k2 c o hc (k c o hc hh)
theorem hintV_2 (x:Hint):hintV x=2↔x=.decreasing:=by cases x <;> simp [hintV]
theorem hintV_1 (x:Hint):hintV x=1↔x=.increasing:=by cases x <;> simp [hintV]
theorem pdqE_x (S:Srt1 enc lt y) (W:SWO lt) {b cap n:Nat} {rest:List Value} (hsz:n<2 ^ 30) (hcap:n≤cap):∀ (m:Nat) {h:Hp} {K:Value→Hp→Prop} {d:Array α} (lo hi lim:Nat),hi - lo≤m→h b=some (RowD 62 enc d rest)→d.size=n→lo≤hi→hi≤n→lim≤64→Below lt lo hi d →
  (∀ h',h' b=some (RowD 62 enc (pdq lt d lo hi lim true true) rest)→Kp b h h'→K (.tuple #[]) h') →
  X Tryz.prog 65 #[.slice (some ⟨b,0,none⟩) n cap,.int .i64 lo,.int .i64 hi,.int .i64 lim,y] h K:=by
 intro m
 induction m using Nat.strongRecOn with
 | _ m ih =>
 intro h K d lo hi lim hm hb hd hlh hhi hlim hB hk
 obtain ⟨F,hF⟩:∃ F,pdq lt d lo hi lim true true=F:=⟨_,rfl⟩
 rw [hF] at hk
 refine fnp (args:=_) mixed [] [] [] [(999999,[39,56])] Tryz.func65 rfl (by kernel_rfl) (cw_ ?_)
 refine loop_at [2,1,3,10,11] [] (fun r vs _ h'=>∃ (a b2 l:Nat) (wb wp:Bool) (d':Array α),b2 - a=r∧vs=[.v (.int .i64 b2),.v (.int .i64 a),.v (.int .i64 l),.v (.bool wb),.v (.bool wp)]∧lo≤a∧b2≤hi∧l≤64∧At1 lt n F d' a b2 (pdq lt d' a b2 l wb wp)∧h' b=some (RowD 62 enc d' rest)∧Kp b h h') (hi - lo) ⟨lo,hi,lim,true,true,d,rfl,rfl,Nat.le_refl _,Nat.le_refl _,hlim,⟨hd,hlh,hhi,hB,hF⟩,hb,Kp.refl _ _⟩ ?_
 rintro r vs cs mm bx h1 ⟨a,b2,l,wb,wp,d1,rfl,rfl,ga,gb,gl,A1,hb1,k1⟩
 obtain ⟨s1,g1,g2,B1,e1⟩:=A1
 rw [pdq_eq] at e1
 conv=>whnf
 refine ov_eq (show (b2:Int) - (a:Int)=((b2 - a:Nat):Int) by omega) (by omega) (cw_ ?_)
 refine br_ (fun q1=>?_) fun q1=>?_
 ·rw [if_pos (by omega)] at e1
  conv=>whnf
  refine insertionE_x S a b2 hb1 s1 hsz hcap g1 g2 fun h2 hb2 o2=>?_
  rw [e1] at hb2
  conv=>whnf
  exact hk _ hb2 (k1.eqs o2)
 rw [if_neg (by omega)] at e1
 conv=>whnf
 refine br_ (fun q2=>?_) fun q2=>?_
 ·rw [if_pos (by omega)] at e1
  conv=>whnf
  refine heapE_x S a b2 hb1 s1 hsz hcap (by omega) g2 fun h2 hb2 o2=>?_
  rw [e1] at hb2
  conv=>whnf
  exact hk _ hb2 (k1.eqs o2)
 rw [if_neg (by omega)] at e1
 conv=>whnf
 refine if_at [3] [] (fun vs _ h'=>∃ (l2:Nat) (d2:Array α),vs=[.v (.int .i64 l2)]∧l2≤64∧d2.size=n∧Below lt a b2 d2∧pdqA lt d2 a b2 l2 wb wp=F∧h' b=some (RowD 62 enc d2 rest)∧Kp b h h') (fun e=>?_) (fun e=>?_) (fun vs cs m bx h2 hI=>?_)
 ·have e:wb=false:=by simpa using e
  conv=>whnf
  refine brkE_x S a b2 hb1 s1 hsz hcap (by omega) g2 fun h2 hb2 k2=>(cw_ ?_)
  refine ov_eq (show (l:Int) - 1=((l - 1:Nat):Int) by omega) (by omega) (cw_ ?_)
  have P:=Go.Sort.breakPatterns_holds d1 a b2 g1 (by omega)
  exact ⟨l - 1,_,rfl,by omega,P.1.trans s1,B1.perm (by omega) P,by rw [← e1,e];rfl,hb2,k1.trans k2⟩
 ·have e:wb=true:=by simpa using e
  conv=>whnf
  exact ⟨l,d1,rfl,gl,s1,B1,by rw [← e1,e];rfl,hb1,k1⟩
 obtain ⟨l2,d2,rfl,gl2,s2,B2,e2,hb2,k2⟩:=hI
 clear e1 hb1 k1 B1 s1 gl
 dsimp only [pdqA] at e2
 have hcp:=Go.Sort.choosePivot_holds lt d2 a b2 (by omega)
 conv=>whnf
 refine choosePivotE_x S a b2 hb2 s2 hsz hcap (by omega) g2 ?_
 obtain ⟨c,hc⟩:∃ c,choosePivot lt d2 a b2=c:=⟨_,rfl⟩
 rw [hc] at e2 hcp ⊢
 clear hc
 obtain ⟨p,hint⟩:=c
 simp only [] at e2 hcp ⊢
 conv=>whnf
 refine if_at [13,14] [] (fun vs _ h'=>∃ (p3:Nat) (hint3:Hint) (d3:Array α),vs=[.v (.int .i64 p3),.v (.int .i64 (hintV hint3))]∧a≤p3∧p3<b2∧d3.size=n∧Below lt a b2 d3∧pdqB lt d3 a b2 l2 wb wp p3 hint3=F∧h' b=some (RowD 62 enc d3 rest)∧Kp b h h') (fun e=>?_) (fun e=>?_) (fun vs cs m bx h3 hI=>?_)
 ·have e:hint=.decreasing:=(hintV_2 _).1 (by simpa using e)
  simp only [e,if_true] at e2
  conv=>whnf
  refine reverseE_x S a b2 hb2 s2 hsz hcap (by omega) g2 fun h3 hb3 o3=>(cw_ ?_)
  refine ov_eq (show (b2:Int) - 1=((b2 - 1:Nat):Int) by omega) (by omega) (cw_ ?_)
  refine ov_eq (show (p:Int) - (a:Int)=((p - a:Nat):Int) by omega) (by omega) (cw_ ?_)
  refine ov_eq (show ((b2 - 1:Nat):Int) - ((p - a:Nat):Int)=((b2 - 1 - (p - a):Nat):Int) by omega) (by omega) (cw_ ?_)
  have P:=Go.Sort.reverseRange_holds d2 a b2 g1 (by omega)
  exact ⟨_,.increasing,_,rfl,by omega,by omega,P.1.trans s2,B2.perm (by omega) P,e2,hb3,k2.eqs o3⟩
 ·have e:hint≠.decreasing:=fun hh=>by rw [hh] at e;simp [hintV] at e
  simp only [e,if_false] at e2
  conv=>whnf
  exact ⟨p,hint,d2,rfl,hcp.1,hcp.2,s2,B2,e2,hb2,k2⟩
 obtain ⟨p3,hint3,d3,rfl,p1,p2,s3,B3,e3,hb3,k3⟩:=hI
 clear e2 hb2 k2 B2 s2 hcp
 unfold pdqB at e3
 conv=>whnf
 cases wb
 focus
  have hob_:∃ d4:Array α,d4.size=n∧Below lt a b2 d4∧pdqC lt d4 a b2 l2 false wp p3=F∧h3 b=some (RowD 62 enc d4 rest):=⟨d3,s3,B3,by simpa using e3,hb3⟩
  obtain ⟨d4,s4,B4,e4,hb4⟩:=hob_
  have k4:=k3
  conv=>whnf
 rotate_left
 cases wp
 focus
  conv=>whnf
  have hob_:∃ d4:Array α,d4.size=n∧Below lt a b2 d4∧pdqC lt d4 a b2 l2 true false p3=F∧h3 b=some (RowD 62 enc d4 rest):=⟨d3,s3,B3,by simpa using e3,hb3⟩
  obtain ⟨d4,s4,B4,e4,hb4⟩:=hob_
  have k4:=k3
 rotate_left
 conv=>whnf
 refine br_ (fun q8=>?_) fun q8=>?_
 focus
  have ehint:hint3=.increasing:=(hintV_1 _).1 (by omega)
  rw [ehint] at e3
  have P:=Go.Sort.partialInsertionSort_holds W d3 a b2 (by omega) (by omega) B3
  simp only [Bool.true_and,decide_true,if_true] at e3
  conv=>whnf
  refine parE_x S a b2 hb3 s3 hsz hcap (by omega) g2 fun h4 hb4 o4=>?_
  have k4:=k3.eqs o4
  generalize partialInsertionSort lt d3 a b2=rr at *
  obtain ⟨d4,done⟩:=rr
  simp only [] at e3 hb4 P ⊢
  have s4:d4.size=n:=P.1.1.trans s3
  have B4:Below lt a b2 d4:=B3.perm (by omega) P.1
  cases done
  focus
   have e4:pdqC lt d4 a b2 l2 true true p3=F:=by simpa using e3
   conv=>whnf
  rotate_left
  ·have e4:d4=F:=by simpa using e3
   rw [e4] at hb4
   conv=>whnf
   exact hk _ hb4 k4
 rotate_left
 focus
  have ehint:hint3≠.increasing:=fun hh=>by rw [hh] at q8;simp [hintV] at q8
  have hob_:∃ d4:Array α,d4.size=n∧Below lt a b2 d4∧pdqC lt d4 a b2 l2 true true p3=F∧h3 b=some (RowD 62 enc d4 rest):=⟨d3,s3,B3,by simpa [ehint] using e3,hb3⟩
  obtain ⟨d4,s4,B4,e4,hb4⟩:=hob_
  have k4:=k3
 rotate_left
 all_goals
  unfold pdqC at e4
  conv=>whnf
  refine br_ (fun q5=>?_) fun q5=>?_
  focus
   conv=>whnf
   refine ov_eq (show (a:Int) - 1=((a - 1:Nat):Int) by omega) (by omega) (cw_ ?_)
   refine n_ ?_
   refine ⟨_,loadR aggE1 sizE1 S.len hb4 (a - 1) rfl (by omega),cw_ ?_⟩
   refine n_ ?_
   refine ⟨_,loadR aggE1 sizE1 S.len hb4 p3 rfl (by omega),cw_ ?_⟩
   refine aRunK_yv rfl rfl rfl (S.cmp _ _ _ _ fun c2 ec2=>?_)
   refine ⟨trivial,cw_ ?_⟩
   refine br_ (fun q6=>?_) fun q6=>?_
   ·rw [decide_eq_false (by omega)] at ec2
    rw [if_pos (by rw [← ec2];simp;omega)] at e4
    have R:=Go.Sort.round_eq W (Go.Sort.partitionEqual_holds lt) (show 0<a by omega) p1 p2 (by omega) B4 ec2.symm (show partitionEqual lt d4 a b2 p3=((partitionEqual lt d4 a b2 p3).1,(partitionEqual lt d4 a b2 p3).2) from rfl)
    conv=>whnf
    refine partEqE_x S a b2 p3 hb4 s4 hsz hcap p1 p2 g2 fun h5 hb5 o5=>?_
    have k5:=k4.eqs o5
    generalize partitionEqual lt d4 a b2 p3=rr at *
    obtain ⟨mid,d5⟩:=rr
    simp only [] at e4 R hb5 ⊢
    obtain ⟨r1,r2,r3,r4,r5⟩:=R
    rw [if_pos ⟨r1,r2⟩] at e4
    conv=>whnf
    exact ⟨b2 - mid,by omega,mid,b2,l2,_,_,d5,rfl,rfl,by omega,gb,gl2,⟨r3.trans s4,r2,g2,r4,e4⟩,hb5,k5⟩
   focus
    rw [decide_eq_true (by omega)] at ec2
    have q5c:(decide (a>0) && !lt d4[a - 1]! d4[p3]!)=false:=by rw [← ec2];simp
   rotate_left
  rotate_left
  focus
   have q5c:(decide (a>0) && !lt d4[a - 1]! d4[p3]!)=false:=by
    rw [decide_eq_false (by omega)];rfl
   skip
  rotate_left
  all_goals
   rw [if_neg (by simp [q5c])] at e4
   have R:=Go.Sort.round_part W (Go.Sort.partition_holds lt) p1 p2 (by omega) B4 (show partition lt d4 a b2 p3=((partition lt d4 a b2 p3).1,(partition lt d4 a b2 p3).2.1,(partition lt d4 a b2 p3).2.2) from rfl)
   conv=>whnf
   refine partE_x S a b2 p3 hb4 s4 hsz hcap p1 p2 g2 fun h5 hb5 o5=>?_
   have k5:=k4.eqs o5
   generalize partition lt d4 a b2 p3=rr at *
   obtain ⟨mid,ap,d5⟩:=rr
   simp only [] at e4 R hb5 ⊢
   obtain ⟨r1,r2,r3,r4,r5,r6,r7⟩:=R
   rw [if_pos ⟨r1,r2⟩] at e4
   conv=>whnf
   refine ov_eq (show (mid:Int) - (a:Int)=((mid - a:Nat):Int) by omega) (by omega) (cw_ ?_)
   refine ov_eq (show (b2:Int) - (mid:Int)=((b2 - mid:Nat):Int) by omega) (by omega) (cw_ ?_)
   refine ov_eq (show ((b2 - a:Nat):Int).tdiv 8=(((b2 - a) / 8:Nat):Int) from rfl) (by omega) (cw_ ?_)
   refine br_ (fun q7=>?_) fun q7=>?_
   ·rw [if_pos (by omega)] at e4
    have Q:=Go.Sort.pdq_sorts lt W d5 a mid l2 true true r1 (by omega) r4
    have Q2:=r6 _ Q.1 Q.2
    conv=>whnf
    refine ih (mid - a) (by omega) a mid l2 (Nat.le_refl _) hb5 (r3.trans s4) r1 (by omega) gl2 r4 fun h6 hb6 k6=>(cw_ ?_)
    refine ov_eq (show (mid:Int)+1=((mid+1:Nat):Int) by omega) (by omega) (cw_ ?_)
    refine ⟨b2 - (mid+1),by omega,mid+1,b2,l2,_,ap,_,rfl,rfl,by omega,gb,gl2,⟨by rw [Q.1.1];exact r3.trans s4,by omega,g2,Q2.1,?_⟩,hb6,k5.trans k6⟩
    rw [← e4]
    congr 1
    exact decide_eq_decide.2 (by omega)
   ·rw [if_neg (by omega)] at e4
    have Q:=Go.Sort.pdq_sorts lt W d5 (mid+1) b2 l2 true true (by omega) (by omega) r5
    have Q2:=r7 _ Q.1 Q.2
    conv=>whnf
    refine ov_eq (show (mid:Int)+1=((mid+1:Nat):Int) by omega) (by omega) (cw_ ?_)
    refine ih (b2 - (mid+1)) (by omega) (mid+1) b2 l2 (Nat.le_refl _) hb5 (r3.trans s4) (by omega) g2 gl2 r5 fun h6 hb6 k6=>(cw_ ?_)
    refine ⟨mid - a,by omega,a,mid,l2,_,ap,_,rfl,rfl,ga,by omega,gl2,⟨by rw [Q.1.1];exact r3.trans s4,r1,by omega,Q2.1,?_⟩,hb6,k5.trans k6⟩
    rw [← e4]
    congr 1
    exact decide_eq_decide.2 (by omega)
end
end Go.Proofs.YtdhkjcdneidgaaaGreatDoor
namespace Go.Proofs.YtdhkjcdneidgaaaGreatDoor
open Go Go.Mid Go.RowKit
open Go.Sort (PermIn SortedIn SWO pdq)
attribute [local irreducible] mid
section
variable {α:Type} [Inhabited α] {lt:α→α→Bool}
theorem perm_list {d d':Array α} (p:PermIn 0 d.size d d'):d'.toList.Perm d.toList:=by
 obtain ⟨h1,_,h3⟩:=p
 have e1:d.extract 0 d.size=d:=by simp
 have e2:d'.extract 0 d.size=d':=by rw [← h1];simp
 rw [e1,e2] at h3
 exact h3
theorem sorted_list {d:Array α} {n:Nat} (hn:d.size=n) (s:SortedIn lt 0 n d):d.toList.Pairwise (fun x z=>lt z x=false):=by
 rw [List.pairwise_iff_getElem]
 intro i j hi hj hij
 have:=s i j (Nat.zero_le _) hij (by rw [← hn];simpa using hj)
 rw [getElem!_pos d i (by simpa using hi),getElem!_pos d j (by simpa using hj)] at this
 simpa using this
end
section
variable {h:Hp} {K:Value→Hp→Prop}
variable {α:Type} [Inhabited α]
variable {enc:α→List Value} {lt:α→α→Bool} {y:Value}
theorem insertionE0_x (base:Option Addr) (cap:Nat) (hk:K (.tuple #[]) h):X Tryz.prog 91 #[.slice base 0 cap,.int .i64 0,.int .i64 0,y] h K:=by
 refine fnv (args:=_) mixed [] [] [] Tryz.func91 rfl (by kernel_rfl) (cw_ ?_)
 refine n_ ?_
 refine loop_step (cw_ ?_)
 exact hk
theorem pdqE0_x (base:Option Addr) (cap:Nat) (lim:Int) (hk:K (.tuple #[]) h):X Tryz.prog 65 #[.slice base 0 cap,.int .i64 0,.int .i64 0,.int .i64 lim,y] h K:=by
 refine fnv (args:=_) mixed [] [] [] Tryz.func65 rfl (by kernel_rfl) (cw_ ?_)
 refine loop_step (cw_ ?_)
 refine n_ ?_
 refine insertionE0_x base cap (cw_ ?_)
 exact hk
theorem sortE_x (S:Srt1 enc lt y) (W:SWO lt) {k:Hp} {s:Value} {L:List α} (hO:Owns k h 62 2 s L.length (L.flatMap enc)) (hL:L.length<2 ^ 30)
  (hk:∀ (L':List α) (h':Hp),L'.Perm L→L'.Pairwise (fun x z=>lt z x=false)→Owns k h' 62 2 s L'.length (L'.flatMap enc)→K (.tuple #[]) h'):X Tryz.prog 36 #[s,y] h K:=by
 by_cases hn:L=[]
 ·subst hn
  obtain ⟨a,c,rfl⟩:=hO.shape
  refine fnv (args:=_) mixed [] [] [] Tryz.func36 rfl (by kernel_rfl) (cw_ ?_)
  refine n_ ?_
  refine blenN_x 0 (by decide) (cw_ ?_)
  refine pdqE0_x a c _ (cw_ ?_)
  exact hk [] h (List.Perm.refl _) List.Pairwise.nil hO
 ·have hpos:0<L.length:=List.length_pos_iff.2 hn
  obtain ⟨ob,g,hle,hno⟩:=hO
  obtain ⟨hl,⟨_,_,e⟩ | ⟨b,cap,rest,rfl,rfl,hcap,hrest,hb⟩⟩:=g
  ·omega
  have hkb:=hno b rfl
  have hlim:Go.Sort.bitsLen L.length≤64:=Nat.le_trans ((Go.Sort.bitsLen_le_iff L.length 30).2 hL) (by decide)
  have hb':h b=some (RowD 62 enc L.toArray rest):=hb
  have P:=Go.Sort.pdq_sorts lt W L.toArray 0 L.length (Go.Sort.bitsLen L.length) true true (Nat.zero_le _) (by simp) (Or.inl rfl)
  refine fnv (args:=_) mixed [] [] [] Tryz.func36 rfl (by kernel_rfl) (cw_ ?_)
  refine n_ ?_
  refine blenN_x L.length hL (cw_ ?_)
  refine pdqE_x S W hL hcap L.length 0 L.length (Go.Sort.bitsLen L.length) (by omega) hb' (by simp) (Nat.zero_le _) (Nat.le_refl _) hlim (Or.inl rfl) fun h' hb2 k2=>?_
  generalize pdq lt L.toArray 0 L.length (Go.Sort.bitsLen L.length) true true=d at *
  have hsz:d.size=L.length:=by rw [P.1.1];simp
  have hln:d.toList.length=L.length:=by simp [hsz]
  have hp:d.toList.Perm L:=perm_list (by simpa using P.1)
  conv=>whnf
  refine hk d.toList h' hp (sorted_list hsz P.2) ⟨some b,⟨?_,.inr ⟨b,cap,rest,rfl,?_,?_,?_,hb2⟩⟩,fun c o e=>k2 c o (fun hc=>by subst hc;rw [hkb] at e;cases e) (hle _ _ e),hno⟩
  ·rw [flat_length S.len]
  ·rw [hln]
  ·rw [hln];exact hcap
  ·rw [hln];exact hrest
end
end Go.Proofs.YtdhkjcdneidgaaaGreatDoor
namespace Go.Proofs.YtdhkjcdneidgaaaGreatDoor
open Go Go.Mid Go.RowKit Go.Bits
abbrev rfXPgL0:Go.Mid.RF:=[(2,2),(6,2),(12,2),(3,3),(8,3),(14,3)]
open Go.Sort (SWO)
attribute [local irreducible] mid
instance:Inhabited TE:=⟨⟨0,0,0,none⟩⟩
abbrev ppT:TypeId:=62
def enT2 (r:Nat) (x:TE×Nat):List Value:=[ux (atE r x.1),.slice (some ⟨x.2,0,none⟩) 8 8]
def ltE (r:Nat) (x z:TE×Nat):Bool:=decide (atE r x.1<atE r z.1)
def pkE (r:Nat) (x:TE×Nat):Pp:=⟨atE r x.1,.slice (some ⟨x.2,0,none⟩) 8 8,eightN x.1.p 8⟩
theorem ltE_swo (r:Nat):SWO (ltE r) where
 irrefl:=fun x=>by simp [ltE]
 trans:=fun x y z h1 h2=>by
  unfold ltE at *
  simp only [decide_eq_true_eq] at *
  omega
 ntrans:=fun x y z h1 h2=>by
  unfold ltE at *
  simp only [decide_eq_false_iff_not] at *
  omega
section
variable {h:Hp} {K:Value→Hp→Prop}
theorem infPp:Tryz.prog.info? 62=some Tryz.prog.types[62]:=by kernel_rfl
theorem entCmp_x (r:Nat) (a b:TE×Nat) (hk:∀ c:Int,decide (c<0)=ltE r a b→K (.int .i64 c) h):X Tryz.prog 37 #[.agg (enT2 r a).toArray,.agg (enT2 r b).toArray] h K:=by
 have hk:∀ c:Int,decide (c<0)=decide (atE r a.1<atE r b.1)→K (.int .i64 c) h:=hk
 generalize hx:atE r a.1=x at hk
 generalize hz:atE r b.1=z at hk
 have ea:enT2 r a=[ux x,.slice (some ⟨a.2,0,none⟩) 8 8]:=by unfold enT2;rw [hx]
 have eb:enT2 r b=[ux z,.slice (some ⟨b.2,0,none⟩) 8 8]:=by unfold enT2;rw [hz]
 rw [ea,eb]
 refine fnv (args:=_) mixed rfXPgL0 [] [] Tryz.func37 rfl (by kernel_rfl) (cw_ ?_)
 refine br_ (fun q1=>?_) fun q1=>?_
 ·conv=>whnf
  exact hk _ (by rw [decide_eq_true (show x<z by omega)];decide)
 conv=>whnf
 refine br_ (fun q2=>?_) fun q2=>?_
 ·conv=>whnf
  exact hk _ (by rw [decide_eq_false (show ¬ x<z by omega)];decide)
 ·conv=>whnf
  exact hk _ (by rw [decide_eq_false (show ¬ x<z by omega)];decide)
theorem entS (r:Nat):Srt1 (α:=TE×Nat) (enT2 r) (ltE r) (.func (.func 37) #[] #[]) where
 len:=fun _=>rfl
 one:=fun x=>by simp [enT2,Value.oneCell']
 cmp:=fun x z h K hk=>yv_x (by kernel_rfl) (entCmp_x r x z hk)
theorem pgents0_x (hk:K (.slice none 0 0) h):X Tryz.prog 11 #[.pointer none] h K:=by
 refine fnv (args:=_) mixed [(4,4),(23,4),(28,4)] [] [22] Tryz.func11 rfl (by kernel_rfl) (cw_ ?_)
 exact hk
theorem pgents_x {b m:Nat} {t:Tb} {lev:Nat→Nat} (o:TbO h b m t) (i:TInv t lev) (hl:t.L.length≤2 ^ 20) (hk:∀ s' h' (P:List Pp),h.le h'→Rd Tryz.prog ppT 2 h' s' (P.map Pp.v)→(∀ p ∈ P,PpB h' p)→P.map Pp.key=(entsL t).map (keyE t.root)→K s' h'):X Tryz.prog 11 #[.pointer (some ⟨b,0,none⟩)] h K:=by
 obtain ⟨om,nm,hm,hM,hnm⟩:=o.map
 have r1:=i.r1
 have f2:=i.f2
 refine fnv (args:=_) mixed [(4,4),(23,4),(28,4)] [] [22] Tryz.func11 rfl (by kernel_rfl) (cw_ ?_)
 refine ⟨_,loadC (i:=2) aggMp o.row rfl,cw_ ?_⟩
 refine range_map rfl mapS rfl hm hM fun it h4 n_it le_it ot_it hI=>?_
 have dim:m≠it:=Hp.ne n_it hm
 have dib:b≠it:=Hp.ne n_it o.row
 have hob_:=hI.known
 obtain ⟨oi,om4,kit,kbm⟩:=hob_
 conv=>whnf
 refine loop_at [3] [] (fun q vs cs h'=>∃ (Hs:List (TE×Nat)) (sl:Value) (k:Hp) (oi om:Obj),q=nm - Hs.length∧vs=[.v sl]∧h.le k∧k it=some oi∧k m=some om∧Owns k h' ppT 2 sl Hs.length (Hs.flatMap (enT2 t.root))∧Itr spv (entF t.L) nm h' it m (Hs.map fun x=>(x.1.frame,x.1.place))∧(∀ x ∈ Hs,findE t.L x.1.frame x.1.place=some x.1)∧∀ x ∈ Hs,x.2≠it∧k x.2=some (rowO 5 ((eightN x.1.p 8).map byV))) nm ⟨[],.slice none 0 0,h4,oi,om4,rfl,rfl,le_it,kit,kbm,Owns.nil (Hp.le_refl _),hI,fun x hx=>(by cases hx),fun x hx=>(by cases hx)⟩ ?_
 clear hI kit kbm hM ot_it
 rintro q vs cs mm bx h5 ⟨Hs,sl,k,oi,om5,rfl,rfl,lk,kit,kbm,hO,hI,hHs,hRow⟩
 have hsub:Hs.length≤t.L.length:=by
  have h1:=hI.told
  have:=h1.1.length_le_of_subset (l₂:=t.L.map fun e=>(e.frame,e.place)) (fun a ha=>by
   have h2:=h1.2 a ha
   unfold entF at h2
   cases hf:findE t.L a.1 a.2 with
   | none=>rw [hf] at h2;exact absurd rfl h2
   | some e =>
    obtain ⟨e1,e2,e3⟩:=findE_some hf
    exact List.mem_map.2 ⟨e,e1,by rw [e2,e3]⟩)
  simpa using this
 conv=>whnf
 refine next_map rfl rfl hI (fun a v h6 hfa hna hlt ot6 hI6=>?_) (fun hall=>?_)
 ·rw [List.length_map] at hlt
  obtain ⟨e,he,rfl⟩:∃ e,findE t.L a.1 a.2=some e∧v=ux e.p:=by
   unfold entF at hfa
   cases hf:findE t.L a.1 a.2 with
   | none=>rw [hf] at hfa;cases hfa
   | some e=>rw [hf] at hfa;exact ⟨e,rfl,(Option.some.inj hfa).symm⟩
  obtain ⟨het,hef,hep⟩:=findE_some he
  have hp64:=i.p64 e het
  have hfr:=i.fr e het
  have hpl:=i.pl e het
  obtain ⟨a1,a2⟩:=a
  simp only at hef hep he
  subst hef
  subst hep
  have hob_:=hI6.known
  obtain ⟨oi6,om6,kit6,kbm6⟩:=hob_
  have hO6:=hO.put kit kit6 ot6
  have kb6:(k.set it oi6) m=some om5:=by rw [Hp.set_other _ _ dim];exact kbm
  have lk6:h.le (k.set it oi6):=Hp.le_keep lk n_it
  have ki6:(k.set it oi6) it=some oi6:=Hp.set_same _ _ _
  have hRow6:∀ x ∈ Hs,x.2≠it∧(k.set it oi6) x.2=some (rowO 5 ((eightN x.1.p 8).map byV)):=fun x hx=>⟨(hRow x hx).1,by rw [Hp.set_other _ _ (hRow x hx).1];exact (hRow x hx).2⟩
  generalize k.set it oi6=k6 at *
  have hI6':Itr spv (entF t.L) nm h6 it m ((Hs.map fun x=>(x.1.frame,x.1.place))++[(e.frame,e.place)]):=hI6
  conv=>whnf
  refine entry_map rfl rfl hI6' (fun v2 hv2=>?_)
  obtain rfl:v2=ux e.p:=by rw [hfa] at hv2;exact (Option.some.inj hv2).symm
  have o6:=hO6.le _ _ (lk6 _ _ o.row)
  conv=>whnf
  refine ⟨fun z=>z b=some (rowO tbT [ux t.root,.int .i64 t.frames,.map (some m)]),fun _ _ hc hle=>hle _ _ hc,o6,cw_ ?_⟩
  refine ⟨_,fun _ e=>loadC0 aggU6 e rfl,cw_ ?_⟩
  refine n_ ?_
  refine ov_by (show IntKind.u64.wrap ((e.frame:Int)*4096)=((4096*e.frame:Nat):Int) by rw [show (e.frame:Int)*4096=((4096*e.frame:Nat):Int) by omega];exact w64 (by omega)) ?_
  conv=>whnf
  refine ov_by (show IntKind.u64.wrap ((t.root:Int)+((4096*e.frame:Nat):Int))=(((t.root+4096*e.frame) % 2 ^ 64:Nat):Int) by rw [toU64];omega) ?_
  conv=>whnf
  refine n_ ?_
  refine n_ ?_
  refine ov_by (show IntKind.u64.wrap ((((t.root+4096*e.frame) % 2 ^ 64:Nat):Int)+8*(e.place:Int))=((atE t.root e:Nat):Int) by rw [toU64];unfold atE;omega) ?_
  conv=>whnf
  refine pgeight_x e.p 8 hp64 (by decide) fun b8 h7 n_b8 le_b8 ot_b8 at_b8=>?_
  refine ⟨le_b8 _ _ o6,cw_ ?_⟩
  have k6n:k6 b8=none:=Hp.none_le hO6.le n_b8
  have hO7:=hO6.new n_b8 le_b8 at_b8
  have lk67:k6.le (k6.set b8 (rowO 5 ((eightN e.p 8).map byV))):=Hp.le_set' k6n
  have row7:(k6.set b8 (rowO 5 ((eightN e.p 8).map byV))) b8=some (rowO 5 ((eightN e.p 8).map byV)):=Hp.set_same _ _ _
  have d8it:b8≠it:=fun ee=>by rw [ee,hO6.le _ _ ki6] at n_b8;cases n_b8
  generalize k6.set b8 (rowO 5 ((eightN e.p 8).map byV))=k7 at *
  refine new_intro (o:=rowO 62 (enT2 t.root (e,b8))) (fun y h8 n_y le_y at_y ot_y=>cw_ ?_)
  refine Owns.app1 (z:=.agg #[ux 0,.slice none 0 0]) (by kernel_rfl) infPp (by kernel_rfl) (by kernel_rfl) (by kernel_rfl) rfl (bytes:=32) (by decide) rfl rfl rfl (hO7.up le_y) at_y rfl (by simp [enT2,Value.oneCell']) (by omega) fun s8 h9 hO9=>?_
  obtain ⟨sa,sc,rfl⟩:=hO9.shape
  refine ⟨hO9.le _ _ (lk67 _ _ (lk6 _ _ o.row)),cw_ ?_⟩
  refine ⟨nm - (Hs.length+1),by omega,Hs++[(e,b8)],_,k7,oi6,om5,by simp,rfl,Hp.le_trans lk6 lk67,lk67 _ _ ki6,lk67 _ _ kb6,?_,?_,?_,?_⟩
  ·rw [List.length_append,List.flatMap_append]
   exact hO9
  ·rw [List.map_append]
   refine Itr.agree (h:=h6) hI6 ?_ ?_
   ·rw [hO9.le _ _ (lk67 _ _ ki6),hO6.le _ _ ki6]
   ·rw [hO9.le _ _ (lk67 _ _ kb6),hO6.le _ _ kb6]
  ·intro x hx
   rcases List.mem_append.1 hx with hx | hx
   ·exact hHs x hx
   ·rw [List.mem_singleton.1 hx];exact he
  ·intro x hx
   rcases List.mem_append.1 hx with hx | hx
   ·exact ⟨(hRow6 x hx).1,lk67 _ _ (hRow6 x hx).2⟩
   ·rw [List.mem_singleton.1 hx];exact ⟨d8it,row7⟩
 have htold:=hI.told
 have hpm:(Hs.map (·.1)).Perm t.L:=by
  have hnd:(Hs.map (·.1)).Nodup:=by
   have h1:=htold.1
   have:(Hs.map fun x=>(x.1.frame,x.1.place))=(Hs.map (·.1)).map fun e=>(e.frame,e.place):=by rw [List.map_map];rfl
   rw [this] at h1
   exact (List.pairwise_map.1 h1).imp fun hne e=>hne (by rw [e])
  have hnt:t.L.Nodup:=(List.pairwise_map.1 i.one).imp fun hne e=>hne (by rw [e])
  refine (List.perm_ext_iff_of_nodup hnd hnt).2 fun e=>?_
  constructor
  ·intro he
   obtain ⟨x,hx,rfl⟩:=List.mem_map.1 he
   exact (findE_some (hHs x hx)).1
  ·intro he
   have hx:findE t.L e.frame e.place≠none:=fun hn=>findE_none hn e he ⟨rfl,rfl⟩
   obtain ⟨y,hy⟩:=Option.ne_none_iff_exists'.1 hx
   have:=hall (e.frame,e.place) (by unfold entF;rw [hy];simp)
   obtain ⟨x,hx1,hx2⟩:=List.mem_map.1 this
   simp only [Prod.mk.injEq] at hx2
   have h1:=hHs x hx1
   obtain ⟨g1,g2,g3⟩:=findE_some h1
   have:x.1=e:=at_one i hl g1 he (by unfold atE;rw [hx2.1,hx2.2])
   exact List.mem_map.2 ⟨x,hx1,this⟩
 conv=>whnf
 refine sortE_x (entS t.root) (ltE_swo t.root) (L:=Hs) hO (by omega) fun L' h6 hp hs hO6=>?_
 have he:L'.map (·.1)=entsL t:=by
  refine ents_only i hl ((hp.map (·.1)).trans hpm) ?_
  rw [List.pairwise_map]
  refine hs.imp fun {x z} hh=>?_
  have hh:¬ atE t.root z.1<atE t.root x.1:=of_decide_eq_false hh
  omega
 have lk6:=Hp.le_trans lk hO6.le
 obtain ⟨sa,sc,rfl⟩:=hO.shape
 conv=>whnf
 refine hk _ h6 (L'.map (pkE t.root)) lk6 ?_ ?_ ?_
 ·have:=hO6
  obtain ⟨ob,g,_,_⟩:=this
  have:=g.rdN (f:=enT2 t.root) aggPp sizPp (fun _=>rfl)
  rw [List.map_map]
  exact this
 ·intro p hp2
  obtain ⟨x,hx,rfl⟩:=List.mem_map.1 hp2
  have hx2:=hp.mem_iff.1 hx
  have hr:=hO6.le _ _ (hRow x hx2).2
  refine ⟨Nat.mod_lt _ (by decide),by show (eightN _ 8).length≤_;rw [eight_len];decide,x.2,8,[],by show _=Value.slice _ (eightN x.1.p 8).length _;rw [eight_len];rfl,by rw [List.append_nil];exact hr⟩
 ·rw [← he,List.map_map,List.map_map]
  rfl
end
end Go.Proofs.YtdhkjcdneidgaaaGreatDoor
namespace Go.Proofs.YtdhkjcdneidgaaaGreatDoor.Rg
open Go Go.Mid Go.RowKit
attribute [local irreducible] mid
section
def namesL:List Value:=(List.range 32).map fun i=>.string (bs (nameN i))
theorem namesL_get {i:Nat} (hi:i<32):namesL[i]? = some (.string (bs (nameN i))):=by simp [namesL,hi]
theorem names_x (h:Hp) (K:Value→Hp→Prop) (hk:∀ b H,h.le H→H b=some (rowO 9 namesL)→K (.slice (some ⟨b,0,none⟩) 32 32) H):X Tryz.prog 159 #[] h K:=by
 refine fnv (args:=_) mixed [] [] [] Tryz.func159 rfl (by kernel_rfl) (cw_ ?_)
 refine new_intro (o:=rowO 9 namesL) (fun b H n_b le_b at_b ot_b=>cw_ ?_)
 exact hk b H le_b at_b
theorem ref_some {l:Str} {j:Nat} (hj:j<32) (hl:l ∈ keys j) (hn:∀ k,k<j→l ∉ keys k):refI l=some j:=by
 unfold refI
 rw [List.find?_range_eq_some]
 exact ⟨decide_eq_true hl,List.mem_range.2 hj,fun k hk=>by simpa using hn k hk⟩
theorem ref_none {l:Str} (hn:∀ k,k<32→l ∉ keys k):refI l=none:=by
 unfold refI
 rw [List.find?_eq_none]
 intro k hk
 simpa using hn k (List.mem_range.1 hk)
theorem mem_keys {l:Str} {j:Nat}:l ∈ keys j↔l=nameN j∨l=120 :: digN j∨(j=8∧l=sFp):=by
 unfold keys
 by_cases h:j=8 <;> simp [h]
def refV (l:Str):Int:=match refI l with
 | some i=>i
 | none => -1
theorem rfind_x (l:Str) (hl:l.length≤2 ^ 60) (h:Hp) (K:Value→Hp→Prop) (hk:K (.int .i64 (refV l)) h):X Tryz.prog 119 #[.string (bs l)] h K:=by
 refine X.forget ?_
 refine fnv (args:=_) mixed [] [] [] Tryz.func119 rfl (by kernel_rfl) (cw_ ?_)
 refine names_x h _ (fun b H le_b at_b=>cw_ ?_)
 refine loop_at [4] [] (fun r vs _ h'=>h'=H∧∃ j:Nat,j≤32∧r=32 - j∧vs=[.v (.int .i64 j)]∧∀ k,k<j→l ∉ keys k) 32 ⟨rfl,0,by omega,by omega,rfl,fun k hk=>by omega⟩ ?_
 rintro r vs cs mm bx _ ⟨rfl,j,hj,rfl,rfl,hno⟩
 conv=>whnf
 refine br_ (fun q1=>?_) fun q1=>?_
 ·have hj32:j<32:=by omega
  have found:l ∈ keys j→K (.int .i64 j) h:=fun hm=>by
   have:refV l=j:=by unfold refV;rw [ref_some hj32 hm hno]
   rw [this] at hk
   exact hk
  have nxt:l ∉ keys j→∀ k,k<j+1→l ∉ keys k:=fun hm k hk=>by
   rcases Nat.lt_or_ge k j with h1 | h1
   ·exact hno k h1
   ·rw [show k=j by omega];exact hm
  rw [mem_keys] at found nxt
  conv=>whnf
  refine need_intro (by omega) (cw_ ?_)
  refine ⟨_,loadC1 (i:=j) aggStr at_b (namesL_get hj32),cw_ ?_⟩
  refine seq_intro (cw_ ?_)
  refine br_ (fun q2=>?_) fun q2=>?_
  ·conv=>whnf
   exact ⟨h,le_b,found (.inl q2)⟩
  conv=>whnf
  refine rdigits_x j (by omega) (cw_ ?_)
  refine cat_intro (a:=[120]) (by have:=digN_len j;simp;omega) (cw_ ?_)
  refine seq_intro (cw_ ?_)
  refine br_ (fun q3=>?_) fun q3=>?_
  ·conv=>whnf
   exact ⟨h,le_b,found (.inr (.inl q3))⟩
  conv=>whnf
  refine br_ (fun q4=>?_) fun q4=>?_
  ·conv=>whnf
   refine seq_intro (b:=sFp) (cw_ ?_)
   refine br_ (fun q5=>?_) fun q5=>?_
   ·conv=>whnf
    exact ⟨h,le_b,found (.inr (.inr ⟨by omega,q5⟩))⟩
   ·conv=>whnf
    refine n_ ?_
    exact ⟨32 - (j+1),by omega,rfl,j+1,by omega,rfl,rfl,nxt (by rintro (e | e | ⟨_,e⟩);exact q2 e;exact q3 e;exact q5 e)⟩
  ·conv=>whnf
   refine n_ ?_
   exact ⟨32 - (j+1),by omega,rfl,j+1,by omega,rfl,rfl,nxt (by rintro (e | e | ⟨e,_⟩);exact q2 e;exact q3 e;exact q4 (by omega))⟩
 ·obtain rfl:j=32:=by omega
  have:refV l = -1:=by unfold refV;rw [ref_none hno]
  rw [this] at hk
  conv=>whnf
  exact ⟨h,le_b,hk⟩
end
end Go.Proofs.YtdhkjcdneidgaaaGreatDoor.Rg
namespace Go.Proofs.YtdhkjcdneidgaaaGreatDoor
open Go Go.Mid Go.RowKit
attribute [local irreducible] mid
theorem names0_get {n:Int} (h:1≤n∧n≤98):(opNames0.map sv)[n.toNat]? = some (sv (opName n)):=by
 obtain ⟨k,rfl⟩:∃ k:Nat,n=((k+1:Nat):Int):=⟨n.toNat - 1,by omega⟩
 unfold opName opNames0
 rw [if_pos h,List.map_cons,show ((k+1:Nat):Int).toNat=k+1 by omega,List.getElem?_cons_succ,List.getElem?_map,Nat.add_sub_cancel,List.getD_eq_getElem?_getD,List.getElem?_eq_getElem (by rw [opNames_len];omega)]
 rfl
theorem order_mem:∀ f:Nat,f<15→∀ c ∈ orderS f,c=100∨c=49∨c=50∨c=105∨c=117∨c=99∨c=110:=by decide
section
variable {h:Hp} {K:Value→Hp→Prop}
end
end Go.Proofs.YtdhkjcdneidgaaaGreatDoor
