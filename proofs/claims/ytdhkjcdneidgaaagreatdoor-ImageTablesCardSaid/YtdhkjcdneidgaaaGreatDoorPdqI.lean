/-
  Sorting of heats: pdqsort, SortFunc.
-/
import Derived.Test.YtdhkjcdneidgaaaGreatDoorPdqH
namespace Go.Proofs.YtdhkjcdneidgaaaGreatDoor
set_option linter.unusedSimpArgs false
set_option linter.unusedVariables false
set_option linter.unusedSimpArgs false
set_option linter.unusedVariables false
open Go Go.Mid Go.RowKit
open Go.Sort (swp pdq insertionSort heapSort breakPatterns choosePivot reverseRange partialInsertionSort partitionEqual partition Hint PermIn SortedIn Below SWO)
attribute [local irreducible] mid
section
variable {α:Type} [Inhabited α] {lt:α→α→Bool}
def pdqC (lt:α→α→Bool) (d3:Array α) (a b limit:Nat) (wb wp:Bool) (pivot:Nat):Array α :=
 if a>0 && !lt d3[a - 1]! d3[pivot]! then
  match partitionEqual lt d3 a b pivot with
  | (mid,d4)=>if a<mid∧mid≤b then pdq lt d4 mid b limit wb wp else d4
 else
  match partition lt d3 a b pivot with
  | (mid,ap,d4) =>
   if a≤mid∧mid<b then
    if mid - a<b - mid then
     pdq lt (pdq lt d4 a mid limit true true) (mid+1) b limit (decide (mid - a ≥ (b - a) / 8)) ap
    else
     pdq lt (pdq lt d4 (mid+1) b limit true true) a mid limit (decide (b - mid ≥ (b - a) / 8)) ap
   else d4
def pdqB (lt:α→α→Bool) (d2:Array α) (a b limit:Nat) (wb wp:Bool) (pivot:Nat) (hint:Hint):Array α :=
 let pi:=if wb && wp && hint=.increasing then partialInsertionSort lt d2 a b else (d2,false)
 if pi.2 then pi.1 else pdqC lt pi.1 a b limit wb wp pivot
def pdqA (lt:α→α→Bool) (d1:Array α) (a b limit:Nat) (wb wp:Bool):Array α :=
 let c:=choosePivot lt d1 a b
 pdqB lt (if c.2=.decreasing then reverseRange d1 a b else d1) a b limit wb wp (if c.2=.decreasing then (b - 1) - (c.1 - a) else c.1) (if c.2=.decreasing then Hint.increasing else c.2)
theorem pdq_eq (d:Array α) (a b limit:Nat) (wb wp:Bool):pdq lt d a b limit wb wp=if b - a≤12 then insertionSort lt d a b else if limit=0 then heapSort lt d a b else pdqA lt (if !wb then breakPatterns d a b else d) a b (if !wb then limit - 1 else limit) wb wp:=by
 rw [pdq]
 rfl
structure At1 (lt:α→α→Bool) (n:Nat) (F d:Array α) (a b:Nat) (G:Array α):Prop where
 size:d.size=n
 lo:a≤b
 hi:b≤n
 below:Below lt a b d
 goal:G=F
end
section
set_option maxHeartbeats 8000000
set_option maxRecDepth 10000
variable {h:Hp} {K:Value→Hp→Prop}
variable {α:Type} [Inhabited α]
variable {enc:α→List Value} {lt:α→α→Bool} {y:Value}
def Kp (b:Nat) (h h':Hp):Prop:=∀ c o,c≠b→h c=some o→h' c=some o
theorem Kp.refl (b:Nat) (h:Hp):Kp b h h:=fun _ _ _ e=>e
theorem Kp.eqs {b:Nat} {h h1 h2:Hp} (k:Kp b h h1) (e:∀ c,c≠b→h2 c=h1 c):Kp b h h2:=fun c o hc hh=>by rw [e c hc];exact k c o hc hh
theorem Kp.trans {b:Nat} {h h1 h2:Hp} (k:Kp b h h1) (k2:Kp b h1 h2):Kp b h h2:=fun c o hc hh=>k2 c o hc (k c o hc hh)
theorem hintV_2 (x:Hint):hintV x=2↔x=.decreasing:=by cases x <;> simp [hintV]
theorem hintV_1 (x:Hint):hintV x=1↔x=.increasing:=by cases x <;> simp [hintV]
theorem pdqE_x (S:Srt1 enc lt y) (W:SWO lt) {b cap n:Nat} {rest:List Value} (hsz:n<2 ^ 30) (hcap:n≤cap):∀ (m:Nat) {h:Hp} {K:Value→Hp→Prop} {d:Array α} (lo hi lim:Nat),hi - lo≤m→h b=some (RowD 62 enc d rest)→d.size=n→lo≤hi→hi≤n→lim≤64→Below lt lo hi d →
  (∀ h',h' b=some (RowD 62 enc (pdq lt d lo hi lim true true) rest)→Kp b h h'→K (.tuple #[]) h') →
  X Tryz.prog 65 #[.slice (some ⟨b,0,none⟩) n cap,.int .i64 lo,.int .i64 hi,.int .i64 lim,y] h K:=by
 intro m
 induction m using Nat.strongRecOn with
 | _ m ih =>
 intro h K d lo hi lim hm hb hd hlh hhi hlim hB hk
 obtain ⟨F,hF⟩:∃ F,pdq lt d lo hi lim true true=F:=⟨_,rfl⟩
 rw [hF] at hk
 refine fnp (args:=_) mixed [] [] [] [(999999,[39,56])] Tryz.func65 rfl (by kernel_rfl) ?_;conv=>whnf
 refine loop_at [2,1,3,10,11] [] (fun r vs _ h'=>∃ (a b2 l:Nat) (wb wp:Bool) (d':Array α),b2 - a=r∧vs=[.v (.int .i64 b2),.v (.int .i64 a),.v (.int .i64 l),.v (.bool wb),.v (.bool wp)]∧lo≤a∧b2≤hi∧l≤64∧At1 lt n F d' a b2 (pdq lt d' a b2 l wb wp)∧h' b=some (RowD 62 enc d' rest)∧Kp b h h') (hi - lo) ⟨lo,hi,lim,true,true,d,rfl,rfl,Nat.le_refl _,Nat.le_refl _,hlim,⟨hd,hlh,hhi,hB,hF⟩,hb,Kp.refl _ _⟩ ?_
 rintro r vs cs mm bx h1 ⟨a,b2,l,wb,wp,d1,rfl,rfl,ga,gb,gl,A1,hb1,k1⟩
 obtain ⟨s1,g1,g2,B1,e1⟩:=A1
 rw [pdq_eq] at e1
 conv=>whnf
 refine ov_eq (show (b2:Int) - (a:Int)=((b2 - a:Nat):Int) by omega) (by omega) ?_
 conv=>whnf
 refine bsel_intro (fun q1=>?_) (fun q1=>?_) <;> try simp only [bsL] at q1
 ·rw [if_pos (by omega)] at e1
  conv=>whnf
  refine insertionE_x S a b2 hb1 s1 hsz hcap g1 g2 fun h2 hb2 o2=>?_
  rw [e1] at hb2
  conv=>whnf
  exact hk _ hb2 (k1.eqs o2)
 rw [if_neg (by omega)] at e1
 conv=>whnf
 refine bsel_intro (fun q2=>?_) (fun q2=>?_) <;> try simp only [bsL] at q2
 ·rw [if_pos (by omega)] at e1
  conv=>whnf
  refine heapE_x S a b2 hb1 s1 hsz hcap (by omega) g2 fun h2 hb2 o2=>?_
  rw [e1] at hb2
  conv=>whnf
  exact hk _ hb2 (k1.eqs o2)
 rw [if_neg (by omega)] at e1
 conv=>whnf
 refine if_at [3] [] (fun vs _ h'=>∃ (l2:Nat) (d2:Array α),vs=[.v (.int .i64 l2)]∧l2≤64∧d2.size=n∧Below lt a b2 d2∧pdqA lt d2 a b2 l2 wb wp=F∧h' b=some (RowD 62 enc d2 rest)∧Kp b h h') (fun e=>?_) (fun e=>?_) (fun vs cs m bx h2 hI=>?_)
 ·have e:wb=false:=by simpa using e
  conv=>whnf
  refine brkE_x S a b2 hb1 s1 hsz hcap (by omega) g2 fun h2 hb2 k2=>?_
  conv=>whnf
  refine ov_eq (show (l:Int) - 1=((l - 1:Nat):Int) by omega) (by omega) ?_
  conv=>whnf
  have P:=Go.Sort.breakPatterns_holds d1 a b2 g1 (by omega)
  exact ⟨l - 1,_,rfl,by omega,P.1.trans s1,B1.perm (by omega) P,by rw [← e1,e];rfl,hb2,k1.trans k2⟩
 ·have e:wb=true:=by simpa using e
  conv=>whnf
  exact ⟨l,d1,rfl,gl,s1,B1,by rw [← e1,e];rfl,hb1,k1⟩
 obtain ⟨l2,d2,rfl,gl2,s2,B2,e2,hb2,k2⟩:=hI
 clear e1 hb1 k1 B1 s1 gl
 dsimp only [pdqA] at e2
 have hcp:=Go.Sort.choosePivot_holds lt d2 a b2 (by omega)
 conv=>whnf
 refine choosePivotE_x S a b2 hb2 s2 hsz hcap (by omega) g2 ?_
 obtain ⟨c,hc⟩:∃ c,choosePivot lt d2 a b2=c:=⟨_,rfl⟩
 rw [hc] at e2 hcp ⊢
 clear hc
 obtain ⟨p,hint⟩:=c
 simp only [] at e2 hcp ⊢
 conv=>whnf
 refine if_at [13,14] [] (fun vs _ h'=>∃ (p3:Nat) (hint3:Hint) (d3:Array α),vs=[.v (.int .i64 p3),.v (.int .i64 (hintV hint3))]∧a≤p3∧p3<b2∧d3.size=n∧Below lt a b2 d3∧pdqB lt d3 a b2 l2 wb wp p3 hint3=F∧h' b=some (RowD 62 enc d3 rest)∧Kp b h h') (fun e=>?_) (fun e=>?_) (fun vs cs m bx h3 hI=>?_)
 ·have e:hint=.decreasing:=(hintV_2 _).1 (by simpa using e)
  simp only [e,if_true] at e2
  conv=>whnf
  refine reverseE_x S a b2 hb2 s2 hsz hcap (by omega) g2 fun h3 hb3 o3=>?_
  conv=>whnf
  refine ov_eq (show (b2:Int) - 1=((b2 - 1:Nat):Int) by omega) (by omega) ?_
  conv=>whnf
  refine ov_eq (show (p:Int) - (a:Int)=((p - a:Nat):Int) by omega) (by omega) ?_
  conv=>whnf
  refine ov_eq (show ((b2 - 1:Nat):Int) - ((p - a:Nat):Int)=((b2 - 1 - (p - a):Nat):Int) by omega) (by omega) ?_
  conv=>whnf
  have P:=Go.Sort.reverseRange_holds d2 a b2 g1 (by omega)
  exact ⟨_,.increasing,_,rfl,by omega,by omega,P.1.trans s2,B2.perm (by omega) P,e2,hb3,k2.eqs o3⟩
 ·have e:hint≠.decreasing:=fun hh=>by rw [hh] at e;simp [hintV] at e
  simp only [e,if_false] at e2
  conv=>whnf
  exact ⟨p,hint,d2,rfl,hcp.1,hcp.2,s2,B2,e2,hb2,k2⟩
 obtain ⟨p3,hint3,d3,rfl,p1,p2,s3,B3,e3,hb3,k3⟩:=hI
 clear e2 hb2 k2 B2 s2 hcp
 unfold pdqB at e3
 conv=>whnf
 cases wb
 ·have hob_:∃ d4:Array α,d4.size=n∧Below lt a b2 d4∧pdqC lt d4 a b2 l2 false wp p3=F∧h3 b=some (RowD 62 enc d4 rest):=⟨d3,s3,B3,by simpa using e3,hb3⟩
  obtain ⟨d4,s4,B4,e4,hb4⟩:=hob_
  have k4:=k3
  conv=>whnf
  unfold pdqC at e4
  conv=>whnf
  refine bsel_intro (fun q5=>?_) (fun q5=>?_) <;> try simp only [bsL] at q5
  ·conv=>whnf
   refine ov_eq (show (a:Int) - 1=((a - 1:Nat):Int) by omega) (by omega) ?_
   conv=>whnf
   (first | refine need_intro (⟨by omega,by omega⟩) ?_ | refine must.mk (⟨by omega,by omega⟩) ?_);conv=>whnf
   refine ⟨_,loadR aggE1 sizE1 S.len hb4 (a - 1) rfl (by omega),?_⟩;conv=>whnf
   (first | refine need_intro (⟨by omega,by omega⟩) ?_ | refine must.mk (⟨by omega,by omega⟩) ?_);conv=>whnf
   refine ⟨_,loadR aggE1 sizE1 S.len hb4 p3 rfl (by omega),?_⟩;conv=>whnf
   refine aRunK_yv rfl rfl rfl (S.cmp _ _ _ _ fun c2 ec2=>?_)
   refine ⟨trivial,?_⟩;conv=>whnf
   refine bsel_intro (fun q6=>?_) (fun q6=>?_) <;> try simp only [bsL] at q6
   ·rw [decide_eq_false (by omega)] at ec2
    rw [if_pos (by rw [← ec2];simp;omega)] at e4
    have R:=Go.Sort.round_eq W (Go.Sort.partitionEqual_holds lt) (show 0<a by omega) p1 p2 (by omega) B4 ec2.symm (show partitionEqual lt d4 a b2 p3=((partitionEqual lt d4 a b2 p3).1,(partitionEqual lt d4 a b2 p3).2) from rfl)
    conv=>whnf
    refine partEqE_x S a b2 p3 hb4 s4 hsz hcap p1 p2 g2 fun h5 hb5 o5=>?_
    have k5:=k4.eqs o5
    generalize partitionEqual lt d4 a b2 p3=rr at *
    obtain ⟨mid,d5⟩:=rr
    simp only [] at e4 R hb5 ⊢
    obtain ⟨r1,r2,r3,r4,r5⟩:=R
    rw [if_pos ⟨r1,r2⟩] at e4
    conv=>whnf
    exact ⟨b2 - mid,by omega,mid,b2,l2,_,_,d5,rfl,rfl,by omega,gb,gl2,⟨r3.trans s4,r2,g2,r4,e4⟩,hb5,k5⟩
   ·rw [decide_eq_true (by omega)] at ec2
    have q5c:(decide (a>0) && !lt d4[a - 1]! d4[p3]!)=false:=by rw [← ec2];simp
    rw [if_neg (by simp [q5c])] at e4
    have R:=Go.Sort.round_part W (Go.Sort.partition_holds lt) p1 p2 (by omega) B4 (show partition lt d4 a b2 p3=((partition lt d4 a b2 p3).1,(partition lt d4 a b2 p3).2.1,(partition lt d4 a b2 p3).2.2) from rfl)
    conv=>whnf
    refine partE_x S a b2 p3 hb4 s4 hsz hcap p1 p2 g2 fun h5 hb5 o5=>?_
    have k5:=k4.eqs o5
    generalize partition lt d4 a b2 p3=rr at *
    obtain ⟨mid,ap,d5⟩:=rr
    simp only [] at e4 R hb5 ⊢
    obtain ⟨r1,r2,r3,r4,r5,r6,r7⟩:=R
    rw [if_pos ⟨r1,r2⟩] at e4
    conv=>whnf
    refine ov_eq (show (mid:Int) - (a:Int)=((mid - a:Nat):Int) by omega) (by omega) ?_
    conv=>whnf
    refine ov_eq (show (b2:Int) - (mid:Int)=((b2 - mid:Nat):Int) by omega) (by omega) ?_
    conv=>whnf
    refine ov_eq (show ((b2 - a:Nat):Int).tdiv 8=(((b2 - a) / 8:Nat):Int) from rfl) (by omega) ?_
    conv=>whnf
    refine bsel_intro (fun q7=>?_) (fun q7=>?_) <;> try simp only [bsL] at q7
    ·rw [if_pos (by omega)] at e4
     have Q:=Go.Sort.pdq_sorts lt W d5 a mid l2 true true r1 (by omega) r4
     have Q2:=r6 _ Q.1 Q.2
     conv=>whnf
     refine ih (mid - a) (by omega) a mid l2 (Nat.le_refl _) hb5 (r3.trans s4) r1 (by omega) gl2 r4 fun h6 hb6 k6=>?_
     conv=>whnf
     refine ov_eq (show (mid:Int)+1=((mid+1:Nat):Int) by omega) (by omega) ?_
     conv=>whnf
     refine ⟨b2 - (mid+1),by omega,mid+1,b2,l2,_,ap,_,rfl,rfl,by omega,gb,gl2,⟨by rw [Q.1.1];exact r3.trans s4,by omega,g2,Q2.1,?_⟩,hb6,k5.trans k6⟩
     rw [← e4]
     congr 1
     exact decide_eq_decide.2 (by omega)
    ·rw [if_neg (by omega)] at e4
     have Q:=Go.Sort.pdq_sorts lt W d5 (mid+1) b2 l2 true true (by omega) (by omega) r5
     have Q2:=r7 _ Q.1 Q.2
     conv=>whnf
     refine ov_eq (show (mid:Int)+1=((mid+1:Nat):Int) by omega) (by omega) ?_
     conv=>whnf
     refine ih (b2 - (mid+1)) (by omega) (mid+1) b2 l2 (Nat.le_refl _) hb5 (r3.trans s4) (by omega) g2 gl2 r5 fun h6 hb6 k6=>?_
     conv=>whnf
     refine ⟨mid - a,by omega,a,mid,l2,_,ap,_,rfl,rfl,ga,by omega,gl2,⟨by rw [Q.1.1];exact r3.trans s4,r1,by omega,Q2.1,?_⟩,hb6,k5.trans k6⟩
     rw [← e4]
     congr 1
     exact decide_eq_decide.2 (by omega)
  ·have q5c:(decide (a>0) && !lt d4[a - 1]! d4[p3]!)=false:=by
    rw [decide_eq_false (by omega)];rfl
   rw [if_neg (by simp [q5c])] at e4
   have R:=Go.Sort.round_part W (Go.Sort.partition_holds lt) p1 p2 (by omega) B4 (show partition lt d4 a b2 p3=((partition lt d4 a b2 p3).1,(partition lt d4 a b2 p3).2.1,(partition lt d4 a b2 p3).2.2) from rfl)
   conv=>whnf
   refine partE_x S a b2 p3 hb4 s4 hsz hcap p1 p2 g2 fun h5 hb5 o5=>?_
   have k5:=k4.eqs o5
   generalize partition lt d4 a b2 p3=rr at *
   obtain ⟨mid,ap,d5⟩:=rr
   simp only [] at e4 R hb5 ⊢
   obtain ⟨r1,r2,r3,r4,r5,r6,r7⟩:=R
   rw [if_pos ⟨r1,r2⟩] at e4
   conv=>whnf
   refine ov_eq (show (mid:Int) - (a:Int)=((mid - a:Nat):Int) by omega) (by omega) ?_
   conv=>whnf
   refine ov_eq (show (b2:Int) - (mid:Int)=((b2 - mid:Nat):Int) by omega) (by omega) ?_
   conv=>whnf
   refine ov_eq (show ((b2 - a:Nat):Int).tdiv 8=(((b2 - a) / 8:Nat):Int) from rfl) (by omega) ?_
   conv=>whnf
   refine bsel_intro (fun q7=>?_) (fun q7=>?_) <;> try simp only [bsL] at q7
   ·rw [if_pos (by omega)] at e4
    have Q:=Go.Sort.pdq_sorts lt W d5 a mid l2 true true r1 (by omega) r4
    have Q2:=r6 _ Q.1 Q.2
    conv=>whnf
    refine ih (mid - a) (by omega) a mid l2 (Nat.le_refl _) hb5 (r3.trans s4) r1 (by omega) gl2 r4 fun h6 hb6 k6=>?_
    conv=>whnf
    refine ov_eq (show (mid:Int)+1=((mid+1:Nat):Int) by omega) (by omega) ?_
    conv=>whnf
    refine ⟨b2 - (mid+1),by omega,mid+1,b2,l2,_,ap,_,rfl,rfl,by omega,gb,gl2,⟨by rw [Q.1.1];exact r3.trans s4,by omega,g2,Q2.1,?_⟩,hb6,k5.trans k6⟩
    rw [← e4]
    congr 1
    exact decide_eq_decide.2 (by omega)
   ·rw [if_neg (by omega)] at e4
    have Q:=Go.Sort.pdq_sorts lt W d5 (mid+1) b2 l2 true true (by omega) (by omega) r5
    have Q2:=r7 _ Q.1 Q.2
    conv=>whnf
    refine ov_eq (show (mid:Int)+1=((mid+1:Nat):Int) by omega) (by omega) ?_
    conv=>whnf
    refine ih (b2 - (mid+1)) (by omega) (mid+1) b2 l2 (Nat.le_refl _) hb5 (r3.trans s4) (by omega) g2 gl2 r5 fun h6 hb6 k6=>?_
    conv=>whnf
    refine ⟨mid - a,by omega,a,mid,l2,_,ap,_,rfl,rfl,ga,by omega,gl2,⟨by rw [Q.1.1];exact r3.trans s4,r1,by omega,Q2.1,?_⟩,hb6,k5.trans k6⟩
    rw [← e4]
    congr 1
    exact decide_eq_decide.2 (by omega)
 cases wp
 ·conv=>whnf
  have hob_:∃ d4:Array α,d4.size=n∧Below lt a b2 d4∧pdqC lt d4 a b2 l2 true false p3=F∧h3 b=some (RowD 62 enc d4 rest):=⟨d3,s3,B3,by simpa using e3,hb3⟩
  obtain ⟨d4,s4,B4,e4,hb4⟩:=hob_
  have k4:=k3
  unfold pdqC at e4
  conv=>whnf
  refine bsel_intro (fun q5=>?_) (fun q5=>?_) <;> try simp only [bsL] at q5
  ·conv=>whnf
   refine ov_eq (show (a:Int) - 1=((a - 1:Nat):Int) by omega) (by omega) ?_
   conv=>whnf
   (first | refine need_intro (⟨by omega,by omega⟩) ?_ | refine must.mk (⟨by omega,by omega⟩) ?_);conv=>whnf
   refine ⟨_,loadR aggE1 sizE1 S.len hb4 (a - 1) rfl (by omega),?_⟩;conv=>whnf
   (first | refine need_intro (⟨by omega,by omega⟩) ?_ | refine must.mk (⟨by omega,by omega⟩) ?_);conv=>whnf
   refine ⟨_,loadR aggE1 sizE1 S.len hb4 p3 rfl (by omega),?_⟩;conv=>whnf
   refine aRunK_yv rfl rfl rfl (S.cmp _ _ _ _ fun c2 ec2=>?_)
   refine ⟨trivial,?_⟩;conv=>whnf
   refine bsel_intro (fun q6=>?_) (fun q6=>?_) <;> try simp only [bsL] at q6
   ·rw [decide_eq_false (by omega)] at ec2
    rw [if_pos (by rw [← ec2];simp;omega)] at e4
    have R:=Go.Sort.round_eq W (Go.Sort.partitionEqual_holds lt) (show 0<a by omega) p1 p2 (by omega) B4 ec2.symm (show partitionEqual lt d4 a b2 p3=((partitionEqual lt d4 a b2 p3).1,(partitionEqual lt d4 a b2 p3).2) from rfl)
    conv=>whnf
    refine partEqE_x S a b2 p3 hb4 s4 hsz hcap p1 p2 g2 fun h5 hb5 o5=>?_
    have k5:=k4.eqs o5
    generalize partitionEqual lt d4 a b2 p3=rr at *
    obtain ⟨mid,d5⟩:=rr
    simp only [] at e4 R hb5 ⊢
    obtain ⟨r1,r2,r3,r4,r5⟩:=R
    rw [if_pos ⟨r1,r2⟩] at e4
    conv=>whnf
    exact ⟨b2 - mid,by omega,mid,b2,l2,_,_,d5,rfl,rfl,by omega,gb,gl2,⟨r3.trans s4,r2,g2,r4,e4⟩,hb5,k5⟩
   ·rw [decide_eq_true (by omega)] at ec2
    have q5c:(decide (a>0) && !lt d4[a - 1]! d4[p3]!)=false:=by rw [← ec2];simp
    rw [if_neg (by simp [q5c])] at e4
    have R:=Go.Sort.round_part W (Go.Sort.partition_holds lt) p1 p2 (by omega) B4 (show partition lt d4 a b2 p3=((partition lt d4 a b2 p3).1,(partition lt d4 a b2 p3).2.1,(partition lt d4 a b2 p3).2.2) from rfl)
    conv=>whnf
    refine partE_x S a b2 p3 hb4 s4 hsz hcap p1 p2 g2 fun h5 hb5 o5=>?_
    have k5:=k4.eqs o5
    generalize partition lt d4 a b2 p3=rr at *
    obtain ⟨mid,ap,d5⟩:=rr
    simp only [] at e4 R hb5 ⊢
    obtain ⟨r1,r2,r3,r4,r5,r6,r7⟩:=R
    rw [if_pos ⟨r1,r2⟩] at e4
    conv=>whnf
    refine ov_eq (show (mid:Int) - (a:Int)=((mid - a:Nat):Int) by omega) (by omega) ?_
    conv=>whnf
    refine ov_eq (show (b2:Int) - (mid:Int)=((b2 - mid:Nat):Int) by omega) (by omega) ?_
    conv=>whnf
    refine ov_eq (show ((b2 - a:Nat):Int).tdiv 8=(((b2 - a) / 8:Nat):Int) from rfl) (by omega) ?_
    conv=>whnf
    refine bsel_intro (fun q7=>?_) (fun q7=>?_) <;> try simp only [bsL] at q7
    ·rw [if_pos (by omega)] at e4
     have Q:=Go.Sort.pdq_sorts lt W d5 a mid l2 true true r1 (by omega) r4
     have Q2:=r6 _ Q.1 Q.2
     conv=>whnf
     refine ih (mid - a) (by omega) a mid l2 (Nat.le_refl _) hb5 (r3.trans s4) r1 (by omega) gl2 r4 fun h6 hb6 k6=>?_
     conv=>whnf
     refine ov_eq (show (mid:Int)+1=((mid+1:Nat):Int) by omega) (by omega) ?_
     conv=>whnf
     refine ⟨b2 - (mid+1),by omega,mid+1,b2,l2,_,ap,_,rfl,rfl,by omega,gb,gl2,⟨by rw [Q.1.1];exact r3.trans s4,by omega,g2,Q2.1,?_⟩,hb6,k5.trans k6⟩
     rw [← e4]
     congr 1
     exact decide_eq_decide.2 (by omega)
    ·rw [if_neg (by omega)] at e4
     have Q:=Go.Sort.pdq_sorts lt W d5 (mid+1) b2 l2 true true (by omega) (by omega) r5
     have Q2:=r7 _ Q.1 Q.2
     conv=>whnf
     refine ov_eq (show (mid:Int)+1=((mid+1:Nat):Int) by omega) (by omega) ?_
     conv=>whnf
     refine ih (b2 - (mid+1)) (by omega) (mid+1) b2 l2 (Nat.le_refl _) hb5 (r3.trans s4) (by omega) g2 gl2 r5 fun h6 hb6 k6=>?_
     conv=>whnf
     refine ⟨mid - a,by omega,a,mid,l2,_,ap,_,rfl,rfl,ga,by omega,gl2,⟨by rw [Q.1.1];exact r3.trans s4,r1,by omega,Q2.1,?_⟩,hb6,k5.trans k6⟩
     rw [← e4]
     congr 1
     exact decide_eq_decide.2 (by omega)
  ·have q5c:(decide (a>0) && !lt d4[a - 1]! d4[p3]!)=false:=by
    rw [decide_eq_false (by omega)];rfl
   rw [if_neg (by simp [q5c])] at e4
   have R:=Go.Sort.round_part W (Go.Sort.partition_holds lt) p1 p2 (by omega) B4 (show partition lt d4 a b2 p3=((partition lt d4 a b2 p3).1,(partition lt d4 a b2 p3).2.1,(partition lt d4 a b2 p3).2.2) from rfl)
   conv=>whnf
   refine partE_x S a b2 p3 hb4 s4 hsz hcap p1 p2 g2 fun h5 hb5 o5=>?_
   have k5:=k4.eqs o5
   generalize partition lt d4 a b2 p3=rr at *
   obtain ⟨mid,ap,d5⟩:=rr
   simp only [] at e4 R hb5 ⊢
   obtain ⟨r1,r2,r3,r4,r5,r6,r7⟩:=R
   rw [if_pos ⟨r1,r2⟩] at e4
   conv=>whnf
   refine ov_eq (show (mid:Int) - (a:Int)=((mid - a:Nat):Int) by omega) (by omega) ?_
   conv=>whnf
   refine ov_eq (show (b2:Int) - (mid:Int)=((b2 - mid:Nat):Int) by omega) (by omega) ?_
   conv=>whnf
   refine ov_eq (show ((b2 - a:Nat):Int).tdiv 8=(((b2 - a) / 8:Nat):Int) from rfl) (by omega) ?_
   conv=>whnf
   refine bsel_intro (fun q7=>?_) (fun q7=>?_) <;> try simp only [bsL] at q7
   ·rw [if_pos (by omega)] at e4
    have Q:=Go.Sort.pdq_sorts lt W d5 a mid l2 true true r1 (by omega) r4
    have Q2:=r6 _ Q.1 Q.2
    conv=>whnf
    refine ih (mid - a) (by omega) a mid l2 (Nat.le_refl _) hb5 (r3.trans s4) r1 (by omega) gl2 r4 fun h6 hb6 k6=>?_
    conv=>whnf
    refine ov_eq (show (mid:Int)+1=((mid+1:Nat):Int) by omega) (by omega) ?_
    conv=>whnf
    refine ⟨b2 - (mid+1),by omega,mid+1,b2,l2,_,ap,_,rfl,rfl,by omega,gb,gl2,⟨by rw [Q.1.1];exact r3.trans s4,by omega,g2,Q2.1,?_⟩,hb6,k5.trans k6⟩
    rw [← e4]
    congr 1
    exact decide_eq_decide.2 (by omega)
   ·rw [if_neg (by omega)] at e4
    have Q:=Go.Sort.pdq_sorts lt W d5 (mid+1) b2 l2 true true (by omega) (by omega) r5
    have Q2:=r7 _ Q.1 Q.2
    conv=>whnf
    refine ov_eq (show (mid:Int)+1=((mid+1:Nat):Int) by omega) (by omega) ?_
    conv=>whnf
    refine ih (b2 - (mid+1)) (by omega) (mid+1) b2 l2 (Nat.le_refl _) hb5 (r3.trans s4) (by omega) g2 gl2 r5 fun h6 hb6 k6=>?_
    conv=>whnf
    refine ⟨mid - a,by omega,a,mid,l2,_,ap,_,rfl,rfl,ga,by omega,gl2,⟨by rw [Q.1.1];exact r3.trans s4,r1,by omega,Q2.1,?_⟩,hb6,k5.trans k6⟩
    rw [← e4]
    congr 1
    exact decide_eq_decide.2 (by omega)
 conv=>whnf
 refine bsel_intro (fun q8=>?_) (fun q8=>?_) <;> try simp only [bsL] at q8
 ·have ehint:hint3=.increasing:=(hintV_1 _).1 (by omega)
  rw [ehint] at e3
  have P:=Go.Sort.partialInsertionSort_holds W d3 a b2 (by omega) (by omega) B3
  simp only [Bool.true_and,decide_true,if_true] at e3
  conv=>whnf
  refine parE_x S a b2 hb3 s3 hsz hcap (by omega) g2 fun h4 hb4 o4=>?_
  have k4:=k3.eqs o4
  generalize partialInsertionSort lt d3 a b2=rr at *
  obtain ⟨d4,done⟩:=rr
  simp only [] at e3 hb4 P ⊢
  have s4:d4.size=n:=P.1.1.trans s3
  have B4:Below lt a b2 d4:=B3.perm (by omega) P.1
  cases done
  ·have e4:pdqC lt d4 a b2 l2 true true p3=F:=by simpa using e3
   conv=>whnf
   unfold pdqC at e4
   conv=>whnf
   refine bsel_intro (fun q5=>?_) (fun q5=>?_) <;> try simp only [bsL] at q5
   ·conv=>whnf
    refine ov_eq (show (a:Int) - 1=((a - 1:Nat):Int) by omega) (by omega) ?_
    conv=>whnf
    (first | refine need_intro (⟨by omega,by omega⟩) ?_ | refine must.mk (⟨by omega,by omega⟩) ?_);conv=>whnf
    refine ⟨_,loadR aggE1 sizE1 S.len hb4 (a - 1) rfl (by omega),?_⟩;conv=>whnf
    (first | refine need_intro (⟨by omega,by omega⟩) ?_ | refine must.mk (⟨by omega,by omega⟩) ?_);conv=>whnf
    refine ⟨_,loadR aggE1 sizE1 S.len hb4 p3 rfl (by omega),?_⟩;conv=>whnf
    refine aRunK_yv rfl rfl rfl (S.cmp _ _ _ _ fun c2 ec2=>?_)
    refine ⟨trivial,?_⟩;conv=>whnf
    refine bsel_intro (fun q6=>?_) (fun q6=>?_) <;> try simp only [bsL] at q6
    ·rw [decide_eq_false (by omega)] at ec2
     rw [if_pos (by rw [← ec2];simp;omega)] at e4
     have R:=Go.Sort.round_eq W (Go.Sort.partitionEqual_holds lt) (show 0<a by omega) p1 p2 (by omega) B4 ec2.symm (show partitionEqual lt d4 a b2 p3=((partitionEqual lt d4 a b2 p3).1,(partitionEqual lt d4 a b2 p3).2) from rfl)
     conv=>whnf
     refine partEqE_x S a b2 p3 hb4 s4 hsz hcap p1 p2 g2 fun h5 hb5 o5=>?_
     have k5:=k4.eqs o5
     generalize partitionEqual lt d4 a b2 p3=rr at *
     obtain ⟨mid,d5⟩:=rr
     simp only [] at e4 R hb5 ⊢
     obtain ⟨r1,r2,r3,r4,r5⟩:=R
     rw [if_pos ⟨r1,r2⟩] at e4
     conv=>whnf
     exact ⟨b2 - mid,by omega,mid,b2,l2,_,_,d5,rfl,rfl,by omega,gb,gl2,⟨r3.trans s4,r2,g2,r4,e4⟩,hb5,k5⟩
    ·rw [decide_eq_true (by omega)] at ec2
     have q5c:(decide (a>0) && !lt d4[a - 1]! d4[p3]!)=false:=by rw [← ec2];simp
     rw [if_neg (by simp [q5c])] at e4
     have R:=Go.Sort.round_part W (Go.Sort.partition_holds lt) p1 p2 (by omega) B4 (show partition lt d4 a b2 p3=((partition lt d4 a b2 p3).1,(partition lt d4 a b2 p3).2.1,(partition lt d4 a b2 p3).2.2) from rfl)
     conv=>whnf
     refine partE_x S a b2 p3 hb4 s4 hsz hcap p1 p2 g2 fun h5 hb5 o5=>?_
     have k5:=k4.eqs o5
     generalize partition lt d4 a b2 p3=rr at *
     obtain ⟨mid,ap,d5⟩:=rr
     simp only [] at e4 R hb5 ⊢
     obtain ⟨r1,r2,r3,r4,r5,r6,r7⟩:=R
     rw [if_pos ⟨r1,r2⟩] at e4
     conv=>whnf
     refine ov_eq (show (mid:Int) - (a:Int)=((mid - a:Nat):Int) by omega) (by omega) ?_
     conv=>whnf
     refine ov_eq (show (b2:Int) - (mid:Int)=((b2 - mid:Nat):Int) by omega) (by omega) ?_
     conv=>whnf
     refine ov_eq (show ((b2 - a:Nat):Int).tdiv 8=(((b2 - a) / 8:Nat):Int) from rfl) (by omega) ?_
     conv=>whnf
     refine bsel_intro (fun q7=>?_) (fun q7=>?_) <;> try simp only [bsL] at q7
     ·rw [if_pos (by omega)] at e4
      have Q:=Go.Sort.pdq_sorts lt W d5 a mid l2 true true r1 (by omega) r4
      have Q2:=r6 _ Q.1 Q.2
      conv=>whnf
      refine ih (mid - a) (by omega) a mid l2 (Nat.le_refl _) hb5 (r3.trans s4) r1 (by omega) gl2 r4 fun h6 hb6 k6=>?_
      conv=>whnf
      refine ov_eq (show (mid:Int)+1=((mid+1:Nat):Int) by omega) (by omega) ?_
      conv=>whnf
      refine ⟨b2 - (mid+1),by omega,mid+1,b2,l2,_,ap,_,rfl,rfl,by omega,gb,gl2,⟨by rw [Q.1.1];exact r3.trans s4,by omega,g2,Q2.1,?_⟩,hb6,k5.trans k6⟩
      rw [← e4]
      congr 1
      exact decide_eq_decide.2 (by omega)
     ·rw [if_neg (by omega)] at e4
      have Q:=Go.Sort.pdq_sorts lt W d5 (mid+1) b2 l2 true true (by omega) (by omega) r5
      have Q2:=r7 _ Q.1 Q.2
      conv=>whnf
      refine ov_eq (show (mid:Int)+1=((mid+1:Nat):Int) by omega) (by omega) ?_
      conv=>whnf
      refine ih (b2 - (mid+1)) (by omega) (mid+1) b2 l2 (Nat.le_refl _) hb5 (r3.trans s4) (by omega) g2 gl2 r5 fun h6 hb6 k6=>?_
      conv=>whnf
      refine ⟨mid - a,by omega,a,mid,l2,_,ap,_,rfl,rfl,ga,by omega,gl2,⟨by rw [Q.1.1];exact r3.trans s4,r1,by omega,Q2.1,?_⟩,hb6,k5.trans k6⟩
      rw [← e4]
      congr 1
      exact decide_eq_decide.2 (by omega)
   ·have q5c:(decide (a>0) && !lt d4[a - 1]! d4[p3]!)=false:=by
     rw [decide_eq_false (by omega)];rfl
    rw [if_neg (by simp [q5c])] at e4
    have R:=Go.Sort.round_part W (Go.Sort.partition_holds lt) p1 p2 (by omega) B4 (show partition lt d4 a b2 p3=((partition lt d4 a b2 p3).1,(partition lt d4 a b2 p3).2.1,(partition lt d4 a b2 p3).2.2) from rfl)
    conv=>whnf
    refine partE_x S a b2 p3 hb4 s4 hsz hcap p1 p2 g2 fun h5 hb5 o5=>?_
    have k5:=k4.eqs o5
    generalize partition lt d4 a b2 p3=rr at *
    obtain ⟨mid,ap,d5⟩:=rr
    simp only [] at e4 R hb5 ⊢
    obtain ⟨r1,r2,r3,r4,r5,r6,r7⟩:=R
    rw [if_pos ⟨r1,r2⟩] at e4
    conv=>whnf
    refine ov_eq (show (mid:Int) - (a:Int)=((mid - a:Nat):Int) by omega) (by omega) ?_
    conv=>whnf
    refine ov_eq (show (b2:Int) - (mid:Int)=((b2 - mid:Nat):Int) by omega) (by omega) ?_
    conv=>whnf
    refine ov_eq (show ((b2 - a:Nat):Int).tdiv 8=(((b2 - a) / 8:Nat):Int) from rfl) (by omega) ?_
    conv=>whnf
    refine bsel_intro (fun q7=>?_) (fun q7=>?_) <;> try simp only [bsL] at q7
    ·rw [if_pos (by omega)] at e4
     have Q:=Go.Sort.pdq_sorts lt W d5 a mid l2 true true r1 (by omega) r4
     have Q2:=r6 _ Q.1 Q.2
     conv=>whnf
     refine ih (mid - a) (by omega) a mid l2 (Nat.le_refl _) hb5 (r3.trans s4) r1 (by omega) gl2 r4 fun h6 hb6 k6=>?_
     conv=>whnf
     refine ov_eq (show (mid:Int)+1=((mid+1:Nat):Int) by omega) (by omega) ?_
     conv=>whnf
     refine ⟨b2 - (mid+1),by omega,mid+1,b2,l2,_,ap,_,rfl,rfl,by omega,gb,gl2,⟨by rw [Q.1.1];exact r3.trans s4,by omega,g2,Q2.1,?_⟩,hb6,k5.trans k6⟩
     rw [← e4]
     congr 1
     exact decide_eq_decide.2 (by omega)
    ·rw [if_neg (by omega)] at e4
     have Q:=Go.Sort.pdq_sorts lt W d5 (mid+1) b2 l2 true true (by omega) (by omega) r5
     have Q2:=r7 _ Q.1 Q.2
     conv=>whnf
     refine ov_eq (show (mid:Int)+1=((mid+1:Nat):Int) by omega) (by omega) ?_
     conv=>whnf
     refine ih (b2 - (mid+1)) (by omega) (mid+1) b2 l2 (Nat.le_refl _) hb5 (r3.trans s4) (by omega) g2 gl2 r5 fun h6 hb6 k6=>?_
     conv=>whnf
     refine ⟨mid - a,by omega,a,mid,l2,_,ap,_,rfl,rfl,ga,by omega,gl2,⟨by rw [Q.1.1];exact r3.trans s4,r1,by omega,Q2.1,?_⟩,hb6,k5.trans k6⟩
     rw [← e4]
     congr 1
     exact decide_eq_decide.2 (by omega)
  ·have e4:d4=F:=by simpa using e3
   rw [e4] at hb4
   conv=>whnf
   exact hk _ hb4 k4
 ·have ehint:hint3≠.increasing:=fun hh=>by rw [hh] at q8;simp [hintV] at q8
  have hob_:∃ d4:Array α,d4.size=n∧Below lt a b2 d4∧pdqC lt d4 a b2 l2 true true p3=F∧h3 b=some (RowD 62 enc d4 rest):=⟨d3,s3,B3,by simpa [ehint] using e3,hb3⟩
  obtain ⟨d4,s4,B4,e4,hb4⟩:=hob_
  have k4:=k3
  unfold pdqC at e4
  conv=>whnf
  refine bsel_intro (fun q5=>?_) (fun q5=>?_) <;> try simp only [bsL] at q5
  ·conv=>whnf
   refine ov_eq (show (a:Int) - 1=((a - 1:Nat):Int) by omega) (by omega) ?_
   conv=>whnf
   (first | refine need_intro (⟨by omega,by omega⟩) ?_ | refine must.mk (⟨by omega,by omega⟩) ?_);conv=>whnf
   refine ⟨_,loadR aggE1 sizE1 S.len hb4 (a - 1) rfl (by omega),?_⟩;conv=>whnf
   (first | refine need_intro (⟨by omega,by omega⟩) ?_ | refine must.mk (⟨by omega,by omega⟩) ?_);conv=>whnf
   refine ⟨_,loadR aggE1 sizE1 S.len hb4 p3 rfl (by omega),?_⟩;conv=>whnf
   refine aRunK_yv rfl rfl rfl (S.cmp _ _ _ _ fun c2 ec2=>?_)
   refine ⟨trivial,?_⟩;conv=>whnf
   refine bsel_intro (fun q6=>?_) (fun q6=>?_) <;> try simp only [bsL] at q6
   ·rw [decide_eq_false (by omega)] at ec2
    rw [if_pos (by rw [← ec2];simp;omega)] at e4
    have R:=Go.Sort.round_eq W (Go.Sort.partitionEqual_holds lt) (show 0<a by omega) p1 p2 (by omega) B4 ec2.symm (show partitionEqual lt d4 a b2 p3=((partitionEqual lt d4 a b2 p3).1,(partitionEqual lt d4 a b2 p3).2) from rfl)
    conv=>whnf
    refine partEqE_x S a b2 p3 hb4 s4 hsz hcap p1 p2 g2 fun h5 hb5 o5=>?_
    have k5:=k4.eqs o5
    generalize partitionEqual lt d4 a b2 p3=rr at *
    obtain ⟨mid,d5⟩:=rr
    simp only [] at e4 R hb5 ⊢
    obtain ⟨r1,r2,r3,r4,r5⟩:=R
    rw [if_pos ⟨r1,r2⟩] at e4
    conv=>whnf
    exact ⟨b2 - mid,by omega,mid,b2,l2,_,_,d5,rfl,rfl,by omega,gb,gl2,⟨r3.trans s4,r2,g2,r4,e4⟩,hb5,k5⟩
   ·rw [decide_eq_true (by omega)] at ec2
    have q5c:(decide (a>0) && !lt d4[a - 1]! d4[p3]!)=false:=by rw [← ec2];simp
    rw [if_neg (by simp [q5c])] at e4
    have R:=Go.Sort.round_part W (Go.Sort.partition_holds lt) p1 p2 (by omega) B4 (show partition lt d4 a b2 p3=((partition lt d4 a b2 p3).1,(partition lt d4 a b2 p3).2.1,(partition lt d4 a b2 p3).2.2) from rfl)
    conv=>whnf
    refine partE_x S a b2 p3 hb4 s4 hsz hcap p1 p2 g2 fun h5 hb5 o5=>?_
    have k5:=k4.eqs o5
    generalize partition lt d4 a b2 p3=rr at *
    obtain ⟨mid,ap,d5⟩:=rr
    simp only [] at e4 R hb5 ⊢
    obtain ⟨r1,r2,r3,r4,r5,r6,r7⟩:=R
    rw [if_pos ⟨r1,r2⟩] at e4
    conv=>whnf
    refine ov_eq (show (mid:Int) - (a:Int)=((mid - a:Nat):Int) by omega) (by omega) ?_
    conv=>whnf
    refine ov_eq (show (b2:Int) - (mid:Int)=((b2 - mid:Nat):Int) by omega) (by omega) ?_
    conv=>whnf
    refine ov_eq (show ((b2 - a:Nat):Int).tdiv 8=(((b2 - a) / 8:Nat):Int) from rfl) (by omega) ?_
    conv=>whnf
    refine bsel_intro (fun q7=>?_) (fun q7=>?_) <;> try simp only [bsL] at q7
    ·rw [if_pos (by omega)] at e4
     have Q:=Go.Sort.pdq_sorts lt W d5 a mid l2 true true r1 (by omega) r4
     have Q2:=r6 _ Q.1 Q.2
     conv=>whnf
     refine ih (mid - a) (by omega) a mid l2 (Nat.le_refl _) hb5 (r3.trans s4) r1 (by omega) gl2 r4 fun h6 hb6 k6=>?_
     conv=>whnf
     refine ov_eq (show (mid:Int)+1=((mid+1:Nat):Int) by omega) (by omega) ?_
     conv=>whnf
     refine ⟨b2 - (mid+1),by omega,mid+1,b2,l2,_,ap,_,rfl,rfl,by omega,gb,gl2,⟨by rw [Q.1.1];exact r3.trans s4,by omega,g2,Q2.1,?_⟩,hb6,k5.trans k6⟩
     rw [← e4]
     congr 1
     exact decide_eq_decide.2 (by omega)
    ·rw [if_neg (by omega)] at e4
     have Q:=Go.Sort.pdq_sorts lt W d5 (mid+1) b2 l2 true true (by omega) (by omega) r5
     have Q2:=r7 _ Q.1 Q.2
     conv=>whnf
     refine ov_eq (show (mid:Int)+1=((mid+1:Nat):Int) by omega) (by omega) ?_
     conv=>whnf
     refine ih (b2 - (mid+1)) (by omega) (mid+1) b2 l2 (Nat.le_refl _) hb5 (r3.trans s4) (by omega) g2 gl2 r5 fun h6 hb6 k6=>?_
     conv=>whnf
     refine ⟨mid - a,by omega,a,mid,l2,_,ap,_,rfl,rfl,ga,by omega,gl2,⟨by rw [Q.1.1];exact r3.trans s4,r1,by omega,Q2.1,?_⟩,hb6,k5.trans k6⟩
     rw [← e4]
     congr 1
     exact decide_eq_decide.2 (by omega)
  ·have q5c:(decide (a>0) && !lt d4[a - 1]! d4[p3]!)=false:=by
    rw [decide_eq_false (by omega)];rfl
   rw [if_neg (by simp [q5c])] at e4
   have R:=Go.Sort.round_part W (Go.Sort.partition_holds lt) p1 p2 (by omega) B4 (show partition lt d4 a b2 p3=((partition lt d4 a b2 p3).1,(partition lt d4 a b2 p3).2.1,(partition lt d4 a b2 p3).2.2) from rfl)
   conv=>whnf
   refine partE_x S a b2 p3 hb4 s4 hsz hcap p1 p2 g2 fun h5 hb5 o5=>?_
   have k5:=k4.eqs o5
   generalize partition lt d4 a b2 p3=rr at *
   obtain ⟨mid,ap,d5⟩:=rr
   simp only [] at e4 R hb5 ⊢
   obtain ⟨r1,r2,r3,r4,r5,r6,r7⟩:=R
   rw [if_pos ⟨r1,r2⟩] at e4
   conv=>whnf
   refine ov_eq (show (mid:Int) - (a:Int)=((mid - a:Nat):Int) by omega) (by omega) ?_
   conv=>whnf
   refine ov_eq (show (b2:Int) - (mid:Int)=((b2 - mid:Nat):Int) by omega) (by omega) ?_
   conv=>whnf
   refine ov_eq (show ((b2 - a:Nat):Int).tdiv 8=(((b2 - a) / 8:Nat):Int) from rfl) (by omega) ?_
   conv=>whnf
   refine bsel_intro (fun q7=>?_) (fun q7=>?_) <;> try simp only [bsL] at q7
   ·rw [if_pos (by omega)] at e4
    have Q:=Go.Sort.pdq_sorts lt W d5 a mid l2 true true r1 (by omega) r4
    have Q2:=r6 _ Q.1 Q.2
    conv=>whnf
    refine ih (mid - a) (by omega) a mid l2 (Nat.le_refl _) hb5 (r3.trans s4) r1 (by omega) gl2 r4 fun h6 hb6 k6=>?_
    conv=>whnf
    refine ov_eq (show (mid:Int)+1=((mid+1:Nat):Int) by omega) (by omega) ?_
    conv=>whnf
    refine ⟨b2 - (mid+1),by omega,mid+1,b2,l2,_,ap,_,rfl,rfl,by omega,gb,gl2,⟨by rw [Q.1.1];exact r3.trans s4,by omega,g2,Q2.1,?_⟩,hb6,k5.trans k6⟩
    rw [← e4]
    congr 1
    exact decide_eq_decide.2 (by omega)
   ·rw [if_neg (by omega)] at e4
    have Q:=Go.Sort.pdq_sorts lt W d5 (mid+1) b2 l2 true true (by omega) (by omega) r5
    have Q2:=r7 _ Q.1 Q.2
    conv=>whnf
    refine ov_eq (show (mid:Int)+1=((mid+1:Nat):Int) by omega) (by omega) ?_
    conv=>whnf
    refine ih (b2 - (mid+1)) (by omega) (mid+1) b2 l2 (Nat.le_refl _) hb5 (r3.trans s4) (by omega) g2 gl2 r5 fun h6 hb6 k6=>?_
    conv=>whnf
    refine ⟨mid - a,by omega,a,mid,l2,_,ap,_,rfl,rfl,ga,by omega,gl2,⟨by rw [Q.1.1];exact r3.trans s4,r1,by omega,Q2.1,?_⟩,hb6,k5.trans k6⟩
    rw [← e4]
    congr 1
    exact decide_eq_decide.2 (by omega)
end
end Go.Proofs.YtdhkjcdneidgaaaGreatDoor
