/-
  Sorting of heats: the partition. (Printed by wip/pdqe.py.)
-/
import Derived.Test.YtdhkjcdneidgaaaGreatDoorPdqC
set_option linter.unusedSimpArgs false
set_option linter.unusedVariables false
set_option maxHeartbeats 8000000
set_option maxRecDepth 10000
set_option linter.unusedSimpArgs false
set_option linter.unusedVariables false
namespace Go.Proofs.YtdhkjcdneidgaaaGreatDoor
open Go Go.Mid Go.RowKit
open Go.Sort (swp scanUp scanDown partEqLoop partitionEqual)
attribute [local irreducible] mid
section
variable {h:Hp} {K:Value→Hp→Prop}
variable {α:Type} [Inhabited α]
variable {enc:α→List Value} {lt:α→α→Bool} {y:Value}
theorem scanUp_go {p:α→Bool} {d:Array α} {i j:Nat} (h:i≤j) (hp:p d[i]! = true):scanUp p d j i=scanUp p d j (i+1):=by
 rw [scanUp,if_pos (by simp [h,hp])]
theorem scanUp_stop {p:α→Bool} {d:Array α} {i j:Nat} (h:i≤j→p d[i]! = false):scanUp p d j i=i:=by
 rw [scanUp,if_neg (fun hh=>by
  simp only [Bool.and_eq_true,decide_eq_true_eq] at hh
  rw [h hh.1] at hh
  cases hh.2)]
theorem scanDown_go {p:α→Bool} {d:Array α} {i j:Nat} (h:i≤j+1) (hp:p d[j+1]! = true):scanDown p d i (j+1)=scanDown p d i j:=by
 rw [scanDown,if_pos (by simp [h,hp])]
theorem scanDown_stop {p:α→Bool} {d:Array α} {i j:Nat} (h:i≤j→p d[j]! = false):scanDown p d i j=j:=by
 cases j with
 | zero=>rfl
 | succ j =>
  rw [scanDown,if_neg (fun hh=>by
   simp only [Bool.and_eq_true,decide_eq_true_eq] at hh
   rw [h hh.1] at hh
   cases hh.2)]
theorem partEqLoop_end {a i j i2 j2:Nat} {d:Array α} (h1:scanUp (fun x=>!lt d[a]! x) d j i=i2) (h2:scanDown (fun x=>lt d[a]! x) d i2 j=j2) (h:i2>j2):partEqLoop lt a i j d=(i2,d):=by
 rw [partEqLoop]
 simp only [h1,h2]
 rw [if_pos h]
theorem partEqLoop_go {a i j i2 j2:Nat} {d:Array α} (h1:scanUp (fun x=>!lt d[a]! x) d j i=i2) (h2:scanDown (fun x=>lt d[a]! x) d i2 j=j2) (h:¬ i2>j2) (h3:i≤i2) (h4:j2≤j) (h5:1≤i):partEqLoop lt a i j d=partEqLoop lt a (i2+1) (j2 - 1) (swp d i2 j2):=by
 rw [partEqLoop]
 simp only [h1,h2]
 rw [if_neg h,dif_pos (by omega)]
theorem partEqE_x (S:Srt1 enc lt y) {b cap n:Nat} {d:Array α} {rest:List Value} (lo hi pv:Nat) (hb:h b=some (RowD 62 enc d rest)) (hd:d.size=n) (hsz:n<2 ^ 30) (hcap:n≤cap) (hlp:lo≤pv) (hph:pv<hi) (hhi:hi≤n)
  (hk:∀ h',h' b=some (RowD 62 enc (partitionEqual lt d lo hi pv).2 rest)→(∀ c,c≠b→h' c=h c)→K (.int .i64 ((partitionEqual lt d lo hi pv).1:Nat)) h') :
  X Tryz.prog 97 #[.slice (some ⟨b,0,none⟩) n cap,.int .i64 lo,.int .i64 hi,.int .i64 pv,y] h K:=by
 unfold partitionEqual at hk
 refine fnv (args:=_) mixed [] [] [] Tryz.func97 rfl (by kernel_rfl) (cw_ ?_)
 refine n_ ?_
 refine ⟨_,loadR aggE1 sizE1 S.len hb pv rfl (by omega),cw_ ?_⟩
 refine n_ ?_
 refine ⟨_,loadR aggE1 sizE1 S.len hb lo rfl (by omega),cw_ ?_⟩
 refine n_ ?_
 refine wr_intro (by exact storeR sizE1 S.len S.one hb lo rfl (by omega) d[pv]!) (fun h1 at_h1 ot_h1=>cw_ ?_)
 refine ⟨trivial,cw_ ?_⟩
 refine n_ ?_
 refine wr_intro (by exact storeR sizE1 S.len S.one at_h1 pv rfl (by rw [setIf_size];omega) d[lo]!) (fun h2 at_h2 ot_h2=>cw_ ?_)
 refine ⟨trivial,cw_ ?_⟩
 have hb2:h2 b=some (RowD 62 enc (swp d lo pv) rest):=at_h2
 have ho2:∀ c,c≠b→h2 c=h c:=fun c hc=>by rw [ot_h2 c hc,ot_h1 c hc]
 have hs2:(swp d lo pv).size=n:=by rw [swp_size];exact hd
 generalize swp d lo pv=d0 at *
 refine ov_eq (show (lo:Int)+1=((lo+1:Nat):Int) by omega) (by omega) (cw_ ?_)
 refine ov_eq (show (hi:Int) - 1=((hi - 1:Nat):Int) by omega) (by omega) (cw_ ?_)
 refine loop_at [11,12] [] (fun r vs _ h'=>∃ (i j:Nat) (d':Array α),j+2 - i=r∧vs=[.v (.int .i64 i),.v (.int .i64 j)]∧lo+1≤i∧j<hi∧i≤j+2∧d'.size=n∧partEqLoop lt lo i j d'=partEqLoop lt lo (lo+1) (hi - 1) d0∧h' b=some (RowD 62 enc d' rest)∧∀ c,c≠b→h' c=h c) (hi - 1+2 - (lo+1)) ⟨lo+1,hi - 1,d0,rfl,rfl,by omega,by omega,by omega,hs2,rfl,hb2,ho2⟩ ?_
 rintro r vs cs mm bx h3 ⟨i,j,d1,rfl,rfl,i1,i2,i3,s1,e1,hb3,ho3⟩
 obtain ⟨I,hI⟩:∃ I,scanUp (fun x=>!lt d1[lo]! x) d1 j i=I:=⟨_,rfl⟩
 conv=>whnf
 refine loop_at [11] [] (fun r vs _ h'=>h3=h'∧∃ (i':Nat),j+1 - i'=r∧vs=[.v (.int .i64 i')]∧i≤i'∧(i'≤j+1∨i'=i)∧scanUp (fun x=>!lt d1[lo]! x) d1 j i'=I) (j+1 - i) ⟨rfl,i,rfl,rfl,Nat.le_refl _,.inr rfl,hI⟩ ?_
 rintro r vs cs mm2 bx2 _ ⟨rfl,i',rfl,rfl,i4,i5,hI2⟩
 conv=>whnf
 refine br_ (fun q1=>?_) fun q1=>?_
 ·conv=>whnf
  refine n_ ?_
  refine ⟨_,loadR aggE1 sizE1 S.len hb3 lo rfl (by omega),cw_ ?_⟩
  refine n_ ?_
  refine ⟨_,loadR aggE1 sizE1 S.len hb3 i' rfl (by omega),cw_ ?_⟩
  refine aRunK_yv rfl rfl rfl (S.cmp _ _ _ _ fun c ec=>?_)
  refine ⟨trivial,cw_ ?_⟩
  refine br_ (fun q2=>?_) fun q2=>?_
  ·rw [decide_eq_false q2] at ec
   rw [scanUp_go (by omega) (by rw [← ec];rfl)] at hI2
   conv=>whnf
   refine ov_eq (show (i':Int)+1=((i'+1:Nat):Int) by omega) (by omega) (cw_ ?_)
   exact ⟨j+1 - (i'+1),by omega,rfl,i'+1,rfl,rfl,by omega,by omega,hI2⟩
  ·rw [decide_eq_true q2] at ec
   rw [scanUp_stop (fun _=>by rw [← ec];rfl)] at hI2
   have hI3:=hI.trans hI2.symm
   obtain ⟨J,hJ⟩:∃ J,scanDown (fun x=>lt d1[lo]! x) d1 i' j=J:=⟨_,rfl⟩
   conv=>whnf
   refine loop_at [12] [] (fun r vs _ h'=>h3=h'∧∃ (j':Nat),j'=r∧vs=[.v (.int .i64 j')]∧j'≤j∧(i'≤j'+1∨j'=j)∧scanDown (fun x=>lt d1[lo]! x) d1 i' j'=J) j ⟨rfl,j,rfl,rfl,Nat.le_refl _,.inr rfl,hJ⟩ ?_
   rintro r vs cs mm3 bx3 _ ⟨rfl,j',rfl,rfl,j4,j5,hJ2⟩
   conv=>whnf
   refine br_ (fun q3=>?_) fun q3=>?_
   ·conv=>whnf
    refine n_ ?_
    refine ⟨_,loadR aggE1 sizE1 S.len hb3 lo rfl (by omega),cw_ ?_⟩
    refine n_ ?_
    refine ⟨_,loadR aggE1 sizE1 S.len hb3 j' rfl (by omega),cw_ ?_⟩
    refine aRunK_yv rfl rfl rfl (S.cmp _ _ _ _ fun c2 ec2=>?_)
    refine ⟨trivial,cw_ ?_⟩
    refine br_ (fun q4=>?_) fun q4=>?_
    ·rw [decide_eq_true q4] at ec2
     obtain ⟨j0,rfl⟩:∃ j0,j'=j0+1:=⟨j' - 1,by omega⟩
     rw [scanDown_go (by omega) ec2.symm] at hJ2
     conv=>whnf
     refine ov_eq (show ((j0+1:Nat):Int) - 1=(j0:Int) by omega) (by omega) (cw_ ?_)
     exact ⟨j0,by omega,rfl,j0,rfl,rfl,by omega,by omega,hJ2⟩
    ·rw [decide_eq_false q4] at ec2
     rw [scanDown_stop (fun _=>ec2.symm)] at hJ2
     have hJ3:=hJ.trans hJ2.symm
     conv=>whnf
     refine br_ (fun q5=>?_) fun q5=>?_
     ·rw [partEqLoop_end hI3 hJ3 (by omega)] at e1
      rw [← e1] at hk
      conv=>whnf
      exact hk _ hb3 ho3
     ·rw [partEqLoop_go hI3 hJ3 (by omega) i4 j4 (by omega)] at e1
      conv=>whnf
      refine n_ ?_
      refine ⟨_,loadR aggE1 sizE1 S.len hb3 j' rfl (by omega),cw_ ?_⟩
      refine n_ ?_
      refine ⟨_,loadR aggE1 sizE1 S.len hb3 i' rfl (by omega),cw_ ?_⟩
      refine n_ ?_
      refine wr_intro (by exact storeR sizE1 S.len S.one hb3 i' rfl (by omega) d1[j']!) (fun h4 at_h4 ot_h4=>cw_ ?_)
      refine ⟨trivial,cw_ ?_⟩
      refine n_ ?_
      refine wr_intro (by exact storeR sizE1 S.len S.one at_h4 j' rfl (by rw [setIf_size];omega) d1[i']!) (fun h5 at_h5 ot_h5=>cw_ ?_)
      refine ⟨trivial,cw_ ?_⟩
      refine ov_eq (show (i':Int)+1=((i'+1:Nat):Int) by omega) (by omega) (cw_ ?_)
      refine ov_eq (show (j':Int) - 1=((j' - 1:Nat):Int) by omega) (by omega) (cw_ ?_)
      exact ⟨j' - 1+2 - (i'+1),by omega,i'+1,j' - 1,swp d1 i' j',rfl,rfl,by omega,by omega,by omega,by rw [swp_size];exact s1,e1,at_h5,fun c hc=>by rw [ot_h5 c hc,ot_h4 c hc];exact ho3 c hc⟩
   ·rw [scanDown_stop (fun hh=>by omega)] at hJ2
    have hJ3:=hJ.trans hJ2.symm
    conv=>whnf
    refine br_ (fun q5=>?_) fun q5=>?_
    ·rw [partEqLoop_end hI3 hJ3 (by omega)] at e1
     rw [← e1] at hk
     conv=>whnf
     exact hk _ hb3 ho3
    ·rw [partEqLoop_go hI3 hJ3 (by omega) i4 j4 (by omega)] at e1
     conv=>whnf
     refine n_ ?_
     refine ⟨_,loadR aggE1 sizE1 S.len hb3 j' rfl (by omega),cw_ ?_⟩
     refine n_ ?_
     refine ⟨_,loadR aggE1 sizE1 S.len hb3 i' rfl (by omega),cw_ ?_⟩
     refine n_ ?_
     refine wr_intro (by exact storeR sizE1 S.len S.one hb3 i' rfl (by omega) d1[j']!) (fun h4 at_h4 ot_h4=>cw_ ?_)
     refine ⟨trivial,cw_ ?_⟩
     refine n_ ?_
     refine wr_intro (by exact storeR sizE1 S.len S.one at_h4 j' rfl (by rw [setIf_size];omega) d1[i']!) (fun h5 at_h5 ot_h5=>cw_ ?_)
     refine ⟨trivial,cw_ ?_⟩
     refine ov_eq (show (i':Int)+1=((i'+1:Nat):Int) by omega) (by omega) (cw_ ?_)
     refine ov_eq (show (j':Int) - 1=((j' - 1:Nat):Int) by omega) (by omega) (cw_ ?_)
     exact ⟨j' - 1+2 - (i'+1),by omega,i'+1,j' - 1,swp d1 i' j',rfl,rfl,by omega,by omega,by omega,by rw [swp_size];exact s1,e1,at_h5,fun c hc=>by rw [ot_h5 c hc,ot_h4 c hc];exact ho3 c hc⟩
 ·rw [scanUp_stop (fun hh=>by omega)] at hI2
  have hI3:=hI.trans hI2.symm
  obtain ⟨J,hJ⟩:∃ J,scanDown (fun x=>lt d1[lo]! x) d1 i' j=J:=⟨_,rfl⟩
  conv=>whnf
  refine loop_at [12] [] (fun r vs _ h'=>h3=h'∧∃ (j':Nat),j'=r∧vs=[.v (.int .i64 j')]∧j'≤j∧(i'≤j'+1∨j'=j)∧scanDown (fun x=>lt d1[lo]! x) d1 i' j'=J) j ⟨rfl,j,rfl,rfl,Nat.le_refl _,.inr rfl,hJ⟩ ?_
  rintro r vs cs mm3 bx3 _ ⟨rfl,j',rfl,rfl,j4,j5,hJ2⟩
  conv=>whnf
  refine br_ (fun q3=>?_) fun q3=>?_
  ·conv=>whnf
   refine n_ ?_
   refine ⟨_,loadR aggE1 sizE1 S.len hb3 lo rfl (by omega),cw_ ?_⟩
   refine n_ ?_
   refine ⟨_,loadR aggE1 sizE1 S.len hb3 j' rfl (by omega),cw_ ?_⟩
   refine aRunK_yv rfl rfl rfl (S.cmp _ _ _ _ fun c2 ec2=>?_)
   refine ⟨trivial,cw_ ?_⟩
   refine br_ (fun q4=>?_) fun q4=>?_
   ·rw [decide_eq_true q4] at ec2
    obtain ⟨j0,rfl⟩:∃ j0,j'=j0+1:=⟨j' - 1,by omega⟩
    rw [scanDown_go (by omega) ec2.symm] at hJ2
    conv=>whnf
    refine ov_eq (show ((j0+1:Nat):Int) - 1=(j0:Int) by omega) (by omega) (cw_ ?_)
    exact ⟨j0,by omega,rfl,j0,rfl,rfl,by omega,by omega,hJ2⟩
   ·rw [decide_eq_false q4] at ec2
    rw [scanDown_stop (fun _=>ec2.symm)] at hJ2
    have hJ3:=hJ.trans hJ2.symm
    conv=>whnf
    refine br_ (fun q5=>?_) fun q5=>?_
    ·rw [partEqLoop_end hI3 hJ3 (by omega)] at e1
     rw [← e1] at hk
     conv=>whnf
     exact hk _ hb3 ho3
    ·rw [partEqLoop_go hI3 hJ3 (by omega) i4 j4 (by omega)] at e1
     conv=>whnf
     refine n_ ?_
     refine ⟨_,loadR aggE1 sizE1 S.len hb3 j' rfl (by omega),cw_ ?_⟩
     refine n_ ?_
     refine ⟨_,loadR aggE1 sizE1 S.len hb3 i' rfl (by omega),cw_ ?_⟩
     refine n_ ?_
     refine wr_intro (by exact storeR sizE1 S.len S.one hb3 i' rfl (by omega) d1[j']!) (fun h4 at_h4 ot_h4=>cw_ ?_)
     refine ⟨trivial,cw_ ?_⟩
     refine n_ ?_
     refine wr_intro (by exact storeR sizE1 S.len S.one at_h4 j' rfl (by rw [setIf_size];omega) d1[i']!) (fun h5 at_h5 ot_h5=>cw_ ?_)
     refine ⟨trivial,cw_ ?_⟩
     refine ov_eq (show (i':Int)+1=((i'+1:Nat):Int) by omega) (by omega) (cw_ ?_)
     refine ov_eq (show (j':Int) - 1=((j' - 1:Nat):Int) by omega) (by omega) (cw_ ?_)
     exact ⟨j' - 1+2 - (i'+1),by omega,i'+1,j' - 1,swp d1 i' j',rfl,rfl,by omega,by omega,by omega,by rw [swp_size];exact s1,e1,at_h5,fun c hc=>by rw [ot_h5 c hc,ot_h4 c hc];exact ho3 c hc⟩
  ·rw [scanDown_stop (fun hh=>by omega)] at hJ2
   have hJ3:=hJ.trans hJ2.symm
   conv=>whnf
   refine br_ (fun q5=>?_) fun q5=>?_
   ·rw [partEqLoop_end hI3 hJ3 (by omega)] at e1
    rw [← e1] at hk
    conv=>whnf
    exact hk _ hb3 ho3
   ·rw [partEqLoop_go hI3 hJ3 (by omega) i4 j4 (by omega)] at e1
    conv=>whnf
    refine n_ ?_
    refine ⟨_,loadR aggE1 sizE1 S.len hb3 j' rfl (by omega),cw_ ?_⟩
    refine n_ ?_
    refine ⟨_,loadR aggE1 sizE1 S.len hb3 i' rfl (by omega),cw_ ?_⟩
    refine n_ ?_
    refine wr_intro (by exact storeR sizE1 S.len S.one hb3 i' rfl (by omega) d1[j']!) (fun h4 at_h4 ot_h4=>cw_ ?_)
    refine ⟨trivial,cw_ ?_⟩
    refine n_ ?_
    refine wr_intro (by exact storeR sizE1 S.len S.one at_h4 j' rfl (by rw [setIf_size];omega) d1[i']!) (fun h5 at_h5 ot_h5=>cw_ ?_)
    refine ⟨trivial,cw_ ?_⟩
    refine ov_eq (show (i':Int)+1=((i'+1:Nat):Int) by omega) (by omega) (cw_ ?_)
    refine ov_eq (show (j':Int) - 1=((j' - 1:Nat):Int) by omega) (by omega) (cw_ ?_)
    exact ⟨j' - 1+2 - (i'+1),by omega,i'+1,j' - 1,swp d1 i' j',rfl,rfl,by omega,by omega,by omega,by rw [swp_size];exact s1,e1,at_h5,fun c hc=>by rw [ot_h5 c hc,ot_h4 c hc];exact ho3 c hc⟩
end
end Go.Proofs.YtdhkjcdneidgaaaGreatDoor
namespace Go.Proofs.YtdhkjcdneidgaaaGreatDoor
open Go Go.Mid Go.RowKit
open Go.Sort (swp scanUp scanDown partLoop partition)
attribute [local irreducible] mid
section
variable {h:Hp} {K:Value→Hp→Prop}
variable {α:Type} [Inhabited α]
variable {enc:α→List Value} {lt:α→α→Bool} {y:Value}
theorem partLoop_end {a i j i2 j2:Nat} {d:Array α} (h1:scanUp (fun x=>lt x d[a]!) d j i=i2) (h2:scanDown (fun x=>!lt x d[a]!) d i2 j=j2) (h:i2>j2):partLoop lt a i j d=(j2,d):=by
 rw [partLoop]
 simp only [h1,h2]
 rw [if_pos h]
theorem partLoop_go {a i j i2 j2:Nat} {d:Array α} (h1:scanUp (fun x=>lt x d[a]!) d j i=i2) (h2:scanDown (fun x=>!lt x d[a]!) d i2 j=j2) (h:¬ i2>j2) (h3:i≤i2) (h4:j2≤j) (h5:1≤i):partLoop lt a i j d=partLoop lt a (i2+1) (j2 - 1) (swp d i2 j2):=by
 rw [partLoop]
 simp only [h1,h2]
 rw [if_neg h,dif_pos (by omega)]
theorem partition_end {a b p i2 j2:Nat} {d d0:Array α} (h0:swp d a p=d0) (h1:scanUp (fun x=>lt x d0[a]!) d0 (b - 1) (a+1)=i2) (h2:scanDown (fun x=>!lt x d0[a]!) d0 i2 (b - 1)=j2) (h:i2>j2):partition lt d a b p=(j2,true,swp d0 j2 a):=by
 unfold partition
 simp only [h0,h1,h2]
 rw [if_pos h]
theorem partition_go {a b p i2 j2:Nat} {d d0:Array α} (h0:swp d a p=d0) (h1:scanUp (fun x=>lt x d0[a]!) d0 (b - 1) (a+1)=i2) (h2:scanDown (fun x=>!lt x d0[a]!) d0 i2 (b - 1)=j2) (h:¬ i2>j2):partition lt d a b p=((partLoop lt a (i2+1) (j2 - 1) (swp d0 i2 j2)).1,false,swp (partLoop lt a (i2+1) (j2 - 1) (swp d0 i2 j2)).2 (partLoop lt a (i2+1) (j2 - 1) (swp d0 i2 j2)).1 a):=by
 unfold partition
 simp only [h0,h1,h2]
 rw [if_neg h]
theorem partE_x (S:Srt1 enc lt y) {b cap n:Nat} {d:Array α} {rest:List Value} (lo hi pv:Nat) (hb:h b=some (RowD 62 enc d rest)) (hd:d.size=n) (hsz:n<2 ^ 30) (hcap:n≤cap) (hlp:lo≤pv) (hph:pv<hi) (hhi:hi≤n)
  (hk:∀ h',h' b=some (RowD 62 enc (partition lt d lo hi pv).2.2 rest)→(∀ c,c≠b→h' c=h c)→K (.tuple #[.int .i64 ((partition lt d lo hi pv).1:Nat),.bool (partition lt d lo hi pv).2.1]) h') :
  X Tryz.prog 98 #[.slice (some ⟨b,0,none⟩) n cap,.int .i64 lo,.int .i64 hi,.int .i64 pv,y] h K:=by
 refine fnv (args:=_) mixed [] [] [] Tryz.func98 rfl (by kernel_rfl) (cw_ ?_)
 refine n_ ?_
 refine ⟨_,loadR aggE1 sizE1 S.len hb pv rfl (by omega),cw_ ?_⟩
 refine n_ ?_
 refine ⟨_,loadR aggE1 sizE1 S.len hb lo rfl (by omega),cw_ ?_⟩
 refine n_ ?_
 refine wr_intro (by exact storeR sizE1 S.len S.one hb lo rfl (by omega) d[pv]!) (fun h1 at_h1 ot_h1=>cw_ ?_)
 refine ⟨trivial,cw_ ?_⟩
 refine n_ ?_
 refine wr_intro (by exact storeR sizE1 S.len S.one at_h1 pv rfl (by rw [setIf_size];omega) d[lo]!) (fun h2 at_h2 ot_h2=>cw_ ?_)
 refine ⟨trivial,cw_ ?_⟩
 have hb2:h2 b=some (RowD 62 enc (swp d lo pv) rest):=at_h2
 have ho2:∀ c,c≠b→h2 c=h c:=fun c hc=>by rw [ot_h2 c hc,ot_h1 c hc]
 have hs2:(swp d lo pv).size=n:=by rw [swp_size];exact hd
 obtain ⟨d0,hd0⟩:∃ d0,swp d lo pv=d0:=⟨_,rfl⟩
 rw [hd0] at hb2 hs2
 refine ov_eq (show (lo:Int)+1=((lo+1:Nat):Int) by omega) (by omega) (cw_ ?_)
 refine ov_eq (show (hi:Int) - 1=((hi - 1:Nat):Int) by omega) (by omega) ?_
 obtain ⟨i0,hi0⟩:∃ i0,lo+1=i0:=⟨_,rfl⟩
 obtain ⟨j0,hj0⟩:∃ j0,hi - 1=j0:=⟨_,rfl⟩
 rw [hi0,hj0]
 obtain ⟨I,hI⟩:∃ I,scanUp (fun x=>lt x d0[lo]!) d0 (j0) (i0)=I:=⟨_,rfl⟩
 conv=>whnf
 refine loop_at [12] [] (fun r vs _ h'=>h2=h'∧∃ (i':Nat),j0+1 - i'=r∧vs=[.v (.int .i64 i')]∧i0≤i'∧(i'≤j0+1∨i'=i0)∧scanUp (fun x=>lt x d0[lo]!) d0 (j0) i'=I) (j0+1 - (i0)) ⟨rfl,i0,rfl,rfl,Nat.le_refl _,.inr rfl,hI⟩ ?_
 rintro r vs cs mma2 bxa2 _ ⟨rfl,i',rfl,rfl,i4,i5,hI2⟩
 conv=>whnf
 refine br_ (fun q1=>?_) fun q1=>?_
 focus
  conv=>whnf
  refine n_ ?_
  refine ⟨_,loadR aggE1 sizE1 S.len hb2 i' rfl (by omega),cw_ ?_⟩
  refine n_ ?_
  refine ⟨_,loadR aggE1 sizE1 S.len hb2 lo rfl (by omega),cw_ ?_⟩
  refine aRunK_yv rfl rfl rfl (S.cmp _ _ _ _ fun c ec=>?_)
  refine ⟨trivial,cw_ ?_⟩
  refine br_ (fun q2=>?_) fun q2=>?_
  ·rw [decide_eq_true q2] at ec
   rw [scanUp_go (by omega) (by exact ec.symm)] at hI2
   conv=>whnf
   refine ov_eq (show (i':Int)+1=((i'+1:Nat):Int) by omega) (by omega) (cw_ ?_)
   exact ⟨j0+1 - (i'+1),by omega,rfl,i'+1,rfl,rfl,by omega,by omega,hI2⟩
  focus
   rw [decide_eq_false q2] at ec
   rw [scanUp_stop (fun _=>by exact ec.symm)] at hI2
  rotate_left
 rotate_left
 focus
  rw [scanUp_stop (fun hh=>by omega)] at hI2
 rotate_left
 all_goals
  have hI3:=hI.trans hI2.symm
  obtain ⟨J,hJ⟩:∃ J,scanDown (fun x=>!lt x d0[lo]!) d0 i' (j0)=J:=⟨_,rfl⟩
  conv=>whnf
  refine loop_at [13] [] (fun r vs _ h'=>h2=h'∧∃ (j':Nat),j'=r∧vs=[.v (.int .i64 j')]∧j'≤j0∧(i'≤j'+1∨j'=j0)∧scanDown (fun x=>!lt x d0[lo]!) d0 i' j'=J) (j0) ⟨rfl,j0,rfl,rfl,Nat.le_refl _,.inr rfl,hJ⟩ ?_
  rintro r vs cs mma3 bxa3 _ ⟨rfl,j',rfl,rfl,j4,j5,hJ2⟩
  conv=>whnf
  refine br_ (fun q3=>?_) fun q3=>?_
  focus
   conv=>whnf
   refine n_ ?_
   refine ⟨_,loadR aggE1 sizE1 S.len hb2 j' rfl (by omega),cw_ ?_⟩
   refine n_ ?_
   refine ⟨_,loadR aggE1 sizE1 S.len hb2 lo rfl (by omega),cw_ ?_⟩
   refine aRunK_yv rfl rfl rfl (S.cmp _ _ _ _ fun c2 ec2=>?_)
   refine ⟨trivial,cw_ ?_⟩
   refine br_ (fun q4=>?_) fun q4=>?_
   ·rw [decide_eq_false q4] at ec2
    obtain ⟨j9,rfl⟩:∃ j9,j'=j9+1:=⟨j' - 1,by omega⟩
    rw [scanDown_go (by omega) (by rw [← ec2];rfl)] at hJ2
    conv=>whnf
    refine ov_eq (show ((j9+1:Nat):Int) - 1=(j9:Int) by omega) (by omega) (cw_ ?_)
    exact ⟨j9,by omega,rfl,j9,rfl,rfl,by omega,by omega,hJ2⟩
   focus
    rw [decide_eq_true q4] at ec2
    rw [scanDown_stop (fun _=>by rw [← ec2];rfl)] at hJ2
    have hJ3:=hJ.trans hJ2.symm
   rotate_left
  rotate_left
  focus
   rw [scanDown_stop (fun hh=>by omega)] at hJ2
   have hJ3:=hJ.trans hJ2.symm
  rotate_left
  all_goals
   rw [← hi0,← hj0] at hI3
   rw [← hj0] at hJ3
   conv=>whnf
   refine br_ (fun q6=>?_) fun q6=>?_
   ·rw [partition_end hd0 hI3 hJ3 (by omega)] at hk
    conv=>whnf
    refine n_ ?_
    refine ⟨_,loadR aggE1 sizE1 S.len hb2 lo rfl (by omega),cw_ ?_⟩
    refine n_ ?_
    refine ⟨_,loadR aggE1 sizE1 S.len hb2 j' rfl (by omega),cw_ ?_⟩
    refine n_ ?_
    refine wr_intro (by exact storeR sizE1 S.len S.one hb2 j' rfl (by omega) d0[lo]!) (fun h3 at_h3 ot_h3=>cw_ ?_)
    refine ⟨trivial,cw_ ?_⟩
    refine n_ ?_
    refine wr_intro (by exact storeR sizE1 S.len S.one at_h3 lo rfl (by rw [setIf_size];omega) d0[j']!) (fun h4 at_h4 ot_h4=>cw_ ?_)
    refine ⟨trivial,cw_ ?_⟩
    exact hk _ at_h4 fun c hc=>by rw [ot_h4 c hc,ot_h3 c hc];exact ho2 c hc
   ·rw [partition_go hd0 hI3 hJ3 (by omega)] at hk
    conv=>whnf
    refine n_ ?_
    refine ⟨_,loadR aggE1 sizE1 S.len hb2 j' rfl (by omega),cw_ ?_⟩
    refine n_ ?_
    refine ⟨_,loadR aggE1 sizE1 S.len hb2 i' rfl (by omega),cw_ ?_⟩
    refine n_ ?_
    refine wr_intro (by exact storeR sizE1 S.len S.one hb2 i' rfl (by omega) d0[j']!) (fun h3 at_h3 ot_h3=>cw_ ?_)
    refine ⟨trivial,cw_ ?_⟩
    refine n_ ?_
    refine wr_intro (by exact storeR sizE1 S.len S.one at_h3 j' rfl (by rw [setIf_size];omega) d0[i']!) (fun h4 at_h4 ot_h4=>cw_ ?_)
    refine ⟨trivial,cw_ ?_⟩
    have hb3:h4 b=some (RowD 62 enc (swp d0 i' j') rest):=at_h4
    have ho3:∀ c,c≠b→h4 c=h c:=fun c hc=>by rw [ot_h4 c hc,ot_h3 c hc];exact ho2 c hc
    have s1:(swp d0 i' j').size=n:=by rw [swp_size];exact hs2
    refine ov_eq (show (i':Int)+1=((i'+1:Nat):Int) by omega) (by omega) (cw_ ?_)
    refine ov_eq (show (j':Int) - 1=((j' - 1:Nat):Int) by omega) (by omega) ?_
    have k1:lo+1≤i'+1:=by omega
    have k2:j' - 1<hi:=by omega
    have k3:i'+1≤j' - 1+2:=by omega
    clear hI hI2 hJ hJ2 i4 i5 j4 j5 hI3 hJ3
    generalize swp d0 i' j'=d1 at *
    generalize i'+1=i1 at *
    generalize j' - 1=j1 at *
    clear q6
    conv=>whnf
    refine loop_at [12,13] [] (fun r vs _ h'=>∃ (i j:Nat) (d':Array α),j+2 - i=r∧vs=[.v (.int .i64 i),.v (.int .i64 j)]∧lo+1≤i∧j<hi∧i≤j+2∧d'.size=n∧partLoop lt lo i j d'=partLoop lt lo i1 j1 d1∧h' b=some (RowD 62 enc d' rest)∧∀ c,c≠b→h' c=h c) (j1+2 - i1) ⟨i1,j1,d1,rfl,rfl,k1,k2,k3,s1,rfl,hb3,ho3⟩ ?_
    rintro r vs cs mm bx h4 ⟨i,j,d2,rfl,rfl,i1,i2,i3,s2,e1,hb4,ho4⟩
    obtain ⟨I,hI⟩:∃ I,scanUp (fun x=>lt x d2[lo]!) d2 (j) (i)=I:=⟨_,rfl⟩
    conv=>whnf
    refine loop_at [12] [] (fun r vs _ h'=>h4=h'∧∃ (i':Nat),j+1 - i'=r∧vs=[.v (.int .i64 i')]∧i≤i'∧(i'≤j+1∨i'=i)∧scanUp (fun x=>lt x d2[lo]!) d2 (j) i'=I) (j+1 - (i)) ⟨rfl,i,rfl,rfl,Nat.le_refl _,.inr rfl,hI⟩ ?_
    rintro r vs cs mmb2 bxb2 _ ⟨rfl,i',rfl,rfl,i4,i5,hI2⟩
    conv=>whnf
    refine br_ (fun q1=>?_) fun q1=>?_
    focus
     conv=>whnf
     refine n_ ?_
     refine ⟨_,loadR aggE1 sizE1 S.len hb4 i' rfl (by omega),cw_ ?_⟩
     refine n_ ?_
     refine ⟨_,loadR aggE1 sizE1 S.len hb4 lo rfl (by omega),cw_ ?_⟩
     refine aRunK_yv rfl rfl rfl (S.cmp _ _ _ _ fun c ec=>?_)
     refine ⟨trivial,cw_ ?_⟩
     refine br_ (fun q2=>?_) fun q2=>?_
     ·rw [decide_eq_true q2] at ec
      rw [scanUp_go (by omega) (by exact ec.symm)] at hI2
      conv=>whnf
      refine ov_eq (show (i':Int)+1=((i'+1:Nat):Int) by omega) (by omega) (cw_ ?_)
      exact ⟨j+1 - (i'+1),by omega,rfl,i'+1,rfl,rfl,by omega,by omega,hI2⟩
     focus
      rw [decide_eq_false q2] at ec
      rw [scanUp_stop (fun _=>by exact ec.symm)] at hI2
     rotate_left
    rotate_left
    focus
     rw [scanUp_stop (fun hh=>by omega)] at hI2
    rotate_left
    all_goals
     have hI3:=hI.trans hI2.symm
     obtain ⟨J,hJ⟩:∃ J,scanDown (fun x=>!lt x d2[lo]!) d2 i' (j)=J:=⟨_,rfl⟩
     conv=>whnf
     refine loop_at [13] [] (fun r vs _ h'=>h4=h'∧∃ (j':Nat),j'=r∧vs=[.v (.int .i64 j')]∧j'≤j∧(i'≤j'+1∨j'=j)∧scanDown (fun x=>!lt x d2[lo]!) d2 i' j'=J) (j) ⟨rfl,j,rfl,rfl,Nat.le_refl _,.inr rfl,hJ⟩ ?_
     rintro r vs cs mmb3 bxb3 _ ⟨rfl,j',rfl,rfl,j4,j5,hJ2⟩
     conv=>whnf
     refine br_ (fun q3=>?_) fun q3=>?_
     focus
      conv=>whnf
      refine n_ ?_
      refine ⟨_,loadR aggE1 sizE1 S.len hb4 j' rfl (by omega),cw_ ?_⟩
      refine n_ ?_
      refine ⟨_,loadR aggE1 sizE1 S.len hb4 lo rfl (by omega),cw_ ?_⟩
      refine aRunK_yv rfl rfl rfl (S.cmp _ _ _ _ fun c2 ec2=>?_)
      refine ⟨trivial,cw_ ?_⟩
      refine br_ (fun q4=>?_) fun q4=>?_
      ·rw [decide_eq_false q4] at ec2
       obtain ⟨j9,rfl⟩:∃ j9,j'=j9+1:=⟨j' - 1,by omega⟩
       rw [scanDown_go (by omega) (by rw [← ec2];rfl)] at hJ2
       conv=>whnf
       refine ov_eq (show ((j9+1:Nat):Int) - 1=(j9:Int) by omega) (by omega) (cw_ ?_)
       exact ⟨j9,by omega,rfl,j9,rfl,rfl,by omega,by omega,hJ2⟩
      focus
       rw [decide_eq_true q4] at ec2
       rw [scanDown_stop (fun _=>by rw [← ec2];rfl)] at hJ2
       have hJ3:=hJ.trans hJ2.symm
      rotate_left
     rotate_left
     focus
      rw [scanDown_stop (fun hh=>by omega)] at hJ2
      have hJ3:=hJ.trans hJ2.symm
     rotate_left
     all_goals
      conv=>whnf
      refine br_ (fun q5=>?_) fun q5=>?_
      ·rw [partLoop_end hI3 hJ3 (by omega)] at e1
       rw [← e1] at hk
       conv=>whnf
       refine n_ ?_
       refine ⟨_,loadR aggE1 sizE1 S.len hb4 lo rfl (by omega),cw_ ?_⟩
       refine n_ ?_
       refine ⟨_,loadR aggE1 sizE1 S.len hb4 j' rfl (by omega),cw_ ?_⟩
       refine n_ ?_
       refine wr_intro (by exact storeR sizE1 S.len S.one hb4 j' rfl (by omega) d2[lo]!) (fun h5 at_h5 ot_h5=>cw_ ?_)
       refine ⟨trivial,cw_ ?_⟩
       refine n_ ?_
       refine wr_intro (by exact storeR sizE1 S.len S.one at_h5 lo rfl (by rw [setIf_size];omega) d2[j']!) (fun h6 at_h6 ot_h6=>cw_ ?_)
       refine ⟨trivial,cw_ ?_⟩
       exact hk _ at_h6 fun c hc=>by rw [ot_h6 c hc,ot_h5 c hc];exact ho4 c hc
      ·rw [partLoop_go hI3 hJ3 (by omega) i4 j4 (by omega)] at e1
       conv=>whnf
       refine n_ ?_
       refine ⟨_,loadR aggE1 sizE1 S.len hb4 j' rfl (by omega),cw_ ?_⟩
       refine n_ ?_
       refine ⟨_,loadR aggE1 sizE1 S.len hb4 i' rfl (by omega),cw_ ?_⟩
       refine n_ ?_
       refine wr_intro (by exact storeR sizE1 S.len S.one hb4 i' rfl (by omega) d2[j']!) (fun h5 at_h5 ot_h5=>cw_ ?_)
       refine ⟨trivial,cw_ ?_⟩
       refine n_ ?_
       refine wr_intro (by exact storeR sizE1 S.len S.one at_h5 j' rfl (by rw [setIf_size];omega) d2[i']!) (fun h6 at_h6 ot_h6=>cw_ ?_)
       refine ⟨trivial,cw_ ?_⟩
       refine ov_eq (show (i':Int)+1=((i'+1:Nat):Int) by omega) (by omega) (cw_ ?_)
       refine ov_eq (show (j':Int) - 1=((j' - 1:Nat):Int) by omega) (by omega) (cw_ ?_)
       exact ⟨j' - 1+2 - (i'+1),by omega,i'+1,j' - 1,swp d2 i' j',rfl,rfl,by omega,by omega,by omega,by rw [swp_size];exact s2,e1,at_h6,fun c hc=>by rw [ot_h6 c hc,ot_h5 c hc];exact ho4 c hc⟩
end
end Go.Proofs.YtdhkjcdneidgaaaGreatDoor
