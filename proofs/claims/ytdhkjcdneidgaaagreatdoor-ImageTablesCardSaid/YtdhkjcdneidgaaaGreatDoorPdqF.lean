/-
  Sorting of heats: insertion that gives up. (Printed by wip/pdqf.py.)
-/
import Derived.Test.YtdhkjcdneidgaaaGreatDoorPdqE
namespace Go.Proofs.YtdhkjcdneidgaaaGreatDoor
set_option linter.unusedSimpArgs false
set_option linter.unusedVariables false
set_option linter.unusedSimpArgs false
set_option linter.unusedVariables false
open Go Go.Mid Go.RowKit
open Go.Sort (swp scanSorted shiftDown shiftUp partialIns partialInsertionSort)
attribute [local irreducible] mid
section
set_option maxHeartbeats 8000000
set_option maxRecDepth 10000
variable {h:Hp} {K:Value→Hp→Prop}
variable {α:Type} [Inhabited α]
variable {enc:α→List Value} {lt:α→α→Bool} {y:Value}
theorem scanSorted_go {d:Array α} {b i:Nat} (h:i<b) (hl:lt d[i]! d[i - 1]! = false):scanSorted lt d b i=scanSorted lt d b (i+1):=by
 rw [scanSorted,if_pos (by simp [h,hl])]
theorem scanSorted_stop {d:Array α} {b i:Nat} (h:i<b→lt d[i]! d[i - 1]! = true):scanSorted lt d b i=i:=by
 rw [scanSorted,if_neg (fun hh=>by
  simp only [Bool.and_eq_true,decide_eq_true_eq] at hh
  rw [h hh.1] at hh
  cases hh.2)]
def dnS (lt:α→α→Bool) (a i:Nat) (d:Array α):Array α:=if i - a ≥ 2 then shiftDown lt (i - 1) d else d
def upS (lt:α→α→Bool) (b i:Nat) (d:Array α):Array α:=if b - i ≥ 2 then shiftUp lt b (i+1) d else d
theorem partialIns_done {a b s i i2:Nat} {d:Array α} (h:scanSorted lt d b i=i2) (hb:i2=b):partialIns lt a b (s+1) i d=(d,true):=by
 rw [partialIns]
 simp only [h,hb,if_pos]
theorem partialIns_short {a b s i i2:Nat} {d:Array α} (h:scanSorted lt d b i=i2) (hb:i2≠b) (hs:b - a<50):partialIns lt a b (s+1) i d=(d,false):=by
 rw [partialIns]
 simp only [h,if_neg hb,if_pos hs]
theorem partialIns_go {a b s i i2:Nat} {d:Array α} (h:scanSorted lt d b i=i2) (hb:i2≠b) (hs:¬ b - a<50):partialIns lt a b (s+1) i d=partialIns lt a b s i2 (upS lt b i2 (dnS lt a i2 (swp d i2 (i2 - 1)))):=by
 rw [partialIns]
 simp only [h,if_neg hb,if_neg hs]
 rfl
theorem parE_x (S:Srt1 enc lt y) {b cap n:Nat} {d:Array α} {rest:List Value} (lo hi:Nat) (hb:h b=some (RowD 62 enc d rest)) (hd:d.size=n) (hsz:n<2 ^ 30) (hcap:n≤cap) (hlh:lo<hi) (hhi:hi≤n)
  (hk:∀ h',h' b=some (RowD 62 enc (partialInsertionSort lt d lo hi).1 rest)→(∀ c,c≠b→h' c=h c)→K (.bool (partialInsertionSort lt d lo hi).2) h') :
  X Tryz.prog 96 #[.slice (some ⟨b,0,none⟩) n cap,.int .i64 lo,.int .i64 hi,y] h K:=by
 unfold partialInsertionSort at hk
 refine fnv (args:=_) mixed [] [] [] Tryz.func96 rfl (by kernel_rfl) ?_;conv=>whnf
 refine ov_eq (show (lo:Int)+1=((lo+1:Nat):Int) by omega) (by omega) ?_
 conv=>whnf
 refine loop_at [10,9] [] (fun r vs _ h'=>∃ (i s:Nat) (z:Int) (d':Array α),s=r∧(z+s=5∧0≤z)∧vs=[.v (.int .i64 z),.v (.int .i64 i)]∧lo+1≤i∧i≤hi∧d'.size=n∧partialIns lt lo hi s i d'=partialIns lt lo hi 5 (lo+1) d∧h' b=some (RowD 62 enc d' rest)∧∀ c,c≠b→h' c=h c) 5 ⟨lo+1,5,0,d,rfl,⟨rfl,by omega⟩,rfl,by omega,by omega,hd,rfl,hb,fun _ _=>rfl⟩ ?_
 rintro r vs cs mm bx h1 ⟨i,s,z,d1,rfl,hz,rfl,i1,i2,s1,e1,hb1,ho1⟩
 conv=>whnf
 refine bsel_intro (fun q1=>?_) (fun q1=>?_) <;> try simp only [bsL] at q1
 ·obtain ⟨s',rfl⟩:∃ s',s=s'+1:=⟨s - 1,by omega⟩
  obtain ⟨I,hI⟩:∃ I,scanSorted lt d1 hi i=I:=⟨_,rfl⟩
  conv=>whnf
  refine loop_at [9] [] (fun r vs _ h'=>h1=h'∧∃ (i':Nat),hi - i'=r∧vs=[.v (.int .i64 i')]∧i≤i'∧i'≤hi∧scanSorted lt d1 hi i'=I) (hi - i) ⟨rfl,i,rfl,rfl,Nat.le_refl _,i2,hI⟩ ?_
  rintro r vs cs mm2 bx2 _ ⟨rfl,i',rfl,rfl,i4,i5,hI2⟩
  conv=>whnf
  refine bsel_intro (fun q2=>?_) (fun q2=>?_) <;> try simp only [bsL] at q2
  ·conv=>whnf
   (first | refine need_intro (⟨by omega,by omega⟩) ?_ | refine must.mk (⟨by omega,by omega⟩) ?_);conv=>whnf
   refine ⟨_,loadR aggE1 sizE1 S.len hb1 i' rfl (by omega),?_⟩;conv=>whnf
   (first | refine ov_c (by simp only [loK,hiK];omega) ?_ | refine ov_c (by decide) ?_);conv=>whnf
   (first | refine need_intro (⟨by omega,by omega⟩) ?_ | refine must.mk (⟨by omega,by omega⟩) ?_);conv=>whnf
   refine ⟨_,loadR aggE1 sizE1 S.len hb1 (i' - 1) (by omega) (by omega),?_⟩;conv=>whnf
   refine aRunK_yv rfl rfl rfl (S.cmp _ _ _ _ fun c ec=>?_)
   refine ⟨trivial,?_⟩;conv=>whnf
   refine bsel_intro (fun q3=>?_) (fun q3=>?_) <;> try simp only [bsL] at q3
   ·rw [decide_eq_false q3] at ec
    rw [scanSorted_go (by omega) ec.symm] at hI2
    conv=>whnf
    refine ov_eq (show (i':Int)+1=((i'+1:Nat):Int) by omega) (by omega) ?_
    conv=>whnf
    exact ⟨hi - (i'+1),by omega,rfl,i'+1,rfl,rfl,by omega,by omega,hI2⟩
   ·rw [decide_eq_true q3] at ec
    rw [scanSorted_stop (fun _=>ec.symm)] at hI2
    have hI3:=hI.trans hI2.symm
    conv=>whnf
    refine bsel_intro (fun q4=>?_) (fun q4=>?_) <;> try simp only [bsL] at q4
    ·rw [partialIns_done hI3 (by omega)] at e1
     rw [← e1] at hk
     conv=>whnf
     exact hk _ hb1 ho1
    ·conv=>whnf
     (first | refine ov_c (by simp only [loK,hiK];omega) ?_ | refine ov_c (by decide) ?_);conv=>whnf
     refine bsel_intro (fun q5=>?_) (fun q5=>?_) <;> try simp only [bsL] at q5
     ·rw [partialIns_short hI3 (by omega) (by omega)] at e1
      rw [← e1] at hk
      conv=>whnf
      exact hk _ hb1 ho1
     ·rw [partialIns_go hI3 (by omega) (by omega)] at e1
      conv=>whnf
      (first | refine ov_c (by simp only [loK,hiK];omega) ?_ | refine ov_c (by decide) ?_);conv=>whnf
      (first | refine ov_c (by simp only [loK,hiK];omega) ?_ | refine ov_c (by decide) ?_);conv=>whnf
      (first | refine need_intro (⟨by omega,by omega⟩) ?_ | refine must.mk (⟨by omega,by omega⟩) ?_);conv=>whnf
      refine ⟨_,loadR aggE1 sizE1 S.len hb1 (i' - 1) (by omega) (by omega),?_⟩;conv=>whnf
      (first | refine need_intro (⟨by omega,by omega⟩) ?_ | refine must.mk (⟨by omega,by omega⟩) ?_);conv=>whnf
      refine ⟨_,loadR aggE1 sizE1 S.len hb1 i' (rfl) (by omega),?_⟩;conv=>whnf
      (first | refine need_intro (⟨by omega,by omega⟩) ?_ | refine must.mk (⟨by omega,by omega⟩) ?_);conv=>whnf
      refine wr_intro (by exact storeR sizE1 S.len S.one hb1 i' (rfl) (by omega) d1[(i' - 1)]!) (fun h3 at_h3 ot_h3=>?_)
      try (conv=>whnf)
      refine ⟨trivial,?_⟩;conv=>whnf
      (first | refine need_intro (⟨by omega,by omega⟩) ?_ | refine must.mk (⟨by omega,by omega⟩) ?_);conv=>whnf
      refine wr_intro (by exact storeR sizE1 S.len S.one at_h3 (i' - 1) (by omega) (by rw [setIf_size];omega) d1[i']!) (fun h4 at_h4 ot_h4=>?_)
      try (conv=>whnf)
      refine ⟨trivial,?_⟩;conv=>whnf
      have hb4:h4 b=some (RowD 62 enc (swp d1 i' (i' - 1)) rest):=at_h4
      have ho4:∀ c,c≠b→h4 c=h c:=fun c hc=>by rw [ot_h4 c hc,ot_h3 c hc];exact ho1 c hc
      have s4:(swp d1 i' (i' - 1)).size=n:=by rw [swp_size];exact s1
      clear hI hI2 hI3 at_h4 at_h3 ot_h4 ot_h3
      generalize swp d1 i' (i' - 1)=d4 at *
      (first | refine ov_c (by simp only [loK,hiK];omega) ?_ | refine ov_c (by decide) ?_);conv=>whnf
      refine bsel_intro (fun q6=>?_) (fun q6=>?_) <;> try simp only [bsL] at q6
      ·rw [dnS,if_pos (by omega)] at e1
       obtain ⟨D,hD⟩:∃ D,shiftDown lt (i' - 1) d4=D:=⟨_,rfl⟩
       rw [hD] at e1
       conv=>whnf
       refine ov_eq (show (i':Int) - 1=((i' - 1:Nat):Int) by omega) (by omega) ?_
       conv=>whnf
       refine loop_at [11] [] (fun r vs _ h'=>∃ (j:Nat) (d':Array α),j=r∧vs=[.v (.int .i64 j)]∧j<i'∧d'.size=n∧shiftDown lt j d'=D∧h' b=some (RowD 62 enc d' rest)∧∀ c,c≠b→h' c=h c) (i' - 1) ⟨i' - 1,d4,rfl,rfl,by omega,s4,hD,hb4,ho4⟩ ?_
       clear hb4 ho4 s4 hD
       clear d4
       rintro r vs cs mm3 bx3 h4 ⟨j,d4,rfl,rfl,u1,s4,u2,hb4,ho4⟩
       conv=>whnf
       refine bsel_intro (fun qd=>?_) (fun qd=>?_) <;> try simp only [bsL] at qd
       ·obtain ⟨j0,rfl⟩:∃ j0,j=j0+1:=⟨j - 1,by omega⟩
        rw [shiftDown] at u2
        conv=>whnf
        (first | refine need_intro (⟨by omega,by omega⟩) ?_ | refine must.mk (⟨by omega,by omega⟩) ?_);conv=>whnf
        refine ⟨_,loadR aggE1 sizE1 S.len hb4 (j0+1) rfl (by omega),?_⟩;conv=>whnf
        (first | refine ov_c (by simp only [loK,hiK];omega) ?_ | refine ov_c (by decide) ?_);conv=>whnf
        (first | refine need_intro (⟨by omega,by omega⟩) ?_ | refine must.mk (⟨by omega,by omega⟩) ?_);conv=>whnf
        refine ⟨_,loadR aggE1 sizE1 S.len hb4 j0 (by omega) (by omega),?_⟩;conv=>whnf
        refine aRunK_yv rfl rfl rfl (S.cmp _ _ _ _ fun c6 ec6=>?_)
        refine ⟨trivial,?_⟩;conv=>whnf
        refine bsel_intro (fun qe=>?_) (fun qe=>?_) <;> try simp only [bsL] at qe
        ·rw [decide_eq_false qe] at ec6
         rw [if_pos (by rw [← ec6];rfl)] at u2
         have e4:=e1
         rw [← u2] at e4
         conv=>whnf
         (first | refine ov_c (by simp only [loK,hiK];omega) ?_ | refine ov_c (by decide) ?_);conv=>whnf
         refine bsel_intro (fun q7=>?_) (fun q7=>?_) <;> try simp only [bsL] at q7
         ·rw [upS,if_pos (by omega)] at e4
          obtain ⟨D,hD⟩:∃ D,shiftUp lt hi (i'+1) d4=D:=⟨_,rfl⟩
          rw [hD] at e4
          conv=>whnf
          refine ov_eq (show (i':Int)+1=((i'+1:Nat):Int) by omega) (by omega) ?_
          conv=>whnf
          refine loop_at [12] [] (fun r vs _ h'=>∃ (j:Nat) (d':Array α),hi - j=r∧vs=[.v (.int .i64 j)]∧i'+1≤j∧d'.size=n∧shiftUp lt hi j d'=D∧h' b=some (RowD 62 enc d' rest)∧∀ c,c≠b→h' c=h c) (hi - (i'+1)) ⟨i'+1,d4,rfl,rfl,Nat.le_refl _,s4,hD,hb4,ho4⟩ ?_
          rintro r vs cs mm4 bx4 h5 ⟨j,d5,rfl,rfl,u1,s5,u2,hb5,ho5⟩
          rw [shiftUp] at u2
          conv=>whnf
          refine bsel_intro (fun q8=>?_) (fun q8=>?_) <;> try simp only [bsL] at q8
          ·rw [if_pos (by omega)] at u2
           conv=>whnf
           (first | refine need_intro (⟨by omega,by omega⟩) ?_ | refine must.mk (⟨by omega,by omega⟩) ?_);conv=>whnf
           refine ⟨_,loadR aggE1 sizE1 S.len hb5 j rfl (by omega),?_⟩;conv=>whnf
           (first | refine ov_c (by simp only [loK,hiK];omega) ?_ | refine ov_c (by decide) ?_);conv=>whnf
           (first | refine need_intro (⟨by omega,by omega⟩) ?_ | refine must.mk (⟨by omega,by omega⟩) ?_);conv=>whnf
           refine ⟨_,loadR aggE1 sizE1 S.len hb5 (j - 1) (by omega) (by omega),?_⟩;conv=>whnf
           refine aRunK_yv rfl rfl rfl (S.cmp _ _ _ _ fun c8 ec8=>?_)
           refine ⟨trivial,?_⟩;conv=>whnf
           refine bsel_intro (fun q9=>?_) (fun q9=>?_) <;> try simp only [bsL] at q9
           ·rw [decide_eq_false q9] at ec8
            rw [if_pos (by rw [← ec8];rfl)] at u2
            have e5:=e4
            rw [← u2] at e5
            conv=>whnf
            (first | refine ov_c (by simp only [loK,hiK];omega) ?_ | refine ov_c (by decide) ?_);conv=>whnf
            exact ⟨s',by omega,i',s',z+1,_,rfl,⟨by omega,by omega⟩,rfl,by omega,by omega,s5,e5,hb5,ho5⟩
           ·rw [decide_eq_true q9] at ec8
            rw [if_neg (by rw [← ec8];simp)] at u2
            conv=>whnf
            (first | refine ov_c (by simp only [loK,hiK];omega) ?_ | refine ov_c (by decide) ?_);conv=>whnf
            (first | refine ov_c (by simp only [loK,hiK];omega) ?_ | refine ov_c (by decide) ?_);conv=>whnf
            (first | refine need_intro (⟨by omega,by omega⟩) ?_ | refine must.mk (⟨by omega,by omega⟩) ?_);conv=>whnf
            refine ⟨_,loadR aggE1 sizE1 S.len hb5 (j - 1) (by omega) (by omega),?_⟩;conv=>whnf
            (first | refine need_intro (⟨by omega,by omega⟩) ?_ | refine must.mk (⟨by omega,by omega⟩) ?_);conv=>whnf
            refine ⟨_,loadR aggE1 sizE1 S.len hb5 j (rfl) (by omega),?_⟩;conv=>whnf
            (first | refine need_intro (⟨by omega,by omega⟩) ?_ | refine must.mk (⟨by omega,by omega⟩) ?_);conv=>whnf
            refine wr_intro (by exact storeR sizE1 S.len S.one hb5 j (rfl) (by omega) d5[(j - 1)]!) (fun h6 at_h6 ot_h6=>?_)
            try (conv=>whnf)
            refine ⟨trivial,?_⟩;conv=>whnf
            (first | refine need_intro (⟨by omega,by omega⟩) ?_ | refine must.mk (⟨by omega,by omega⟩) ?_);conv=>whnf
            refine wr_intro (by exact storeR sizE1 S.len S.one at_h6 (j - 1) (by omega) (by rw [setIf_size];omega) d5[j]!) (fun h7 at_h7 ot_h7=>?_)
            try (conv=>whnf)
            refine ⟨trivial,?_⟩;conv=>whnf
            (first | refine ov_c (by simp only [loK,hiK];omega) ?_ | refine ov_c (by decide) ?_);conv=>whnf
            exact ⟨hi - (j+1),by omega,j+1,swp d5 j (j - 1),rfl,rfl,by omega,by rw [swp_size];exact s5,u2,at_h7,fun c hc=>by rw [ot_h7 c hc,ot_h6 c hc];exact ho5 c hc⟩
          ·rw [if_neg (by omega)] at u2
           have e5:=e4
           rw [← u2] at e5
           conv=>whnf
           (first | refine ov_c (by simp only [loK,hiK];omega) ?_ | refine ov_c (by decide) ?_);conv=>whnf
           exact ⟨s',by omega,i',s',z+1,_,rfl,⟨by omega,by omega⟩,rfl,by omega,by omega,s5,e5,hb5,ho5⟩
         ·rw [upS,if_neg (by omega)] at e4
          have e5:=e4
          have s5:=s4
          have hb5:=hb4
          have ho5:=ho4
          conv=>whnf
          (first | refine ov_c (by simp only [loK,hiK];omega) ?_ | refine ov_c (by decide) ?_);conv=>whnf
          exact ⟨s',by omega,i',s',z+1,_,rfl,⟨by omega,by omega⟩,rfl,by omega,by omega,s5,e5,hb5,ho5⟩
        ·rw [decide_eq_true qe] at ec6
         rw [if_neg (by rw [← ec6];simp)] at u2
         conv=>whnf
         (first | refine ov_c (by simp only [loK,hiK];omega) ?_ | refine ov_c (by decide) ?_);conv=>whnf
         (first | refine ov_c (by simp only [loK,hiK];omega) ?_ | refine ov_c (by decide) ?_);conv=>whnf
         (first | refine need_intro (⟨by omega,by omega⟩) ?_ | refine must.mk (⟨by omega,by omega⟩) ?_);conv=>whnf
         refine ⟨_,loadR aggE1 sizE1 S.len hb4 j0 (by omega) (by omega),?_⟩;conv=>whnf
         (first | refine need_intro (⟨by omega,by omega⟩) ?_ | refine must.mk (⟨by omega,by omega⟩) ?_);conv=>whnf
         refine ⟨_,loadR aggE1 sizE1 S.len hb4 (j0+1) (rfl) (by omega),?_⟩;conv=>whnf
         (first | refine need_intro (⟨by omega,by omega⟩) ?_ | refine must.mk (⟨by omega,by omega⟩) ?_);conv=>whnf
         refine wr_intro (by exact storeR sizE1 S.len S.one hb4 (j0+1) (rfl) (by omega) d4[j0]!) (fun h5 at_h5 ot_h5=>?_)
         try (conv=>whnf)
         refine ⟨trivial,?_⟩;conv=>whnf
         (first | refine need_intro (⟨by omega,by omega⟩) ?_ | refine must.mk (⟨by omega,by omega⟩) ?_);conv=>whnf
         refine wr_intro (by exact storeR sizE1 S.len S.one at_h5 j0 (by omega) (by rw [setIf_size];omega) d4[(j0+1)]!) (fun h6 at_h6 ot_h6=>?_)
         try (conv=>whnf)
         refine ⟨trivial,?_⟩;conv=>whnf
         refine ov_eq (show ((j0+1:Nat):Int) - 1=(j0:Int) by omega) (by omega) ?_
         conv=>whnf
         exact ⟨j0,by omega,j0,swp d4 (j0+1) j0,rfl,rfl,by omega,by rw [swp_size];exact s4,u2,at_h6,fun c hc=>by rw [ot_h6 c hc,ot_h5 c hc];exact ho4 c hc⟩
       ·obtain rfl:j=0:=by omega
        rw [show shiftDown lt 0 d4=d4 from rfl] at u2
        have e4:=e1
        rw [← u2] at e4
        conv=>whnf
        (first | refine ov_c (by simp only [loK,hiK];omega) ?_ | refine ov_c (by decide) ?_);conv=>whnf
        refine bsel_intro (fun q7=>?_) (fun q7=>?_) <;> try simp only [bsL] at q7
        ·rw [upS,if_pos (by omega)] at e4
         obtain ⟨D,hD⟩:∃ D,shiftUp lt hi (i'+1) d4=D:=⟨_,rfl⟩
         rw [hD] at e4
         conv=>whnf
         refine ov_eq (show (i':Int)+1=((i'+1:Nat):Int) by omega) (by omega) ?_
         conv=>whnf
         refine loop_at [12] [] (fun r vs _ h'=>∃ (j:Nat) (d':Array α),hi - j=r∧vs=[.v (.int .i64 j)]∧i'+1≤j∧d'.size=n∧shiftUp lt hi j d'=D∧h' b=some (RowD 62 enc d' rest)∧∀ c,c≠b→h' c=h c) (hi - (i'+1)) ⟨i'+1,d4,rfl,rfl,Nat.le_refl _,s4,hD,hb4,ho4⟩ ?_
         rintro r vs cs mm4 bx4 h5 ⟨j,d5,rfl,rfl,u1,s5,u2,hb5,ho5⟩
         rw [shiftUp] at u2
         conv=>whnf
         refine bsel_intro (fun q8=>?_) (fun q8=>?_) <;> try simp only [bsL] at q8
         ·rw [if_pos (by omega)] at u2
          conv=>whnf
          (first | refine need_intro (⟨by omega,by omega⟩) ?_ | refine must.mk (⟨by omega,by omega⟩) ?_);conv=>whnf
          refine ⟨_,loadR aggE1 sizE1 S.len hb5 j rfl (by omega),?_⟩;conv=>whnf
          (first | refine ov_c (by simp only [loK,hiK];omega) ?_ | refine ov_c (by decide) ?_);conv=>whnf
          (first | refine need_intro (⟨by omega,by omega⟩) ?_ | refine must.mk (⟨by omega,by omega⟩) ?_);conv=>whnf
          refine ⟨_,loadR aggE1 sizE1 S.len hb5 (j - 1) (by omega) (by omega),?_⟩;conv=>whnf
          refine aRunK_yv rfl rfl rfl (S.cmp _ _ _ _ fun c8 ec8=>?_)
          refine ⟨trivial,?_⟩;conv=>whnf
          refine bsel_intro (fun q9=>?_) (fun q9=>?_) <;> try simp only [bsL] at q9
          ·rw [decide_eq_false q9] at ec8
           rw [if_pos (by rw [← ec8];rfl)] at u2
           have e5:=e4
           rw [← u2] at e5
           conv=>whnf
           (first | refine ov_c (by simp only [loK,hiK];omega) ?_ | refine ov_c (by decide) ?_);conv=>whnf
           exact ⟨s',by omega,i',s',z+1,_,rfl,⟨by omega,by omega⟩,rfl,by omega,by omega,s5,e5,hb5,ho5⟩
          ·rw [decide_eq_true q9] at ec8
           rw [if_neg (by rw [← ec8];simp)] at u2
           conv=>whnf
           (first | refine ov_c (by simp only [loK,hiK];omega) ?_ | refine ov_c (by decide) ?_);conv=>whnf
           (first | refine ov_c (by simp only [loK,hiK];omega) ?_ | refine ov_c (by decide) ?_);conv=>whnf
           (first | refine need_intro (⟨by omega,by omega⟩) ?_ | refine must.mk (⟨by omega,by omega⟩) ?_);conv=>whnf
           refine ⟨_,loadR aggE1 sizE1 S.len hb5 (j - 1) (by omega) (by omega),?_⟩;conv=>whnf
           (first | refine need_intro (⟨by omega,by omega⟩) ?_ | refine must.mk (⟨by omega,by omega⟩) ?_);conv=>whnf
           refine ⟨_,loadR aggE1 sizE1 S.len hb5 j (rfl) (by omega),?_⟩;conv=>whnf
           (first | refine need_intro (⟨by omega,by omega⟩) ?_ | refine must.mk (⟨by omega,by omega⟩) ?_);conv=>whnf
           refine wr_intro (by exact storeR sizE1 S.len S.one hb5 j (rfl) (by omega) d5[(j - 1)]!) (fun h6 at_h6 ot_h6=>?_)
           try (conv=>whnf)
           refine ⟨trivial,?_⟩;conv=>whnf
           (first | refine need_intro (⟨by omega,by omega⟩) ?_ | refine must.mk (⟨by omega,by omega⟩) ?_);conv=>whnf
           refine wr_intro (by exact storeR sizE1 S.len S.one at_h6 (j - 1) (by omega) (by rw [setIf_size];omega) d5[j]!) (fun h7 at_h7 ot_h7=>?_)
           try (conv=>whnf)
           refine ⟨trivial,?_⟩;conv=>whnf
           (first | refine ov_c (by simp only [loK,hiK];omega) ?_ | refine ov_c (by decide) ?_);conv=>whnf
           exact ⟨hi - (j+1),by omega,j+1,swp d5 j (j - 1),rfl,rfl,by omega,by rw [swp_size];exact s5,u2,at_h7,fun c hc=>by rw [ot_h7 c hc,ot_h6 c hc];exact ho5 c hc⟩
         ·rw [if_neg (by omega)] at u2
          have e5:=e4
          rw [← u2] at e5
          conv=>whnf
          (first | refine ov_c (by simp only [loK,hiK];omega) ?_ | refine ov_c (by decide) ?_);conv=>whnf
          exact ⟨s',by omega,i',s',z+1,_,rfl,⟨by omega,by omega⟩,rfl,by omega,by omega,s5,e5,hb5,ho5⟩
        ·rw [upS,if_neg (by omega)] at e4
         have e5:=e4
         have s5:=s4
         have hb5:=hb4
         have ho5:=ho4
         conv=>whnf
         (first | refine ov_c (by simp only [loK,hiK];omega) ?_ | refine ov_c (by decide) ?_);conv=>whnf
         exact ⟨s',by omega,i',s',z+1,_,rfl,⟨by omega,by omega⟩,rfl,by omega,by omega,s5,e5,hb5,ho5⟩
      ·rw [dnS,if_neg (by omega)] at e1
       have e4:=e1
       conv=>whnf
       (first | refine ov_c (by simp only [loK,hiK];omega) ?_ | refine ov_c (by decide) ?_);conv=>whnf
       refine bsel_intro (fun q7=>?_) (fun q7=>?_) <;> try simp only [bsL] at q7
       ·rw [upS,if_pos (by omega)] at e4
        obtain ⟨D,hD⟩:∃ D,shiftUp lt hi (i'+1) d4=D:=⟨_,rfl⟩
        rw [hD] at e4
        conv=>whnf
        refine ov_eq (show (i':Int)+1=((i'+1:Nat):Int) by omega) (by omega) ?_
        conv=>whnf
        refine loop_at [12] [] (fun r vs _ h'=>∃ (j:Nat) (d':Array α),hi - j=r∧vs=[.v (.int .i64 j)]∧i'+1≤j∧d'.size=n∧shiftUp lt hi j d'=D∧h' b=some (RowD 62 enc d' rest)∧∀ c,c≠b→h' c=h c) (hi - (i'+1)) ⟨i'+1,d4,rfl,rfl,Nat.le_refl _,s4,hD,hb4,ho4⟩ ?_
        rintro r vs cs mm4 bx4 h5 ⟨j,d5,rfl,rfl,u1,s5,u2,hb5,ho5⟩
        rw [shiftUp] at u2
        conv=>whnf
        refine bsel_intro (fun q8=>?_) (fun q8=>?_) <;> try simp only [bsL] at q8
        ·rw [if_pos (by omega)] at u2
         conv=>whnf
         (first | refine need_intro (⟨by omega,by omega⟩) ?_ | refine must.mk (⟨by omega,by omega⟩) ?_);conv=>whnf
         refine ⟨_,loadR aggE1 sizE1 S.len hb5 j rfl (by omega),?_⟩;conv=>whnf
         (first | refine ov_c (by simp only [loK,hiK];omega) ?_ | refine ov_c (by decide) ?_);conv=>whnf
         (first | refine need_intro (⟨by omega,by omega⟩) ?_ | refine must.mk (⟨by omega,by omega⟩) ?_);conv=>whnf
         refine ⟨_,loadR aggE1 sizE1 S.len hb5 (j - 1) (by omega) (by omega),?_⟩;conv=>whnf
         refine aRunK_yv rfl rfl rfl (S.cmp _ _ _ _ fun c8 ec8=>?_)
         refine ⟨trivial,?_⟩;conv=>whnf
         refine bsel_intro (fun q9=>?_) (fun q9=>?_) <;> try simp only [bsL] at q9
         ·rw [decide_eq_false q9] at ec8
          rw [if_pos (by rw [← ec8];rfl)] at u2
          have e5:=e4
          rw [← u2] at e5
          conv=>whnf
          (first | refine ov_c (by simp only [loK,hiK];omega) ?_ | refine ov_c (by decide) ?_);conv=>whnf
          exact ⟨s',by omega,i',s',z+1,_,rfl,⟨by omega,by omega⟩,rfl,by omega,by omega,s5,e5,hb5,ho5⟩
         ·rw [decide_eq_true q9] at ec8
          rw [if_neg (by rw [← ec8];simp)] at u2
          conv=>whnf
          (first | refine ov_c (by simp only [loK,hiK];omega) ?_ | refine ov_c (by decide) ?_);conv=>whnf
          (first | refine ov_c (by simp only [loK,hiK];omega) ?_ | refine ov_c (by decide) ?_);conv=>whnf
          (first | refine need_intro (⟨by omega,by omega⟩) ?_ | refine must.mk (⟨by omega,by omega⟩) ?_);conv=>whnf
          refine ⟨_,loadR aggE1 sizE1 S.len hb5 (j - 1) (by omega) (by omega),?_⟩;conv=>whnf
          (first | refine need_intro (⟨by omega,by omega⟩) ?_ | refine must.mk (⟨by omega,by omega⟩) ?_);conv=>whnf
          refine ⟨_,loadR aggE1 sizE1 S.len hb5 j (rfl) (by omega),?_⟩;conv=>whnf
          (first | refine need_intro (⟨by omega,by omega⟩) ?_ | refine must.mk (⟨by omega,by omega⟩) ?_);conv=>whnf
          refine wr_intro (by exact storeR sizE1 S.len S.one hb5 j (rfl) (by omega) d5[(j - 1)]!) (fun h6 at_h6 ot_h6=>?_)
          try (conv=>whnf)
          refine ⟨trivial,?_⟩;conv=>whnf
          (first | refine need_intro (⟨by omega,by omega⟩) ?_ | refine must.mk (⟨by omega,by omega⟩) ?_);conv=>whnf
          refine wr_intro (by exact storeR sizE1 S.len S.one at_h6 (j - 1) (by omega) (by rw [setIf_size];omega) d5[j]!) (fun h7 at_h7 ot_h7=>?_)
          try (conv=>whnf)
          refine ⟨trivial,?_⟩;conv=>whnf
          (first | refine ov_c (by simp only [loK,hiK];omega) ?_ | refine ov_c (by decide) ?_);conv=>whnf
          exact ⟨hi - (j+1),by omega,j+1,swp d5 j (j - 1),rfl,rfl,by omega,by rw [swp_size];exact s5,u2,at_h7,fun c hc=>by rw [ot_h7 c hc,ot_h6 c hc];exact ho5 c hc⟩
        ·rw [if_neg (by omega)] at u2
         have e5:=e4
         rw [← u2] at e5
         conv=>whnf
         (first | refine ov_c (by simp only [loK,hiK];omega) ?_ | refine ov_c (by decide) ?_);conv=>whnf
         exact ⟨s',by omega,i',s',z+1,_,rfl,⟨by omega,by omega⟩,rfl,by omega,by omega,s5,e5,hb5,ho5⟩
       ·rw [upS,if_neg (by omega)] at e4
        have e5:=e4
        have s5:=s4
        have hb5:=hb4
        have ho5:=ho4
        conv=>whnf
        (first | refine ov_c (by simp only [loK,hiK];omega) ?_ | refine ov_c (by decide) ?_);conv=>whnf
        exact ⟨s',by omega,i',s',z+1,_,rfl,⟨by omega,by omega⟩,rfl,by omega,by omega,s5,e5,hb5,ho5⟩
  ·rw [scanSorted_stop (fun hh=>by omega)] at hI2
   have hI3:=hI.trans hI2.symm
   conv=>whnf
   refine bsel_intro (fun q4=>?_) (fun q4=>?_) <;> try simp only [bsL] at q4
   ·rw [partialIns_done hI3 (by omega)] at e1
    rw [← e1] at hk
    conv=>whnf
    exact hk _ hb1 ho1
   ·conv=>whnf
    (first | refine ov_c (by simp only [loK,hiK];omega) ?_ | refine ov_c (by decide) ?_);conv=>whnf
    refine bsel_intro (fun q5=>?_) (fun q5=>?_) <;> try simp only [bsL] at q5
    ·rw [partialIns_short hI3 (by omega) (by omega)] at e1
     rw [← e1] at hk
     conv=>whnf
     exact hk _ hb1 ho1
    ·rw [partialIns_go hI3 (by omega) (by omega)] at e1
     conv=>whnf
     (first | refine ov_c (by simp only [loK,hiK];omega) ?_ | refine ov_c (by decide) ?_);conv=>whnf
     (first | refine ov_c (by simp only [loK,hiK];omega) ?_ | refine ov_c (by decide) ?_);conv=>whnf
     (first | refine need_intro (⟨by omega,by omega⟩) ?_ | refine must.mk (⟨by omega,by omega⟩) ?_);conv=>whnf
     refine ⟨_,loadR aggE1 sizE1 S.len hb1 (i' - 1) (by omega) (by omega),?_⟩;conv=>whnf
     (first | refine need_intro (⟨by omega,by omega⟩) ?_ | refine must.mk (⟨by omega,by omega⟩) ?_);conv=>whnf
     refine ⟨_,loadR aggE1 sizE1 S.len hb1 i' (rfl) (by omega),?_⟩;conv=>whnf
     (first | refine need_intro (⟨by omega,by omega⟩) ?_ | refine must.mk (⟨by omega,by omega⟩) ?_);conv=>whnf
     refine wr_intro (by exact storeR sizE1 S.len S.one hb1 i' (rfl) (by omega) d1[(i' - 1)]!) (fun h3 at_h3 ot_h3=>?_)
     try (conv=>whnf)
     refine ⟨trivial,?_⟩;conv=>whnf
     (first | refine need_intro (⟨by omega,by omega⟩) ?_ | refine must.mk (⟨by omega,by omega⟩) ?_);conv=>whnf
     refine wr_intro (by exact storeR sizE1 S.len S.one at_h3 (i' - 1) (by omega) (by rw [setIf_size];omega) d1[i']!) (fun h4 at_h4 ot_h4=>?_)
     try (conv=>whnf)
     refine ⟨trivial,?_⟩;conv=>whnf
     have hb4:h4 b=some (RowD 62 enc (swp d1 i' (i' - 1)) rest):=at_h4
     have ho4:∀ c,c≠b→h4 c=h c:=fun c hc=>by rw [ot_h4 c hc,ot_h3 c hc];exact ho1 c hc
     have s4:(swp d1 i' (i' - 1)).size=n:=by rw [swp_size];exact s1
     clear hI hI2 hI3 at_h4 at_h3 ot_h4 ot_h3
     generalize swp d1 i' (i' - 1)=d4 at *
     (first | refine ov_c (by simp only [loK,hiK];omega) ?_ | refine ov_c (by decide) ?_);conv=>whnf
     refine bsel_intro (fun q6=>?_) (fun q6=>?_) <;> try simp only [bsL] at q6
     ·rw [dnS,if_pos (by omega)] at e1
      obtain ⟨D,hD⟩:∃ D,shiftDown lt (i' - 1) d4=D:=⟨_,rfl⟩
      rw [hD] at e1
      conv=>whnf
      refine ov_eq (show (i':Int) - 1=((i' - 1:Nat):Int) by omega) (by omega) ?_
      conv=>whnf
      refine loop_at [11] [] (fun r vs _ h'=>∃ (j:Nat) (d':Array α),j=r∧vs=[.v (.int .i64 j)]∧j<i'∧d'.size=n∧shiftDown lt j d'=D∧h' b=some (RowD 62 enc d' rest)∧∀ c,c≠b→h' c=h c) (i' - 1) ⟨i' - 1,d4,rfl,rfl,by omega,s4,hD,hb4,ho4⟩ ?_
      clear hb4 ho4 s4 hD
      clear d4
      rintro r vs cs mm3 bx3 h4 ⟨j,d4,rfl,rfl,u1,s4,u2,hb4,ho4⟩
      conv=>whnf
      refine bsel_intro (fun qd=>?_) (fun qd=>?_) <;> try simp only [bsL] at qd
      ·obtain ⟨j0,rfl⟩:∃ j0,j=j0+1:=⟨j - 1,by omega⟩
       rw [shiftDown] at u2
       conv=>whnf
       (first | refine need_intro (⟨by omega,by omega⟩) ?_ | refine must.mk (⟨by omega,by omega⟩) ?_);conv=>whnf
       refine ⟨_,loadR aggE1 sizE1 S.len hb4 (j0+1) rfl (by omega),?_⟩;conv=>whnf
       (first | refine ov_c (by simp only [loK,hiK];omega) ?_ | refine ov_c (by decide) ?_);conv=>whnf
       (first | refine need_intro (⟨by omega,by omega⟩) ?_ | refine must.mk (⟨by omega,by omega⟩) ?_);conv=>whnf
       refine ⟨_,loadR aggE1 sizE1 S.len hb4 j0 (by omega) (by omega),?_⟩;conv=>whnf
       refine aRunK_yv rfl rfl rfl (S.cmp _ _ _ _ fun c6 ec6=>?_)
       refine ⟨trivial,?_⟩;conv=>whnf
       refine bsel_intro (fun qe=>?_) (fun qe=>?_) <;> try simp only [bsL] at qe
       ·rw [decide_eq_false qe] at ec6
        rw [if_pos (by rw [← ec6];rfl)] at u2
        have e4:=e1
        rw [← u2] at e4
        conv=>whnf
        (first | refine ov_c (by simp only [loK,hiK];omega) ?_ | refine ov_c (by decide) ?_);conv=>whnf
        refine bsel_intro (fun q7=>?_) (fun q7=>?_) <;> try simp only [bsL] at q7
        ·rw [upS,if_pos (by omega)] at e4
         obtain ⟨D,hD⟩:∃ D,shiftUp lt hi (i'+1) d4=D:=⟨_,rfl⟩
         rw [hD] at e4
         conv=>whnf
         refine ov_eq (show (i':Int)+1=((i'+1:Nat):Int) by omega) (by omega) ?_
         conv=>whnf
         refine loop_at [12] [] (fun r vs _ h'=>∃ (j:Nat) (d':Array α),hi - j=r∧vs=[.v (.int .i64 j)]∧i'+1≤j∧d'.size=n∧shiftUp lt hi j d'=D∧h' b=some (RowD 62 enc d' rest)∧∀ c,c≠b→h' c=h c) (hi - (i'+1)) ⟨i'+1,d4,rfl,rfl,Nat.le_refl _,s4,hD,hb4,ho4⟩ ?_
         rintro r vs cs mm4 bx4 h5 ⟨j,d5,rfl,rfl,u1,s5,u2,hb5,ho5⟩
         rw [shiftUp] at u2
         conv=>whnf
         refine bsel_intro (fun q8=>?_) (fun q8=>?_) <;> try simp only [bsL] at q8
         ·rw [if_pos (by omega)] at u2
          conv=>whnf
          (first | refine need_intro (⟨by omega,by omega⟩) ?_ | refine must.mk (⟨by omega,by omega⟩) ?_);conv=>whnf
          refine ⟨_,loadR aggE1 sizE1 S.len hb5 j rfl (by omega),?_⟩;conv=>whnf
          (first | refine ov_c (by simp only [loK,hiK];omega) ?_ | refine ov_c (by decide) ?_);conv=>whnf
          (first | refine need_intro (⟨by omega,by omega⟩) ?_ | refine must.mk (⟨by omega,by omega⟩) ?_);conv=>whnf
          refine ⟨_,loadR aggE1 sizE1 S.len hb5 (j - 1) (by omega) (by omega),?_⟩;conv=>whnf
          refine aRunK_yv rfl rfl rfl (S.cmp _ _ _ _ fun c8 ec8=>?_)
          refine ⟨trivial,?_⟩;conv=>whnf
          refine bsel_intro (fun q9=>?_) (fun q9=>?_) <;> try simp only [bsL] at q9
          ·rw [decide_eq_false q9] at ec8
           rw [if_pos (by rw [← ec8];rfl)] at u2
           have e5:=e4
           rw [← u2] at e5
           conv=>whnf
           (first | refine ov_c (by simp only [loK,hiK];omega) ?_ | refine ov_c (by decide) ?_);conv=>whnf
           exact ⟨s',by omega,i',s',z+1,_,rfl,⟨by omega,by omega⟩,rfl,by omega,by omega,s5,e5,hb5,ho5⟩
          ·rw [decide_eq_true q9] at ec8
           rw [if_neg (by rw [← ec8];simp)] at u2
           conv=>whnf
           (first | refine ov_c (by simp only [loK,hiK];omega) ?_ | refine ov_c (by decide) ?_);conv=>whnf
           (first | refine ov_c (by simp only [loK,hiK];omega) ?_ | refine ov_c (by decide) ?_);conv=>whnf
           (first | refine need_intro (⟨by omega,by omega⟩) ?_ | refine must.mk (⟨by omega,by omega⟩) ?_);conv=>whnf
           refine ⟨_,loadR aggE1 sizE1 S.len hb5 (j - 1) (by omega) (by omega),?_⟩;conv=>whnf
           (first | refine need_intro (⟨by omega,by omega⟩) ?_ | refine must.mk (⟨by omega,by omega⟩) ?_);conv=>whnf
           refine ⟨_,loadR aggE1 sizE1 S.len hb5 j (rfl) (by omega),?_⟩;conv=>whnf
           (first | refine need_intro (⟨by omega,by omega⟩) ?_ | refine must.mk (⟨by omega,by omega⟩) ?_);conv=>whnf
           refine wr_intro (by exact storeR sizE1 S.len S.one hb5 j (rfl) (by omega) d5[(j - 1)]!) (fun h6 at_h6 ot_h6=>?_)
           try (conv=>whnf)
           refine ⟨trivial,?_⟩;conv=>whnf
           (first | refine need_intro (⟨by omega,by omega⟩) ?_ | refine must.mk (⟨by omega,by omega⟩) ?_);conv=>whnf
           refine wr_intro (by exact storeR sizE1 S.len S.one at_h6 (j - 1) (by omega) (by rw [setIf_size];omega) d5[j]!) (fun h7 at_h7 ot_h7=>?_)
           try (conv=>whnf)
           refine ⟨trivial,?_⟩;conv=>whnf
           (first | refine ov_c (by simp only [loK,hiK];omega) ?_ | refine ov_c (by decide) ?_);conv=>whnf
           exact ⟨hi - (j+1),by omega,j+1,swp d5 j (j - 1),rfl,rfl,by omega,by rw [swp_size];exact s5,u2,at_h7,fun c hc=>by rw [ot_h7 c hc,ot_h6 c hc];exact ho5 c hc⟩
         ·rw [if_neg (by omega)] at u2
          have e5:=e4
          rw [← u2] at e5
          conv=>whnf
          (first | refine ov_c (by simp only [loK,hiK];omega) ?_ | refine ov_c (by decide) ?_);conv=>whnf
          exact ⟨s',by omega,i',s',z+1,_,rfl,⟨by omega,by omega⟩,rfl,by omega,by omega,s5,e5,hb5,ho5⟩
        ·rw [upS,if_neg (by omega)] at e4
         have e5:=e4
         have s5:=s4
         have hb5:=hb4
         have ho5:=ho4
         conv=>whnf
         (first | refine ov_c (by simp only [loK,hiK];omega) ?_ | refine ov_c (by decide) ?_);conv=>whnf
         exact ⟨s',by omega,i',s',z+1,_,rfl,⟨by omega,by omega⟩,rfl,by omega,by omega,s5,e5,hb5,ho5⟩
       ·rw [decide_eq_true qe] at ec6
        rw [if_neg (by rw [← ec6];simp)] at u2
        conv=>whnf
        (first | refine ov_c (by simp only [loK,hiK];omega) ?_ | refine ov_c (by decide) ?_);conv=>whnf
        (first | refine ov_c (by simp only [loK,hiK];omega) ?_ | refine ov_c (by decide) ?_);conv=>whnf
        (first | refine need_intro (⟨by omega,by omega⟩) ?_ | refine must.mk (⟨by omega,by omega⟩) ?_);conv=>whnf
        refine ⟨_,loadR aggE1 sizE1 S.len hb4 j0 (by omega) (by omega),?_⟩;conv=>whnf
        (first | refine need_intro (⟨by omega,by omega⟩) ?_ | refine must.mk (⟨by omega,by omega⟩) ?_);conv=>whnf
        refine ⟨_,loadR aggE1 sizE1 S.len hb4 (j0+1) (rfl) (by omega),?_⟩;conv=>whnf
        (first | refine need_intro (⟨by omega,by omega⟩) ?_ | refine must.mk (⟨by omega,by omega⟩) ?_);conv=>whnf
        refine wr_intro (by exact storeR sizE1 S.len S.one hb4 (j0+1) (rfl) (by omega) d4[j0]!) (fun h5 at_h5 ot_h5=>?_)
        try (conv=>whnf)
        refine ⟨trivial,?_⟩;conv=>whnf
        (first | refine need_intro (⟨by omega,by omega⟩) ?_ | refine must.mk (⟨by omega,by omega⟩) ?_);conv=>whnf
        refine wr_intro (by exact storeR sizE1 S.len S.one at_h5 j0 (by omega) (by rw [setIf_size];omega) d4[(j0+1)]!) (fun h6 at_h6 ot_h6=>?_)
        try (conv=>whnf)
        refine ⟨trivial,?_⟩;conv=>whnf
        refine ov_eq (show ((j0+1:Nat):Int) - 1=(j0:Int) by omega) (by omega) ?_
        conv=>whnf
        exact ⟨j0,by omega,j0,swp d4 (j0+1) j0,rfl,rfl,by omega,by rw [swp_size];exact s4,u2,at_h6,fun c hc=>by rw [ot_h6 c hc,ot_h5 c hc];exact ho4 c hc⟩
      ·obtain rfl:j=0:=by omega
       rw [show shiftDown lt 0 d4=d4 from rfl] at u2
       have e4:=e1
       rw [← u2] at e4
       conv=>whnf
       (first | refine ov_c (by simp only [loK,hiK];omega) ?_ | refine ov_c (by decide) ?_);conv=>whnf
       refine bsel_intro (fun q7=>?_) (fun q7=>?_) <;> try simp only [bsL] at q7
       ·rw [upS,if_pos (by omega)] at e4
        obtain ⟨D,hD⟩:∃ D,shiftUp lt hi (i'+1) d4=D:=⟨_,rfl⟩
        rw [hD] at e4
        conv=>whnf
        refine ov_eq (show (i':Int)+1=((i'+1:Nat):Int) by omega) (by omega) ?_
        conv=>whnf
        refine loop_at [12] [] (fun r vs _ h'=>∃ (j:Nat) (d':Array α),hi - j=r∧vs=[.v (.int .i64 j)]∧i'+1≤j∧d'.size=n∧shiftUp lt hi j d'=D∧h' b=some (RowD 62 enc d' rest)∧∀ c,c≠b→h' c=h c) (hi - (i'+1)) ⟨i'+1,d4,rfl,rfl,Nat.le_refl _,s4,hD,hb4,ho4⟩ ?_
        rintro r vs cs mm4 bx4 h5 ⟨j,d5,rfl,rfl,u1,s5,u2,hb5,ho5⟩
        rw [shiftUp] at u2
        conv=>whnf
        refine bsel_intro (fun q8=>?_) (fun q8=>?_) <;> try simp only [bsL] at q8
        ·rw [if_pos (by omega)] at u2
         conv=>whnf
         (first | refine need_intro (⟨by omega,by omega⟩) ?_ | refine must.mk (⟨by omega,by omega⟩) ?_);conv=>whnf
         refine ⟨_,loadR aggE1 sizE1 S.len hb5 j rfl (by omega),?_⟩;conv=>whnf
         (first | refine ov_c (by simp only [loK,hiK];omega) ?_ | refine ov_c (by decide) ?_);conv=>whnf
         (first | refine need_intro (⟨by omega,by omega⟩) ?_ | refine must.mk (⟨by omega,by omega⟩) ?_);conv=>whnf
         refine ⟨_,loadR aggE1 sizE1 S.len hb5 (j - 1) (by omega) (by omega),?_⟩;conv=>whnf
         refine aRunK_yv rfl rfl rfl (S.cmp _ _ _ _ fun c8 ec8=>?_)
         refine ⟨trivial,?_⟩;conv=>whnf
         refine bsel_intro (fun q9=>?_) (fun q9=>?_) <;> try simp only [bsL] at q9
         ·rw [decide_eq_false q9] at ec8
          rw [if_pos (by rw [← ec8];rfl)] at u2
          have e5:=e4
          rw [← u2] at e5
          conv=>whnf
          (first | refine ov_c (by simp only [loK,hiK];omega) ?_ | refine ov_c (by decide) ?_);conv=>whnf
          exact ⟨s',by omega,i',s',z+1,_,rfl,⟨by omega,by omega⟩,rfl,by omega,by omega,s5,e5,hb5,ho5⟩
         ·rw [decide_eq_true q9] at ec8
          rw [if_neg (by rw [← ec8];simp)] at u2
          conv=>whnf
          (first | refine ov_c (by simp only [loK,hiK];omega) ?_ | refine ov_c (by decide) ?_);conv=>whnf
          (first | refine ov_c (by simp only [loK,hiK];omega) ?_ | refine ov_c (by decide) ?_);conv=>whnf
          (first | refine need_intro (⟨by omega,by omega⟩) ?_ | refine must.mk (⟨by omega,by omega⟩) ?_);conv=>whnf
          refine ⟨_,loadR aggE1 sizE1 S.len hb5 (j - 1) (by omega) (by omega),?_⟩;conv=>whnf
          (first | refine need_intro (⟨by omega,by omega⟩) ?_ | refine must.mk (⟨by omega,by omega⟩) ?_);conv=>whnf
          refine ⟨_,loadR aggE1 sizE1 S.len hb5 j (rfl) (by omega),?_⟩;conv=>whnf
          (first | refine need_intro (⟨by omega,by omega⟩) ?_ | refine must.mk (⟨by omega,by omega⟩) ?_);conv=>whnf
          refine wr_intro (by exact storeR sizE1 S.len S.one hb5 j (rfl) (by omega) d5[(j - 1)]!) (fun h6 at_h6 ot_h6=>?_)
          try (conv=>whnf)
          refine ⟨trivial,?_⟩;conv=>whnf
          (first | refine need_intro (⟨by omega,by omega⟩) ?_ | refine must.mk (⟨by omega,by omega⟩) ?_);conv=>whnf
          refine wr_intro (by exact storeR sizE1 S.len S.one at_h6 (j - 1) (by omega) (by rw [setIf_size];omega) d5[j]!) (fun h7 at_h7 ot_h7=>?_)
          try (conv=>whnf)
          refine ⟨trivial,?_⟩;conv=>whnf
          (first | refine ov_c (by simp only [loK,hiK];omega) ?_ | refine ov_c (by decide) ?_);conv=>whnf
          exact ⟨hi - (j+1),by omega,j+1,swp d5 j (j - 1),rfl,rfl,by omega,by rw [swp_size];exact s5,u2,at_h7,fun c hc=>by rw [ot_h7 c hc,ot_h6 c hc];exact ho5 c hc⟩
        ·rw [if_neg (by omega)] at u2
         have e5:=e4
         rw [← u2] at e5
         conv=>whnf
         (first | refine ov_c (by simp only [loK,hiK];omega) ?_ | refine ov_c (by decide) ?_);conv=>whnf
         exact ⟨s',by omega,i',s',z+1,_,rfl,⟨by omega,by omega⟩,rfl,by omega,by omega,s5,e5,hb5,ho5⟩
       ·rw [upS,if_neg (by omega)] at e4
        have e5:=e4
        have s5:=s4
        have hb5:=hb4
        have ho5:=ho4
        conv=>whnf
        (first | refine ov_c (by simp only [loK,hiK];omega) ?_ | refine ov_c (by decide) ?_);conv=>whnf
        exact ⟨s',by omega,i',s',z+1,_,rfl,⟨by omega,by omega⟩,rfl,by omega,by omega,s5,e5,hb5,ho5⟩
     ·rw [dnS,if_neg (by omega)] at e1
      have e4:=e1
      conv=>whnf
      (first | refine ov_c (by simp only [loK,hiK];omega) ?_ | refine ov_c (by decide) ?_);conv=>whnf
      refine bsel_intro (fun q7=>?_) (fun q7=>?_) <;> try simp only [bsL] at q7
      ·rw [upS,if_pos (by omega)] at e4
       obtain ⟨D,hD⟩:∃ D,shiftUp lt hi (i'+1) d4=D:=⟨_,rfl⟩
       rw [hD] at e4
       conv=>whnf
       refine ov_eq (show (i':Int)+1=((i'+1:Nat):Int) by omega) (by omega) ?_
       conv=>whnf
       refine loop_at [12] [] (fun r vs _ h'=>∃ (j:Nat) (d':Array α),hi - j=r∧vs=[.v (.int .i64 j)]∧i'+1≤j∧d'.size=n∧shiftUp lt hi j d'=D∧h' b=some (RowD 62 enc d' rest)∧∀ c,c≠b→h' c=h c) (hi - (i'+1)) ⟨i'+1,d4,rfl,rfl,Nat.le_refl _,s4,hD,hb4,ho4⟩ ?_
       rintro r vs cs mm4 bx4 h5 ⟨j,d5,rfl,rfl,u1,s5,u2,hb5,ho5⟩
       rw [shiftUp] at u2
       conv=>whnf
       refine bsel_intro (fun q8=>?_) (fun q8=>?_) <;> try simp only [bsL] at q8
       ·rw [if_pos (by omega)] at u2
        conv=>whnf
        (first | refine need_intro (⟨by omega,by omega⟩) ?_ | refine must.mk (⟨by omega,by omega⟩) ?_);conv=>whnf
        refine ⟨_,loadR aggE1 sizE1 S.len hb5 j rfl (by omega),?_⟩;conv=>whnf
        (first | refine ov_c (by simp only [loK,hiK];omega) ?_ | refine ov_c (by decide) ?_);conv=>whnf
        (first | refine need_intro (⟨by omega,by omega⟩) ?_ | refine must.mk (⟨by omega,by omega⟩) ?_);conv=>whnf
        refine ⟨_,loadR aggE1 sizE1 S.len hb5 (j - 1) (by omega) (by omega),?_⟩;conv=>whnf
        refine aRunK_yv rfl rfl rfl (S.cmp _ _ _ _ fun c8 ec8=>?_)
        refine ⟨trivial,?_⟩;conv=>whnf
        refine bsel_intro (fun q9=>?_) (fun q9=>?_) <;> try simp only [bsL] at q9
        ·rw [decide_eq_false q9] at ec8
         rw [if_pos (by rw [← ec8];rfl)] at u2
         have e5:=e4
         rw [← u2] at e5
         conv=>whnf
         (first | refine ov_c (by simp only [loK,hiK];omega) ?_ | refine ov_c (by decide) ?_);conv=>whnf
         exact ⟨s',by omega,i',s',z+1,_,rfl,⟨by omega,by omega⟩,rfl,by omega,by omega,s5,e5,hb5,ho5⟩
        ·rw [decide_eq_true q9] at ec8
         rw [if_neg (by rw [← ec8];simp)] at u2
         conv=>whnf
         (first | refine ov_c (by simp only [loK,hiK];omega) ?_ | refine ov_c (by decide) ?_);conv=>whnf
         (first | refine ov_c (by simp only [loK,hiK];omega) ?_ | refine ov_c (by decide) ?_);conv=>whnf
         (first | refine need_intro (⟨by omega,by omega⟩) ?_ | refine must.mk (⟨by omega,by omega⟩) ?_);conv=>whnf
         refine ⟨_,loadR aggE1 sizE1 S.len hb5 (j - 1) (by omega) (by omega),?_⟩;conv=>whnf
         (first | refine need_intro (⟨by omega,by omega⟩) ?_ | refine must.mk (⟨by omega,by omega⟩) ?_);conv=>whnf
         refine ⟨_,loadR aggE1 sizE1 S.len hb5 j (rfl) (by omega),?_⟩;conv=>whnf
         (first | refine need_intro (⟨by omega,by omega⟩) ?_ | refine must.mk (⟨by omega,by omega⟩) ?_);conv=>whnf
         refine wr_intro (by exact storeR sizE1 S.len S.one hb5 j (rfl) (by omega) d5[(j - 1)]!) (fun h6 at_h6 ot_h6=>?_)
         try (conv=>whnf)
         refine ⟨trivial,?_⟩;conv=>whnf
         (first | refine need_intro (⟨by omega,by omega⟩) ?_ | refine must.mk (⟨by omega,by omega⟩) ?_);conv=>whnf
         refine wr_intro (by exact storeR sizE1 S.len S.one at_h6 (j - 1) (by omega) (by rw [setIf_size];omega) d5[j]!) (fun h7 at_h7 ot_h7=>?_)
         try (conv=>whnf)
         refine ⟨trivial,?_⟩;conv=>whnf
         (first | refine ov_c (by simp only [loK,hiK];omega) ?_ | refine ov_c (by decide) ?_);conv=>whnf
         exact ⟨hi - (j+1),by omega,j+1,swp d5 j (j - 1),rfl,rfl,by omega,by rw [swp_size];exact s5,u2,at_h7,fun c hc=>by rw [ot_h7 c hc,ot_h6 c hc];exact ho5 c hc⟩
       ·rw [if_neg (by omega)] at u2
        have e5:=e4
        rw [← u2] at e5
        conv=>whnf
        (first | refine ov_c (by simp only [loK,hiK];omega) ?_ | refine ov_c (by decide) ?_);conv=>whnf
        exact ⟨s',by omega,i',s',z+1,_,rfl,⟨by omega,by omega⟩,rfl,by omega,by omega,s5,e5,hb5,ho5⟩
      ·rw [upS,if_neg (by omega)] at e4
       have e5:=e4
       have s5:=s4
       have hb5:=hb4
       have ho5:=ho4
       conv=>whnf
       (first | refine ov_c (by simp only [loK,hiK];omega) ?_ | refine ov_c (by decide) ?_);conv=>whnf
       exact ⟨s',by omega,i',s',z+1,_,rfl,⟨by omega,by omega⟩,rfl,by omega,by omega,s5,e5,hb5,ho5⟩
 ·obtain rfl:s=0:=by omega
  rw [partialIns] at e1
  rw [← e1] at hk
  conv=>whnf
  exact hk _ hb1 ho1
end
end Go.Proofs.YtdhkjcdneidgaaaGreatDoor
