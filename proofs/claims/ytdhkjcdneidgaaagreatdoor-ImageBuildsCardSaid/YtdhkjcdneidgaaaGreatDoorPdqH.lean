/-
  Sorting of heats: patterns broken. (UNDER WAY.)
-/
import Derived.Test.YtdhkjcdneidgaaaGreatDoorPdqE
import Derived.Test.YtdhkjcdneidgaaaGreatDoorLinS
import Derived.Sort.LotD5
import Derived.Sort.Walk7
import Derived.Sort.WalkA14
import Derived.Laws.Bits64
set_option linter.unusedSimpArgs false
set_option linter.unusedVariables false
set_option maxHeartbeats 8000000
set_option maxRecDepth 10000
set_option linter.unusedSimpArgs false
set_option linter.unusedVariables false
namespace Go.Proofs.YtdhkjcdneidgaaaGreatDoor
open Go Go.Mid Go.RowKit
open Go.Sort (swp scanSorted shiftDown shiftUp partialIns partialInsertionSort)
attribute [local irreducible] mid
section
variable {h:Hp} {K:Value→Hp→Prop}
variable {α:Type} [Inhabited α]
variable {enc:α→List Value} {lt:α→α→Bool} {y:Value}
theorem scanSorted_go {d:Array α} {b i:Nat} (h:i<b) (hl:lt d[i]! d[i - 1]! = false):scanSorted lt d b i=scanSorted lt d b (i+1):=by
 rw [scanSorted,if_pos (by simp [h,hl])]
theorem scanSorted_stop {d:Array α} {b i:Nat} (h:i<b→lt d[i]! d[i - 1]! = true):scanSorted lt d b i=i:=by
 rw [scanSorted,if_neg (fun hh=>by
  simp only [Bool.and_eq_true,decide_eq_true_eq] at hh
  rw [h hh.1] at hh
  cases hh.2)]
def dnS (lt:α→α→Bool) (a i:Nat) (d:Array α):Array α:=if i - a ≥ 2 then shiftDown lt (i - 1) d else d
def upS (lt:α→α→Bool) (b i:Nat) (d:Array α):Array α:=if b - i ≥ 2 then shiftUp lt b (i+1) d else d
theorem partialIns_done {a b s i i2:Nat} {d:Array α} (h:scanSorted lt d b i=i2) (hb:i2=b):partialIns lt a b (s+1) i d=(d,true):=by
 rw [partialIns]
 simp only [h,hb,if_pos]
theorem partialIns_short {a b s i i2:Nat} {d:Array α} (h:scanSorted lt d b i=i2) (hb:i2≠b) (hs:b - a<50):partialIns lt a b (s+1) i d=(d,false):=by
 rw [partialIns]
 simp only [h,if_neg hb,if_pos hs]
theorem partialIns_go {a b s i i2:Nat} {d:Array α} (h:scanSorted lt d b i=i2) (hb:i2≠b) (hs:¬ b - a<50):partialIns lt a b (s+1) i d=partialIns lt a b s i2 (upS lt b i2 (dnS lt a i2 (swp d i2 (i2 - 1)))):=by
 rw [partialIns]
 simp only [h,if_neg hb,if_neg hs]
 rfl
theorem parE_x (S:Srt1 enc lt y) {b cap n:Nat} {d:Array α} {rest:List Value} (lo hi:Nat) (hb:h b=some (RowD 62 enc d rest)) (hd:d.size=n) (hsz:n<2 ^ 30) (hcap:n≤cap) (hlh:lo<hi) (hhi:hi≤n)
  (hk:∀ h',h' b=some (RowD 62 enc (partialInsertionSort lt d lo hi).1 rest)→(∀ c,c≠b→h' c=h c)→K (.bool (partialInsertionSort lt d lo hi).2) h') :
  X Tryz.prog 96 #[.slice (some ⟨b,0,none⟩) n cap,.int .i64 lo,.int .i64 hi,y] h K:=by
 unfold partialInsertionSort at hk
 refine fnv (args:=_) mixed [] [] [] Tryz.func96 rfl (by kernel_rfl) (cw_ ?_)
 refine ov_eq (show (lo:Int)+1=((lo+1:Nat):Int) by omega) (by omega) (cw_ ?_)
 refine loop_at [10,9] [] (fun r vs _ h'=>∃ (i s:Nat) (z:Int) (d':Array α),s=r∧(z+s=5∧0≤z)∧vs=[.v (.int .i64 z),.v (.int .i64 i)]∧lo+1≤i∧i≤hi∧d'.size=n∧partialIns lt lo hi s i d'=partialIns lt lo hi 5 (lo+1) d∧h' b=some (RowD 62 enc d' rest)∧∀ c,c≠b→h' c=h c) 5 ⟨lo+1,5,0,d,rfl,⟨rfl,by omega⟩,rfl,by omega,by omega,hd,rfl,hb,fun _ _=>rfl⟩ ?_
 rintro r vs cs mm bx h1 ⟨i,s,z,d1,rfl,hz,rfl,i1,i2,s1,e1,hb1,ho1⟩
 conv=>whnf
 refine br_ (fun q1=>?_) fun q1=>?_
 ·obtain ⟨s',rfl⟩:∃ s',s=s'+1:=⟨s - 1,by omega⟩
  obtain ⟨I,hI⟩:∃ I,scanSorted lt d1 hi i=I:=⟨_,rfl⟩
  conv=>whnf
  refine loop_at [9] [] (fun r vs _ h'=>h1=h'∧∃ (i':Nat),hi - i'=r∧vs=[.v (.int .i64 i')]∧i≤i'∧i'≤hi∧scanSorted lt d1 hi i'=I) (hi - i) ⟨rfl,i,rfl,rfl,Nat.le_refl _,i2,hI⟩ ?_
  rintro r vs cs mm2 bx2 _ ⟨rfl,i',rfl,rfl,i4,i5,hI2⟩
  conv=>whnf
  refine br_ (fun q2=>?_) fun q2=>?_
  focus
   conv=>whnf
   refine n_ ?_
   refine ⟨_,loadR aggE1 sizE1 S.len hb1 i' rfl (by omega),cw_ ?_⟩
   refine n_ ?_
   refine n_ ?_
   refine ⟨_,loadR aggE1 sizE1 S.len hb1 (i' - 1) (by omega) (by omega),cw_ ?_⟩
   refine aRunK_yv rfl rfl rfl (S.cmp _ _ _ _ fun c ec=>?_)
   refine ⟨trivial,cw_ ?_⟩
   refine br_ (fun q3=>?_) fun q3=>?_
   ·rw [decide_eq_false q3] at ec
    rw [scanSorted_go (by omega) ec.symm] at hI2
    conv=>whnf
    refine ov_eq (show (i':Int)+1=((i'+1:Nat):Int) by omega) (by omega) (cw_ ?_)
    exact ⟨hi - (i'+1),by omega,rfl,i'+1,rfl,rfl,by omega,by omega,hI2⟩
   focus
    rw [decide_eq_true q3] at ec
    rw [scanSorted_stop (fun _=>ec.symm)] at hI2
   rotate_left
  rotate_left
  focus
   rw [scanSorted_stop (fun hh=>by omega)] at hI2
  rotate_left
  all_goals
   have hI3:=hI.trans hI2.symm
   conv=>whnf
   refine br_ (fun q4=>?_) fun q4=>?_
   ·rw [partialIns_done hI3 (by omega)] at e1
    rw [← e1] at hk
    conv=>whnf
    exact hk _ hb1 ho1
   ·conv=>whnf
    refine n_ ?_
    refine br_ (fun q5=>?_) fun q5=>?_
    ·rw [partialIns_short hI3 (by omega) (by omega)] at e1
     rw [← e1] at hk
     conv=>whnf
     exact hk _ hb1 ho1
    ·rw [partialIns_go hI3 (by omega) (by omega)] at e1
     conv=>whnf
     refine n_ ?_
     refine n_ ?_
     refine n_ ?_
     refine ⟨_,loadR aggE1 sizE1 S.len hb1 (i' - 1) (by omega) (by omega),cw_ ?_⟩
     refine n_ ?_
     refine ⟨_,loadR aggE1 sizE1 S.len hb1 i' (rfl) (by omega),cw_ ?_⟩
     refine n_ ?_
     refine wr_intro (by exact storeR sizE1 S.len S.one hb1 i' (rfl) (by omega) d1[(i' - 1)]!) (fun h3 at_h3 ot_h3=>cw_ ?_)
     refine ⟨trivial,cw_ ?_⟩
     refine n_ ?_
     refine wr_intro (by exact storeR sizE1 S.len S.one at_h3 (i' - 1) (by omega) (by rw [setIf_size];omega) d1[i']!) (fun h4 at_h4 ot_h4=>cw_ ?_)
     refine ⟨trivial,cw_ ?_⟩
     have hb4:h4 b=some (RowD 62 enc (swp d1 i' (i' - 1)) rest):=at_h4
     have ho4:∀ c,c≠b→h4 c=h c:=fun c hc=>by rw [ot_h4 c hc,ot_h3 c hc];exact ho1 c hc
     have s4:(swp d1 i' (i' - 1)).size=n:=by rw [swp_size];exact s1
     clear hI hI2 hI3 at_h4 at_h3 ot_h4 ot_h3
     generalize swp d1 i' (i' - 1)=d4 at *
     refine n_ ?_
     refine br_ (fun q6=>?_) fun q6=>?_
     focus
      rw [dnS,if_pos (by omega)] at e1
      obtain ⟨D,hD⟩:∃ D,shiftDown lt (i' - 1) d4=D:=⟨_,rfl⟩
      rw [hD] at e1
      conv=>whnf
      refine ov_eq (show (i':Int) - 1=((i' - 1:Nat):Int) by omega) (by omega) (cw_ ?_)
      refine loop_at [11] [] (fun r vs _ h'=>∃ (j:Nat) (d':Array α),j=r∧vs=[.v (.int .i64 j)]∧j<i'∧d'.size=n∧shiftDown lt j d'=D∧h' b=some (RowD 62 enc d' rest)∧∀ c,c≠b→h' c=h c) (i' - 1) ⟨i' - 1,d4,rfl,rfl,by omega,s4,hD,hb4,ho4⟩ ?_
      clear hb4 ho4 s4 hD
      clear d4
      rintro r vs cs mm3 bx3 h4 ⟨j,d4,rfl,rfl,u1,s4,u2,hb4,ho4⟩
      conv=>whnf
      refine br_ (fun qd=>?_) fun qd=>?_
      focus
       obtain ⟨j0,rfl⟩:∃ j0,j=j0+1:=⟨j - 1,by omega⟩
       rw [shiftDown] at u2
       conv=>whnf
       refine n_ ?_
       refine ⟨_,loadR aggE1 sizE1 S.len hb4 (j0+1) rfl (by omega),cw_ ?_⟩
       refine n_ ?_
       refine n_ ?_
       refine ⟨_,loadR aggE1 sizE1 S.len hb4 j0 (by omega) (by omega),cw_ ?_⟩
       refine aRunK_yv rfl rfl rfl (S.cmp _ _ _ _ fun c6 ec6=>?_)
       refine ⟨trivial,cw_ ?_⟩
       refine br_ (fun qe=>?_) fun qe=>?_
       focus
        rw [decide_eq_false qe] at ec6
        rw [if_pos (by rw [← ec6];rfl)] at u2
        have e4:=e1
        rw [← u2] at e4
       rotate_left
       ·rw [decide_eq_true qe] at ec6
        rw [if_neg (by rw [← ec6];simp)] at u2
        conv=>whnf
        refine n_ ?_
        refine n_ ?_
        refine n_ ?_
        refine ⟨_,loadR aggE1 sizE1 S.len hb4 j0 (by omega) (by omega),cw_ ?_⟩
        refine n_ ?_
        refine ⟨_,loadR aggE1 sizE1 S.len hb4 (j0+1) (rfl) (by omega),cw_ ?_⟩
        refine n_ ?_
        refine wr_intro (by exact storeR sizE1 S.len S.one hb4 (j0+1) (rfl) (by omega) d4[j0]!) (fun h5 at_h5 ot_h5=>cw_ ?_)
        refine ⟨trivial,cw_ ?_⟩
        refine n_ ?_
        refine wr_intro (by exact storeR sizE1 S.len S.one at_h5 j0 (by omega) (by rw [setIf_size];omega) d4[(j0+1)]!) (fun h6 at_h6 ot_h6=>cw_ ?_)
        refine ⟨trivial,cw_ ?_⟩
        refine ov_eq (show ((j0+1:Nat):Int) - 1=(j0:Int) by omega) (by omega) (cw_ ?_)
        exact ⟨j0,by omega,j0,swp d4 (j0+1) j0,rfl,rfl,by omega,by rw [swp_size];exact s4,u2,at_h6,fun c hc=>by rw [ot_h6 c hc,ot_h5 c hc];exact ho4 c hc⟩
      rotate_left
      focus
       obtain rfl:j=0:=by omega
       rw [show shiftDown lt 0 d4=d4 from rfl] at u2
       have e4:=e1
       rw [← u2] at e4
      rotate_left
     rotate_left 2
     focus
      rw [dnS,if_neg (by omega)] at e1
      have e4:=e1
     rotate_left
     all_goals
      conv=>whnf
      refine n_ ?_
      refine br_ (fun q7=>?_) fun q7=>?_
      focus
       rw [upS,if_pos (by omega)] at e4
       obtain ⟨D,hD⟩:∃ D,shiftUp lt hi (i'+1) d4=D:=⟨_,rfl⟩
       rw [hD] at e4
       conv=>whnf
       refine ov_eq (show (i':Int)+1=((i'+1:Nat):Int) by omega) (by omega) (cw_ ?_)
       refine loop_at [12] [] (fun r vs _ h'=>∃ (j:Nat) (d':Array α),hi - j=r∧vs=[.v (.int .i64 j)]∧i'+1≤j∧d'.size=n∧shiftUp lt hi j d'=D∧h' b=some (RowD 62 enc d' rest)∧∀ c,c≠b→h' c=h c) (hi - (i'+1)) ⟨i'+1,d4,rfl,rfl,Nat.le_refl _,s4,hD,hb4,ho4⟩ ?_
       rintro r vs cs mm4 bx4 h5 ⟨j,d5,rfl,rfl,u1,s5,u2,hb5,ho5⟩
       rw [shiftUp] at u2
       conv=>whnf
       refine br_ (fun q8=>?_) fun q8=>?_
       focus
        rw [if_pos (by omega)] at u2
        conv=>whnf
        refine n_ ?_
        refine ⟨_,loadR aggE1 sizE1 S.len hb5 j rfl (by omega),cw_ ?_⟩
        refine n_ ?_
        refine n_ ?_
        refine ⟨_,loadR aggE1 sizE1 S.len hb5 (j - 1) (by omega) (by omega),cw_ ?_⟩
        refine aRunK_yv rfl rfl rfl (S.cmp _ _ _ _ fun c8 ec8=>?_)
        refine ⟨trivial,cw_ ?_⟩
        refine br_ (fun q9=>?_) fun q9=>?_
        focus
         rw [decide_eq_false q9] at ec8
         rw [if_pos (by rw [← ec8];rfl)] at u2
         have e5:=e4
         rw [← u2] at e5
        rotate_left
        ·rw [decide_eq_true q9] at ec8
         rw [if_neg (by rw [← ec8];simp)] at u2
         conv=>whnf
         refine n_ ?_
         refine n_ ?_
         refine n_ ?_
         refine ⟨_,loadR aggE1 sizE1 S.len hb5 (j - 1) (by omega) (by omega),cw_ ?_⟩
         refine n_ ?_
         refine ⟨_,loadR aggE1 sizE1 S.len hb5 j (rfl) (by omega),cw_ ?_⟩
         refine n_ ?_
         refine wr_intro (by exact storeR sizE1 S.len S.one hb5 j (rfl) (by omega) d5[(j - 1)]!) (fun h6 at_h6 ot_h6=>cw_ ?_)
         refine ⟨trivial,cw_ ?_⟩
         refine n_ ?_
         refine wr_intro (by exact storeR sizE1 S.len S.one at_h6 (j - 1) (by omega) (by rw [setIf_size];omega) d5[j]!) (fun h7 at_h7 ot_h7=>cw_ ?_)
         refine ⟨trivial,cw_ ?_⟩
         refine n_ ?_
         exact ⟨hi - (j+1),by omega,j+1,swp d5 j (j - 1),rfl,rfl,by omega,by rw [swp_size];exact s5,u2,at_h7,fun c hc=>by rw [ot_h7 c hc,ot_h6 c hc];exact ho5 c hc⟩
       rotate_left
       focus
        rw [if_neg (by omega)] at u2
        have e5:=e4
        rw [← u2] at e5
       rotate_left
      rotate_left 2
      focus
       rw [upS,if_neg (by omega)] at e4
       have e5:=e4
       have s5:=s4
       have hb5:=hb4
       have ho5:=ho4
      rotate_left
      all_goals
       conv=>whnf
       refine n_ ?_
       exact ⟨s',by omega,i',s',z+1,_,rfl,⟨by omega,by omega⟩,rfl,by omega,by omega,s5,e5,hb5,ho5⟩
 ·obtain rfl:s=0:=by omega
  rw [partialIns] at e1
  rw [← e1] at hk
  conv=>whnf
  exact hk _ hb1 ho1
end
end Go.Proofs.YtdhkjcdneidgaaaGreatDoor
namespace Go.Proofs.YtdhkjcdneidgaaaGreatDoor
open Go Go.Mid Go.RowKit
open Go.Sort (swp xorNextN breakPatterns)
attribute [local irreducible] mid
section
variable {h:Hp} {K:Value→Hp→Prop}
theorem aggXs:isAggT Tryz.prog 190=some false:=by kernel_rfl
theorem sizXs:sizeT Tryz.prog 190=some 1:=by kernel_rfl
theorem xorU (a b:Nat) (ha:a<18446744073709551616) (hb:b<18446744073709551616):IntKind.u64.wrap (BitVec.ofInt IntKind.u64.bits (a:Int) ^^^ BitVec.ofInt IntKind.u64.bits (b:Int)).toNat=((a ^^^ b:Nat):Int):=bits_xor_u64_nat a b ha hb
theorem nextE_x {c v:Nat} (hv:v<18446744073709551616) (hc:h c=some (rowO 190 [.int .u64 v]))
  (hk:∀ h',h' c=some (rowO 190 [.int .u64 (xorNextN v:Nat)])→(∀ x,x≠c→h' x=h x)→K (.int .u64 (xorNextN v:Nat)) h'):X Tryz.prog 127 #[.pointer (some ⟨c,0,none⟩)] h K:=by
 have p1:∀ x:Nat,IntKind.u64.wrap ((x:Int)*2 ^ min (Int.toNat 13) IntKind.u64.bits)=((x*8192 % 18446744073709551616:Nat):Int):=fun x=>by
  rw [IntKind.wrap_u64];show (x:Int)*8192 % _=_;omega
 have p3:∀ x:Nat,IntKind.u64.wrap ((x:Int)*2 ^ min (Int.toNat 17) IntKind.u64.bits)=((x*131072 % 18446744073709551616:Nat):Int):=fun x=>by
  rw [IntKind.wrap_u64];show (x:Int)*131072 % _=_;omega
 have hlt:∀ x:Nat,x % 18446744073709551616<18446744073709551616:=fun x=>Nat.mod_lt _ (by decide)
 have hx:∀ x z:Nat,x<18446744073709551616→z<18446744073709551616→x ^^^ z<18446744073709551616:=fun x z h1 h2=>Nat.xor_lt_two_pow (n:=64) h1 h2
 obtain ⟨u,hu⟩:∃ u,v ^^^ (v*8192 % 18446744073709551616)=u:=⟨_,rfl⟩
 have hul:u<18446744073709551616:=hu ▸ hx _ _ hv (hlt _)
 obtain ⟨z,hz⟩:∃ z,u ^^^ (u / 128)=z:=⟨_,rfl⟩
 have hzl:z<18446744073709551616:=hz ▸ hx _ _ hul (by omega)
 have e0:xorNextN v=z ^^^ (z*131072 % 18446744073709551616):=by rw [← hz,← hu];rfl
 rw [e0] at hk
 refine fnv (args:=_) mixed [] [] [] Tryz.func127 rfl (by kernel_rfl) (cw_ ?_)
 refine ⟨_,loadC0 aggXs hc rfl,cw_ ?_⟩
 refine ⟨_,loadC0 aggXs hc rfl,cw_ ?_⟩
 refine ov_by (p1 v) (cw_ ?_)
 refine val_by (xorU _ _ hv (hlt _)) (cw_ ?_)
 rw [hu]
 refine wr_intro (by exact storeC0 sizXs hc (Nat.zero_lt_succ 0) rfl rfl) (fun H1 at_H1 ot_H1=>cw_ ?_)
 have g1:H1 c=some (rowO 190 [.int .u64 u]):=at_H1
 refine ⟨trivial,cw_ ?_⟩
 refine ⟨_,loadC0 aggXs g1 rfl,cw_ ?_⟩
 refine ⟨_,loadC0 aggXs g1 rfl,cw_ ?_⟩
 have d2:((u:Int)).fdiv (2 ^ min (Int.toNat 7) IntKind.u64.bits)=((u / 128:Nat):Int):=by
  show ((u:Int)).fdiv 128=_
  rw [Int.fdiv_eq_ediv_of_nonneg _ (by omega)]
  omega
 refine val_by (d2) (cw_ ?_)
 refine val_by (xorU _ _ hul (by omega)) (cw_ ?_)
 rw [hz]
 refine wr_intro (by exact storeC0 sizXs g1 (Nat.zero_lt_succ 0) rfl rfl) (fun H2 at_H2 ot_H2=>cw_ ?_)
 have g2:H2 c=some (rowO 190 [.int .u64 z]):=at_H2
 refine ⟨trivial,cw_ ?_⟩
 refine ⟨_,loadC0 aggXs g2 rfl,cw_ ?_⟩
 refine ⟨_,loadC0 aggXs g2 rfl,cw_ ?_⟩
 refine ov_by (p3 z) (cw_ ?_)
 refine val_by (xorU _ _ hzl (hlt _)) (cw_ ?_)
 refine wr_intro (by exact storeC0 sizXs g2 (Nat.zero_lt_succ 0) rfl rfl) (fun H3 at_H3 ot_H3=>cw_ ?_)
 have g3:H3 c=some (rowO 190 [.int .u64 ((z ^^^ (z*131072 % 18446744073709551616):Nat):Int)]):=at_H3
 refine ⟨trivial,cw_ ?_⟩
 refine ⟨_,loadC0 aggXs g3 rfl,cw_ ?_⟩
 exact hk H3 g3 fun x hx=>by rw [ot_H3 x hx,ot_H2 x hx,ot_H1 x hx]
theorem blenN_x (m:Nat) (hm:m<2 ^ 30) (hk:K (.int .i64 (Go.Sort.bitsLen m:Nat)) h):X Tryz.prog 66 #[.int .u64 m] h K :=
 X.ofBelow (fun w0 w s=>(Tryz.bits_Len m w (by omega) (by omega)).mono fun e w' hh=>⟨hh.1.trans (by rw [Int.toNat_natCast,bitLen_eq m (by omega)]),by rw [hh.2];exact Below.refl _ _⟩) hk
theorem npowE_x (m:Nat) (hm:m<2 ^ 30) (hk:K (.int .u64 ((1 <<< Go.Sort.bitsLen m:Nat):Int)) h):X Tryz.prog 126 #[.int .i64 m] h K:=by
 have hb:Go.Sort.bitsLen m≤30:=(Go.Sort.bitsLen_le_iff m 30).2 hm
 have hp:1 <<< Go.Sort.bitsLen m≤2 ^ 30:=by rw [Nat.one_shiftLeft];exact Nat.pow_le_pow_right (by decide) hb
 have e:IntKind.u64.wrap (1*2 ^ min (((Go.Sort.bitsLen m:Nat):Int)).toNat IntKind.u64.bits)=((1 <<< Go.Sort.bitsLen m:Nat):Int):=by
  rw [IntKind.wrap_u64,Int.toNat_natCast,show min (Go.Sort.bitsLen m) IntKind.u64.bits=Go.Sort.bitsLen m from Nat.min_eq_left (Nat.le_trans hb (by decide)),Int.one_mul,Nat.one_shiftLeft]
  rw [Nat.one_shiftLeft] at hp
  have:((2 ^ Go.Sort.bitsLen m:Nat):Int)=2 ^ Go.Sort.bitsLen m:=by push_cast;rfl
  rw [← this]
  clear this hb
  generalize 2 ^ Go.Sort.bitsLen m=q at *
  omega
 refine fnv (args:=_) mixed [] [] [] Tryz.func126 rfl (by kernel_rfl) (cw_ ?_)
 refine ov_by (show IntKind.u64.wrap (m:Int)=(m:Int) by rw [IntKind.wrap_u64];omega) ?_
 conv=>whnf
 refine blenN_x m hm (cw_ ?_)
 refine ov_by e (cw_ ?_)
 exact hk
end
end Go.Proofs.YtdhkjcdneidgaaaGreatDoor
namespace Go.Proofs.YtdhkjcdneidgaaaGreatDoor
open Go Go.Mid Go.RowKit
open Go.Sort (swp xorNextN xorNext breakPatterns)
attribute [local irreducible] mid
section
variable {h:Hp} {K:Value→Hp→Prop}
variable {α:Type} [Inhabited α]
variable {enc:α→List Value} {lt:α→α→Bool} {y:Value}
theorem andU (a b:Nat) (ha:a<18446744073709551616) (hb:b<18446744073709551616):IntKind.u64.wrap (BitVec.ofInt IntKind.u64.bits (a:Int) &&& BitVec.ofInt IntKind.u64.bits (b:Int)).toNat=((a &&& b:Nat):Int):=by
 have hx:a &&& b<2 ^ 64:=Nat.lt_of_le_of_lt Nat.and_le_left (by omega)
 have h1:(BitVec.ofInt 64 (a:Int)).toNat=a:=by
  rw [BitVec.ofInt_natCast,BitVec.toNat_ofNat];exact Nat.mod_eq_of_lt (by omega)
 have h2:(BitVec.ofInt 64 (b:Int)).toNat=b:=by
  rw [BitVec.ofInt_natCast,BitVec.toNat_ofNat];exact Nat.mod_eq_of_lt (by omega)
 show IntKind.u64.wrap ((BitVec.ofInt 64 (a:Int) &&& BitVec.ofInt 64 (b:Int)).toNat:Int)=_
 rw [BitVec.toNat_and,h1,h2,IntKind.wrap_u64]
 omega
theorem brkE_x (S:Srt1 enc lt y) {b cap n:Nat} {d:Array α} {rest:List Value} (lo hi:Nat) (hb:h b=some (RowD 62 enc d rest)) (hd:d.size=n) (hsz:n<2 ^ 30) (hcap:n≤cap) (hlh:lo+12<hi) (hhi:hi≤n)
  (hk:∀ h',h' b=some (RowD 62 enc (breakPatterns d lo hi) rest)→(∀ c o,c≠b→h c=some o→h' c=some o)→K (.tuple #[]) h'):X Tryz.prog 93 #[.slice (some ⟨b,0,none⟩) n cap,.int .i64 lo,.int .i64 hi,y] h K:=by
 obtain ⟨m,rfl⟩:∃ m,hi=lo+m:=⟨hi - lo,by omega⟩
 rw [breakPatterns_eq d lo m (by omega)] at hk
 have hM:((lo+m:Nat):Int) - (lo:Int)=(m:Int):=by omega
 have td:(m:Int).tdiv 4=((m / 4:Nat):Int):=rfl
 have b1:=Nat.mul_div_le m 4
 have hp0:1≤1 <<< Go.Sort.bitsLen m:=by rw [Nat.one_shiftLeft];exact Nat.one_le_two_pow
 have hp1:1 <<< Go.Sort.bitsLen m≤2*m:=by rw [Nat.one_shiftLeft];exact Go.Sort.two_pow_bitsLen_le (by omega)
 refine fnv (args:=_) mixed [] [] [] Tryz.func93 rfl (by kernel_rfl) (cw_ ?_)
 refine ov_eq hM (by omega) (cw_ ?_)
 refine bt_ ?_
 refine ov_by (show IntKind.u64.wrap (m:Int)=(m:Int) by rw [IntKind.wrap_u64];omega) ?_
 conv=>whnf
 refine new_intro (o:=rowO 190 [.int .u64 0]) (fun c h1 n_c le_c at_c ot_c=>cw_ ?_)
 refine wr_intro (by exact storeC0 sizXs at_c (Nat.zero_lt_succ 0) rfl rfl) (fun h2 at_h2 ot_h2=>cw_ ?_)
 have hbc:b≠c:=Hp.ne n_c hb
 have hb2:=(ot_h2 b hbc).trans (le_c _ _ hb)
 conv=>whnf
 refine npowE_x m (by omega) ?_
 generalize 1 <<< Go.Sort.bitsLen m=M at *
 conv=>whnf
 refine ov_eq td (by omega) (cw_ ?_)
 refine ov_eq (show ((m / 4:Nat):Int)*2=((m / 4*2:Nat):Int) by omega) (by omega) (cw_ ?_)
 refine ov_eq (show (lo:Int)+((m / 4*2:Nat):Int)=((lo+m / 4*2:Nat):Int) by omega) (by omega) (cw_ ?_)
 refine ov_eq (show ((lo+m / 4*2:Nat):Int) - 1=((lo+m / 4*2 - 1:Nat):Int) by omega) (by omega) ?_
 generalize hi0:lo+m / 4*2 - 1=i0 at hk ⊢
 conv=>whnf
 have hm64:(UInt64.ofNat m).toNat=m:=by rw [UInt64.toNat_ofNat'];exact Nat.mod_eq_of_lt (by omega)
 refine loop_at [11] [] (fun r vs _ h'=>∃ (t:Nat) (R:UInt64) (d':Array α),3 - t=r∧t≤3∧vs=[.v (.int .i64 ((i0+t:Nat):Int))]∧d'.size=n∧bpRest lo m M i0 (3 - t) t (R,d')=bpRest lo m M i0 3 0 (UInt64.ofNat m,d)∧h' c=some (rowO 190 [.int .u64 (R.toNat:Nat)])∧h' b=some (RowD 62 enc d' rest)∧∀ x o,x≠b→h x=some o→h' x=some o) 3 ⟨0,UInt64.ofNat m,d,rfl,by omega,rfl,hd,rfl,by rw [hm64];exact at_h2,hb2,fun x o _ e=>(ot_h2 x (Hp.ne n_c e)).trans (le_c x o e)⟩ ?_
 rintro r vs cs mm bx h3 ⟨t,R,d1,rfl,t3,rfl,s1,e1,hc3,hb3,ho3⟩
 conv=>whnf
 refine ov_eq td (by omega) (cw_ ?_)
 refine ov_eq (show ((m / 4:Nat):Int)*2=((m / 4*2:Nat):Int) by omega) (by omega) (cw_ ?_)
 refine ov_eq (show (lo:Int)+((m / 4*2:Nat):Int)=((lo+m / 4*2:Nat):Int) by omega) (by omega) (cw_ ?_)
 refine ov_eq (show ((lo+m / 4*2:Nat):Int)+1=((lo+m / 4*2+1:Nat):Int) by omega) (by omega) (cw_ ?_)
 refine br_ (fun q1=>?_) fun q1=>?_
 ·have t2:t<3:=by omega
  obtain ⟨o,ho⟩:∃ o,(if (xorNext R).toNat &&& (M - 1) ≥ m then ((xorNext R).toNat &&& (M - 1)) - m else (xorNext R).toNat &&& (M - 1))=o:=⟨_,rfl⟩
  rw [bp_step lo m M i0 t R d1 o t2 ho] at e1
  have hx:=Go.Sort.xorNext_toNat R
  conv=>whnf
  refine nextE_x (UInt64.toNat_lt R) hc3 fun h4 c4 o4=>?_
  rw [← hx] at c4 ⊢
  have hR2:=UInt64.toNat_lt (xorNext R)
  clear hx
  generalize xorNext R=R2 at *
  have b4:=(o4 b hbc).trans hb3
  have ha:=andU R2.toNat (M - 1) hR2 (by omega)
  have hw:R2.toNat &&& (M - 1)≤M - 1:=Nat.and_le_right
  generalize hwe:R2.toNat &&& (M - 1)=w at *
  conv=>whnf
  refine ov_by (show IntKind.u64.wrap ((M:Int) - 1)=((M - 1:Nat):Int) by rw [IntKind.wrap_u64];omega) ?_
  conv=>whnf
  refine val_by (ha) (cw_ ?_)
  refine ov_eq rfl (by omega) (cw_ ?_)
  refine br_ (fun q2=>?_) fun q2=>?_
  ·rw [if_pos (by omega)] at ho
   conv=>whnf
   refine ov_eq (show (w:Int) - (m:Int)=(o:Int) by omega) (by omega) (cw_ ?_)
   refine ov_eq (show (lo:Int)+(o:Int)=((lo+o:Nat):Int) by omega) (by omega) (cw_ ?_)
   refine ov_eq (show (lo:Int)+(o:Int)=((lo+o:Nat):Int) by omega) (by omega) (cw_ ?_)
   refine n_ ?_
   refine ⟨_,loadR aggE1 sizE1 S.len b4 (lo+o) rfl (by omega),cw_ ?_⟩
   refine n_ ?_
   refine ⟨_,loadR aggE1 sizE1 S.len b4 (i0+t) rfl (by omega),cw_ ?_⟩
   refine n_ ?_
   refine wr_intro (by exact storeR sizE1 S.len S.one b4 (i0+t) rfl (by omega) d1[lo+o]!) (fun h5 at_h5 ot_h5=>cw_ ?_)
   refine ⟨trivial,cw_ ?_⟩
   refine n_ ?_
   refine wr_intro (by exact storeR sizE1 S.len S.one at_h5 (lo+o) rfl (by rw [setIf_size];omega) d1[i0+t]!) (fun h6 at_h6 ot_h6=>cw_ ?_)
   refine ⟨trivial,cw_ ?_⟩
   refine ov_eq (show ((i0+t:Nat):Int)+1=((i0+(t+1):Nat):Int) by omega) (by omega) (cw_ ?_)
   exact ⟨3 - (t+1),by omega,t+1,R2,swp d1 (i0+t) (lo+o),rfl,by omega,rfl,by rw [swp_size];exact s1,e1,((ot_h6 c (Ne.symm hbc)).trans (ot_h5 c (Ne.symm hbc))).trans c4,at_h6,fun x p hxb e=>by rw [ot_h6 x hxb,ot_h5 x hxb,o4 x (Hp.ne n_c e)];exact ho3 x p hxb e⟩
  ·rw [if_neg (by omega)] at ho
   have ho2:=ho.symm
   clear ho
   subst ho2
   conv=>whnf
   refine ov_eq (show (lo:Int)+(o:Int)=((lo+o:Nat):Int) by omega) (by omega) (cw_ ?_)
   refine ov_eq (show (lo:Int)+(o:Int)=((lo+o:Nat):Int) by omega) (by omega) (cw_ ?_)
   refine n_ ?_
   refine ⟨_,loadR aggE1 sizE1 S.len b4 (lo+o) rfl (by omega),cw_ ?_⟩
   refine n_ ?_
   refine ⟨_,loadR aggE1 sizE1 S.len b4 (i0+t) rfl (by omega),cw_ ?_⟩
   refine n_ ?_
   refine wr_intro (by exact storeR sizE1 S.len S.one b4 (i0+t) rfl (by omega) d1[lo+o]!) (fun h5 at_h5 ot_h5=>cw_ ?_)
   refine ⟨trivial,cw_ ?_⟩
   refine n_ ?_
   refine wr_intro (by exact storeR sizE1 S.len S.one at_h5 (lo+o) rfl (by rw [setIf_size];omega) d1[i0+t]!) (fun h6 at_h6 ot_h6=>cw_ ?_)
   refine ⟨trivial,cw_ ?_⟩
   refine ov_eq (show ((i0+t:Nat):Int)+1=((i0+(t+1):Nat):Int) by omega) (by omega) (cw_ ?_)
   exact ⟨3 - (t+1),by omega,t+1,R2,swp d1 (i0+t) (lo+o),rfl,by omega,rfl,by rw [swp_size];exact s1,e1,((ot_h6 c (Ne.symm hbc)).trans (ot_h5 c (Ne.symm hbc))).trans c4,at_h6,fun x p hxb e=>by rw [ot_h6 x hxb,ot_h5 x hxb,o4 x (Hp.ne n_c e)];exact ho3 x p hxb e⟩
 ·obtain rfl:t=3:=by omega
  have e2:d1=bpRest lo m M i0 3 0 (UInt64.ofNat m,d):=e1
  rw [← e2] at hk
  conv=>whnf
  exact hk _ hb3 ho3
end
end Go.Proofs.YtdhkjcdneidgaaaGreatDoor
