/-
  Sorting of heats: heaps; reversal.
-/
import Derived.Test.YtdhkjcdneidgaaaGreatDoorMidZ
import Derived.Test.YtdhkjcdneidgaaaGreatDoorLib0
namespace Go.Proofs.YtdhkjcdneidgaaaGreatDoor
set_option linter.unusedSimpArgs false
set_option linter.unusedVariables false
set_option linter.unusedSimpArgs false
set_option linter.unusedVariables false
open Go Go.Mid Go.RowKit
open Go.Sort (swp insInner insOuter insertionSort)
attribute [local irreducible] mid
section
set_option maxHeartbeats 8000000
set_option maxRecDepth 10000
variable {h:Hp} {K:Value→Hp→Prop}
variable {α:Type} [Inhabited α]
theorem aggE1:isAggT Tryz.prog 62=some true:=by kernel_rfl
theorem sizE1:sizeT Tryz.prog 62=some 2:=by kernel_rfl
structure Srt1 (enc:α→List Value) (lt:α→α→Bool) (y:Value):Prop where
 len:∀ x,(enc x).length=2
 one:∀ x,(enc x).all Value.oneCell'=true
 cmp:CmpX Tryz.prog y enc lt
variable {enc:α→List Value} {lt:α→α→Bool} {y:Value}
theorem insInner_end (a:Nat) (d:Array α):insInner lt a a d=d:=by
 cases a with
 | zero=>rfl
 | succ a=>unfold insInner;rw [if_neg (by simp)]
theorem insertionE_x (S:Srt1 enc lt y) {b cap n:Nat} {d:Array α} {rest:List Value} (lo hi:Nat) (hb:h b=some (RowD 62 enc d rest)) (hd:d.size=n) (hsz:n<2 ^ 30) (hcap:n≤cap) (hlh:lo≤hi) (hhi:hi≤n)
  (hk:∀ h',h' b=some (RowD 62 enc (insertionSort lt d lo hi) rest)→(∀ c,c≠b→h' c=h c)→K (.tuple #[]) h'):X Tryz.prog 91 #[.slice (some ⟨b,0,none⟩) n cap,.int .i64 lo,.int .i64 hi,y] h K:=by
 refine fnv (args:=_) mixed [] [] [] Tryz.func91 rfl (by kernel_rfl) ?_;conv=>whnf
 (first | refine ov_c (by simp only [loK,hiK];omega) ?_ | refine ov_c (by decide) ?_);conv=>whnf
 refine loop_at [8] [] (fun r vs _ h'=>∃ (i:Nat) (d':Array α),r=hi - i∧vs=[.v (.int .i64 i)]∧lo+1≤i∧d'.size=n∧insOuter lt lo hi i d'=insertionSort lt d lo hi∧h' b=some (RowD 62 enc d' rest)∧∀ c,c≠b→h' c=h c) (hi - (lo+1)) ⟨lo+1,d,rfl,rfl,by omega,hd,rfl,hb,fun _ _=>rfl⟩ ?_
 rintro r vs cs mm bx h1 ⟨i,d1,rfl,rfl,i1,s1,e1,hb1,ho1⟩
 conv=>whnf
 refine bsel_intro (fun q1=>?_) (fun q1=>?_) <;> try simp only [bsL] at q1
 ·rw [insOuter,if_pos (by omega)] at e1
  conv=>whnf
  refine loop_at [9] [] (fun r vs _ h'=>∃ (j:Nat) (d':Array α),r=j∧vs=[.v (.int .i64 j)]∧lo≤j∧j≤i∧d'.size=n∧insInner lt lo j d'=insInner lt lo i d1∧h' b=some (RowD 62 enc d' rest)∧∀ c,c≠b→h' c=h c) i ⟨i,d1,rfl,rfl,by omega,Nat.le_refl _,s1,rfl,hb1,ho1⟩ ?_
  rintro j vs cs mm2 bx2 h2 ⟨_,d2,rfl,rfl,j1,j2,s2,e2,hb2,ho2⟩
  conv=>whnf
  refine bsel_intro (fun q2=>?_) (fun q2=>?_) <;> try simp only [bsL] at q2
  ·obtain ⟨j',rfl⟩:∃ j',j=j'+1:=⟨j - 1,by omega⟩
   rw [insInner] at e2
   conv=>whnf
   (first | refine need_intro (⟨by omega,by omega⟩) ?_ | refine must.mk (⟨by omega,by omega⟩) ?_);conv=>whnf
   refine ⟨_,loadR aggE1 sizE1 S.len hb2 (j'+1) (by omega) (by omega),?_⟩;conv=>whnf
   (first | refine ov_c (by simp only [loK,hiK];omega) ?_ | refine ov_c (by decide) ?_);conv=>whnf
   (first | refine need_intro (⟨by omega,by omega⟩) ?_ | refine must.mk (⟨by omega,by omega⟩) ?_);conv=>whnf
   refine ⟨_,loadR aggE1 sizE1 S.len hb2 j' (by omega) (by omega),?_⟩;conv=>whnf
   refine aRunK_yv rfl rfl rfl (S.cmp _ _ _ _ fun c ec=>?_)
   refine ⟨trivial,?_⟩;conv=>whnf
   refine bsel_intro (fun q3=>?_) (fun q3=>?_) <;> try simp only [bsL] at q3
   ·rw [decide_eq_true q3] at ec
    rw [if_pos (by rw [← ec];simp;omega)] at e2
    conv=>whnf
    (first | refine ov_c (by simp only [loK,hiK];omega) ?_ | refine ov_c (by decide) ?_);conv=>whnf
    (first | refine ov_c (by simp only [loK,hiK];omega) ?_ | refine ov_c (by decide) ?_);conv=>whnf
    (first | refine need_intro (⟨by omega,by omega⟩) ?_ | refine must.mk (⟨by omega,by omega⟩) ?_);conv=>whnf
    refine ⟨_,loadR aggE1 sizE1 S.len hb2 j' (by omega) (by omega),?_⟩;conv=>whnf
    (first | refine need_intro (⟨by omega,by omega⟩) ?_ | refine must.mk (⟨by omega,by omega⟩) ?_);conv=>whnf
    refine ⟨_,loadR aggE1 sizE1 S.len hb2 (j'+1) (by omega) (by omega),?_⟩;conv=>whnf
    (first | refine need_intro (⟨by omega,by omega⟩) ?_ | refine must.mk (⟨by omega,by omega⟩) ?_);conv=>whnf
    refine wr_intro (by exact storeR sizE1 S.len S.one hb2 (j'+1) (by omega) (by omega) d2[j']!) (fun h3 at_h3 ot_h3=>?_)
    try (conv=>whnf)
    refine ⟨trivial,?_⟩;conv=>whnf
    (first | refine need_intro (⟨by omega,by omega⟩) ?_ | refine must.mk (⟨by omega,by omega⟩) ?_);conv=>whnf
    refine wr_intro (by exact storeR sizE1 S.len S.one at_h3 j' (by omega) (by rw [setIf_size];omega) d2[j'+1]!) (fun h4 at_h4 ot_h4=>?_)
    try (conv=>whnf)
    refine ⟨trivial,?_⟩;conv=>whnf
    (first | refine ov_c (by simp only [loK,hiK];omega) ?_ | refine ov_c (by decide) ?_);conv=>whnf
    refine ⟨j',by omega,j',swp d2 (j'+1) j',rfl,?_,by omega,by omega,by rw [swp_size];exact s2,e2,at_h4,fun c hc=>by rw [ot_h4 c hc,ot_h3 c hc];exact ho2 c hc⟩
    show [MV.v (Value.int .i64 (((j'+1:Nat):Int) - 1))]=_
    rw [show ((j'+1:Nat):Int) - 1=(j':Int) by omega]
   ·rw [decide_eq_false q3] at ec
    rw [if_neg (by rw [← ec];simp)] at e2
    have hend:insInner lt lo i d1=d2:=e2.symm
    have e2:d2=d2:=rfl
    conv=>whnf
    (first | refine ov_c (by simp only [loK,hiK];omega) ?_ | refine ov_c (by decide) ?_);conv=>whnf
    exact ⟨hi - (i+1),by omega,i+1,d2,rfl,rfl,by omega,s2,by rw [← e1,← e2,hend],hb2,ho2⟩
  ·have ej:j=lo:=by omega
   rw [ej,insInner_end] at e2
   have hend:insInner lt lo i d1=d2:=e2.symm
   have e2:d2=d2:=rfl
   conv=>whnf
   (first | refine ov_c (by simp only [loK,hiK];omega) ?_ | refine ov_c (by decide) ?_);conv=>whnf
   exact ⟨hi - (i+1),by omega,i+1,d2,rfl,rfl,by omega,s2,by rw [← e1,← e2,hend],hb2,ho2⟩
 ·rw [insOuter,if_neg (by omega)] at e1
  subst e1
  conv=>whnf
  exact hk _ hb1 ho1
end
end Go.Proofs.YtdhkjcdneidgaaaGreatDoor

namespace Go.Proofs.YtdhkjcdneidgaaaGreatDoor
set_option linter.unusedSimpArgs false
set_option linter.unusedVariables false
set_option linter.unusedSimpArgs false
set_option linter.unusedVariables false
open Go Go.Mid Go.RowKit
open Go.Sort (swp siftDown heapBuild heapPop heapSort reverseLoop reverseRange)
attribute [local irreducible] mid
section
set_option maxHeartbeats 8000000
set_option maxRecDepth 10000
variable {h:Hp} {K:Value→Hp→Prop}
variable {α:Type} [Inhabited α]
variable {enc:α→List Value} {lt:α→α→Bool} {y:Value}
theorem siftDown_size (hi first:Nat):∀ (k root:Nat) (d:Array α),hi - root≤k→(siftDown lt hi first root d).size=d.size
 | 0,root,d,hk=>by rw [siftDown,dif_pos (by omega)]
 | k+1,root,d,hk=>by
  rw [siftDown]
  split
  ·rfl
  ·split
   ·split
    ·rfl
    ·split
     ·rw [siftDown_size hi first k _ _ (by omega),swp_size]
     ·rfl
   ·split
    ·rfl
    ·rw [siftDown_size hi first k _ _ (by omega),swp_size]
theorem siftE_x (S:Srt1 enc lt y) {b cap n:Nat} {d:Array α} {rest:List Value} (lo hi first:Nat) (hb:h b=some (RowD 62 enc d rest)) (hd:d.size=n) (hsz:n<2 ^ 30) (hcap:n≤cap) (hlo:lo≤n) (hhi:first+hi≤n)
  (hk:∀ h',h' b=some (RowD 62 enc (siftDown lt hi first lo d) rest)→(∀ c,c≠b→h' c=h c)→K (.tuple #[]) h'):X Tryz.prog 125 #[.slice (some ⟨b,0,none⟩) n cap,.int .i64 lo,.int .i64 hi,.int .i64 first,y] h K:=by
 refine fnv (args:=_) mixed [] [] [] Tryz.func125 rfl (by kernel_rfl) ?_;conv=>whnf
 refine loop_at [10] [] (fun r vs _ h'=>∃ (root:Nat) (d':Array α),hi - root=r∧vs=[.v (.int .i64 root)]∧root≤n∧d'.size=n∧siftDown lt hi first root d'=siftDown lt hi first lo d∧h' b=some (RowD 62 enc d' rest)∧∀ c,c≠b→h' c=h c) (hi - lo) ⟨lo,d,rfl,rfl,hlo,hd,rfl,hb,fun _ _=>rfl⟩ ?_
 rintro r vs cs mm bx h1 ⟨root,d1,rfl,rfl,i1,s1,e1,hb1,ho1⟩
 rw [siftDown] at e1
 conv=>whnf
 (first | refine ov_c (by simp only [loK,hiK];omega) ?_ | refine ov_c (by decide) ?_);conv=>whnf
 (first | refine ov_c (by simp only [loK,hiK];omega) ?_ | refine ov_c (by decide) ?_);conv=>whnf
 refine bsel_intro (fun q1=>?_) (fun q1=>?_) <;> try simp only [bsL] at q1
 ·rw [dif_pos (by omega)] at e1
  subst e1
  conv=>whnf
  exact hk _ hb1 ho1
 ·rw [dif_neg (by omega)] at e1
  conv=>whnf
  (first | refine ov_c (by simp only [loK,hiK];omega) ?_ | refine ov_c (by decide) ?_);conv=>whnf
  refine bsel_intro (fun q2=>?_) (fun q2=>?_) <;> try simp only [bsL] at q2
  ·conv=>whnf
   (first | refine ov_c (by simp only [loK,hiK];omega) ?_ | refine ov_c (by decide) ?_);conv=>whnf
   (first | refine need_intro (⟨by omega,by omega⟩) ?_ | refine must.mk (⟨by omega,by omega⟩) ?_);conv=>whnf
   refine ⟨_,loadR aggE1 sizE1 S.len hb1 (first+(2*root+1)) (by omega) (by omega),?_⟩;conv=>whnf
   (first | refine ov_c (by simp only [loK,hiK];omega) ?_ | refine ov_c (by decide) ?_);conv=>whnf
   (first | refine ov_c (by simp only [loK,hiK];omega) ?_ | refine ov_c (by decide) ?_);conv=>whnf
   (first | refine need_intro (⟨by omega,by omega⟩) ?_ | refine must.mk (⟨by omega,by omega⟩) ?_);conv=>whnf
   refine ⟨_,loadR aggE1 sizE1 S.len hb1 (first+(2*root+1)+1) (by omega) (by omega),?_⟩;conv=>whnf
   refine aRunK_yv rfl rfl rfl (S.cmp _ _ _ _ fun c ec=>?_)
   refine ⟨trivial,?_⟩;conv=>whnf
   refine bsel_intro (fun q3=>?_) (fun q3=>?_) <;> try simp only [bsL] at q3
   ·rw [decide_eq_true q3] at ec
    rw [if_pos (by rw [← ec];simp;omega),dif_pos (show 2*root+2<hi by omega)] at e1
    have hch:2*root+2<hi:=by omega
    conv=>whnf
    (first | refine ov_c (by simp only [loK,hiK];omega) ?_ | refine ov_c (by decide) ?_);conv=>whnf
    obtain ⟨ch,hce⟩:∃ ch,ch=2*root+2:=⟨_,rfl⟩
    rw [← hce] at e1 hch
    conv=>whnf
    (first | refine ov_c (by simp only [loK,hiK];omega) ?_ | refine ov_c (by decide) ?_);conv=>whnf
    (first | refine need_intro (⟨by omega,by omega⟩) ?_ | refine must.mk (⟨by omega,by omega⟩) ?_);conv=>whnf
    refine ⟨_,loadR aggE1 sizE1 S.len hb1 (first+root) (by omega) (by omega),?_⟩;conv=>whnf
    (first | refine ov_c (by simp only [loK,hiK];omega) ?_ | refine ov_c (by decide) ?_);conv=>whnf
    (first | refine need_intro (⟨by omega,by omega⟩) ?_ | refine must.mk (⟨by omega,by omega⟩) ?_);conv=>whnf
    refine ⟨_,loadR aggE1 sizE1 S.len hb1 (first+ch) (by omega) (by omega),?_⟩;conv=>whnf
    refine aRunK_yv rfl rfl rfl (S.cmp _ _ _ _ fun c2 ec2=>?_)
    refine ⟨trivial,?_⟩;conv=>whnf
    refine bsel_intro (fun q5=>?_) (fun q5=>?_) <;> try simp only [bsL] at q5
    ·rw [decide_eq_false q5] at ec2
     rw [if_pos (by rw [← ec2];simp)] at e1
     subst e1
     conv=>whnf
     exact hk _ hb1 ho1
    ·rw [decide_eq_true q5] at ec2
     rw [if_neg (by rw [← ec2];simp)] at e1
     conv=>whnf
     (first | refine ov_c (by simp only [loK,hiK];omega) ?_ | refine ov_c (by decide) ?_);conv=>whnf
     (first | refine ov_c (by simp only [loK,hiK];omega) ?_ | refine ov_c (by decide) ?_);conv=>whnf
     (first | refine ov_c (by simp only [loK,hiK];omega) ?_ | refine ov_c (by decide) ?_);conv=>whnf
     (first | refine need_intro (⟨by omega,by omega⟩) ?_ | refine must.mk (⟨by omega,by omega⟩) ?_);conv=>whnf
     refine ⟨_,loadR aggE1 sizE1 S.len hb1 (first+ch) (by omega) (by omega),?_⟩;conv=>whnf
     (first | refine ov_c (by simp only [loK,hiK];omega) ?_ | refine ov_c (by decide) ?_);conv=>whnf
     (first | refine need_intro (⟨by omega,by omega⟩) ?_ | refine must.mk (⟨by omega,by omega⟩) ?_);conv=>whnf
     refine ⟨_,loadR aggE1 sizE1 S.len hb1 (first+root) (by omega) (by omega),?_⟩;conv=>whnf
     (first | refine need_intro (⟨by omega,by omega⟩) ?_ | refine must.mk (⟨by omega,by omega⟩) ?_);conv=>whnf
     refine wr_intro (by exact storeR sizE1 S.len S.one hb1 (first+root) (by omega) (by omega) d1[first+ch]!) (fun h3 at_h3 ot_h3=>?_)
     try (conv=>whnf)
     refine ⟨trivial,?_⟩;conv=>whnf
     (first | refine need_intro (⟨by omega,by omega⟩) ?_ | refine must.mk (⟨by omega,by omega⟩) ?_);conv=>whnf
     refine wr_intro (by exact storeR sizE1 S.len S.one at_h3 (first+ch) (by omega) (by rw [setIf_size];omega) d1[first+root]!) (fun h4 at_h4 ot_h4=>?_)
     try (conv=>whnf)
     refine ⟨trivial,?_⟩;conv=>whnf
     refine ⟨hi - ch,by omega,ch,swp d1 (first+root) (first+ch),rfl,?_,by omega,by rw [swp_size];exact s1,e1,at_h4,fun c hc=>by rw [ot_h4 c hc,ot_h3 c hc];exact ho1 c hc⟩
     show [MV.v (Value.int .i64 _)]=_
     congr 3
     omega
   ·rw [decide_eq_false q3] at ec
    rw [if_neg (by rw [← ec];simp)] at e1
    have hch:2*root+1<hi:=by omega
    obtain ⟨ch,hce⟩:∃ ch,ch=2*root+1:=⟨_,rfl⟩
    rw [← hce] at e1 hch
    conv=>whnf
    (first | refine ov_c (by simp only [loK,hiK];omega) ?_ | refine ov_c (by decide) ?_);conv=>whnf
    (first | refine need_intro (⟨by omega,by omega⟩) ?_ | refine must.mk (⟨by omega,by omega⟩) ?_);conv=>whnf
    refine ⟨_,loadR aggE1 sizE1 S.len hb1 (first+root) (by omega) (by omega),?_⟩;conv=>whnf
    (first | refine ov_c (by simp only [loK,hiK];omega) ?_ | refine ov_c (by decide) ?_);conv=>whnf
    (first | refine need_intro (⟨by omega,by omega⟩) ?_ | refine must.mk (⟨by omega,by omega⟩) ?_);conv=>whnf
    refine ⟨_,loadR aggE1 sizE1 S.len hb1 (first+ch) (by omega) (by omega),?_⟩;conv=>whnf
    refine aRunK_yv rfl rfl rfl (S.cmp _ _ _ _ fun c2 ec2=>?_)
    refine ⟨trivial,?_⟩;conv=>whnf
    refine bsel_intro (fun q5=>?_) (fun q5=>?_) <;> try simp only [bsL] at q5
    ·rw [decide_eq_false q5] at ec2
     rw [if_pos (by rw [← ec2];simp)] at e1
     subst e1
     conv=>whnf
     exact hk _ hb1 ho1
    ·rw [decide_eq_true q5] at ec2
     rw [if_neg (by rw [← ec2];simp)] at e1
     conv=>whnf
     (first | refine ov_c (by simp only [loK,hiK];omega) ?_ | refine ov_c (by decide) ?_);conv=>whnf
     (first | refine ov_c (by simp only [loK,hiK];omega) ?_ | refine ov_c (by decide) ?_);conv=>whnf
     (first | refine ov_c (by simp only [loK,hiK];omega) ?_ | refine ov_c (by decide) ?_);conv=>whnf
     (first | refine need_intro (⟨by omega,by omega⟩) ?_ | refine must.mk (⟨by omega,by omega⟩) ?_);conv=>whnf
     refine ⟨_,loadR aggE1 sizE1 S.len hb1 (first+ch) (by omega) (by omega),?_⟩;conv=>whnf
     (first | refine ov_c (by simp only [loK,hiK];omega) ?_ | refine ov_c (by decide) ?_);conv=>whnf
     (first | refine need_intro (⟨by omega,by omega⟩) ?_ | refine must.mk (⟨by omega,by omega⟩) ?_);conv=>whnf
     refine ⟨_,loadR aggE1 sizE1 S.len hb1 (first+root) (by omega) (by omega),?_⟩;conv=>whnf
     (first | refine need_intro (⟨by omega,by omega⟩) ?_ | refine must.mk (⟨by omega,by omega⟩) ?_);conv=>whnf
     refine wr_intro (by exact storeR sizE1 S.len S.one hb1 (first+root) (by omega) (by omega) d1[first+ch]!) (fun h3 at_h3 ot_h3=>?_)
     try (conv=>whnf)
     refine ⟨trivial,?_⟩;conv=>whnf
     (first | refine need_intro (⟨by omega,by omega⟩) ?_ | refine must.mk (⟨by omega,by omega⟩) ?_);conv=>whnf
     refine wr_intro (by exact storeR sizE1 S.len S.one at_h3 (first+ch) (by omega) (by rw [setIf_size];omega) d1[first+root]!) (fun h4 at_h4 ot_h4=>?_)
     try (conv=>whnf)
     refine ⟨trivial,?_⟩;conv=>whnf
     refine ⟨hi - ch,by omega,ch,swp d1 (first+root) (first+ch),rfl,?_,by omega,by rw [swp_size];exact s1,e1,at_h4,fun c hc=>by rw [ot_h4 c hc,ot_h3 c hc];exact ho1 c hc⟩
     show [MV.v (Value.int .i64 _)]=_
     congr 3
     omega
  ·rw [if_neg (by simp;omega)] at e1
   have hch:2*root+1<hi:=by omega
   obtain ⟨ch,hce⟩:∃ ch,ch=2*root+1:=⟨_,rfl⟩
   rw [← hce] at e1 hch
   conv=>whnf
   (first | refine ov_c (by simp only [loK,hiK];omega) ?_ | refine ov_c (by decide) ?_);conv=>whnf
   (first | refine need_intro (⟨by omega,by omega⟩) ?_ | refine must.mk (⟨by omega,by omega⟩) ?_);conv=>whnf
   refine ⟨_,loadR aggE1 sizE1 S.len hb1 (first+root) (by omega) (by omega),?_⟩;conv=>whnf
   (first | refine ov_c (by simp only [loK,hiK];omega) ?_ | refine ov_c (by decide) ?_);conv=>whnf
   (first | refine need_intro (⟨by omega,by omega⟩) ?_ | refine must.mk (⟨by omega,by omega⟩) ?_);conv=>whnf
   refine ⟨_,loadR aggE1 sizE1 S.len hb1 (first+ch) (by omega) (by omega),?_⟩;conv=>whnf
   refine aRunK_yv rfl rfl rfl (S.cmp _ _ _ _ fun c2 ec2=>?_)
   refine ⟨trivial,?_⟩;conv=>whnf
   refine bsel_intro (fun q5=>?_) (fun q5=>?_) <;> try simp only [bsL] at q5
   ·rw [decide_eq_false q5] at ec2
    rw [if_pos (by rw [← ec2];simp)] at e1
    subst e1
    conv=>whnf
    exact hk _ hb1 ho1
   ·rw [decide_eq_true q5] at ec2
    rw [if_neg (by rw [← ec2];simp)] at e1
    conv=>whnf
    (first | refine ov_c (by simp only [loK,hiK];omega) ?_ | refine ov_c (by decide) ?_);conv=>whnf
    (first | refine ov_c (by simp only [loK,hiK];omega) ?_ | refine ov_c (by decide) ?_);conv=>whnf
    (first | refine ov_c (by simp only [loK,hiK];omega) ?_ | refine ov_c (by decide) ?_);conv=>whnf
    (first | refine need_intro (⟨by omega,by omega⟩) ?_ | refine must.mk (⟨by omega,by omega⟩) ?_);conv=>whnf
    refine ⟨_,loadR aggE1 sizE1 S.len hb1 (first+ch) (by omega) (by omega),?_⟩;conv=>whnf
    (first | refine ov_c (by simp only [loK,hiK];omega) ?_ | refine ov_c (by decide) ?_);conv=>whnf
    (first | refine need_intro (⟨by omega,by omega⟩) ?_ | refine must.mk (⟨by omega,by omega⟩) ?_);conv=>whnf
    refine ⟨_,loadR aggE1 sizE1 S.len hb1 (first+root) (by omega) (by omega),?_⟩;conv=>whnf
    (first | refine need_intro (⟨by omega,by omega⟩) ?_ | refine must.mk (⟨by omega,by omega⟩) ?_);conv=>whnf
    refine wr_intro (by exact storeR sizE1 S.len S.one hb1 (first+root) (by omega) (by omega) d1[first+ch]!) (fun h3 at_h3 ot_h3=>?_)
    try (conv=>whnf)
    refine ⟨trivial,?_⟩;conv=>whnf
    (first | refine need_intro (⟨by omega,by omega⟩) ?_ | refine must.mk (⟨by omega,by omega⟩) ?_);conv=>whnf
    refine wr_intro (by exact storeR sizE1 S.len S.one at_h3 (first+ch) (by omega) (by rw [setIf_size];omega) d1[first+root]!) (fun h4 at_h4 ot_h4=>?_)
    try (conv=>whnf)
    refine ⟨trivial,?_⟩;conv=>whnf
    refine ⟨hi - ch,by omega,ch,swp d1 (first+root) (first+ch),rfl,?_,by omega,by rw [swp_size];exact s1,e1,at_h4,fun c hc=>by rw [ot_h4 c hc,ot_h3 c hc];exact ho1 c hc⟩
    show [MV.v (Value.int .i64 _)]=_
    congr 3
    omega
theorem heapE_x (S:Srt1 enc lt y) {b cap n:Nat} {d:Array α} {rest:List Value} (lo hi:Nat) (hb:h b=some (RowD 62 enc d rest)) (hd:d.size=n) (hsz:n<2 ^ 30) (hcap:n≤cap) (hlh:lo<hi) (hhi:hi≤n)
  (hk:∀ h',h' b=some (RowD 62 enc (heapSort lt d lo hi) rest)→(∀ c,c≠b→h' c=h c)→K (.tuple #[]) h'):X Tryz.prog 92 #[.slice (some ⟨b,0,none⟩) n cap,.int .i64 lo,.int .i64 hi,y] h K:=by
 obtain ⟨m,rfl⟩:∃ m,hi=lo+m:=⟨hi - lo,by omega⟩
 have hm:lo+m - lo=m:=by omega
 unfold heapSort at hk
 rw [hm] at hk
 have hM:((lo+m:Nat):Int) - (lo:Int)=(m:Int):=by omega
 have td:((m:Int) - 1).tdiv 2=(((m - 1) / 2:Nat):Int):=by
  rw [show (m:Int) - 1=((m - 1:Nat):Int) by omega];rfl
 refine fnv (args:=_) mixed [] [] [] Tryz.func92 rfl (by kernel_rfl) ?_;conv=>whnf
 refine ov_eq hM (by omega) ?_
 conv=>whnf
 (first | refine ov_c (by simp only [loK,hiK];omega) ?_ | refine ov_c (by decide) ?_);conv=>whnf
 refine ov_eq td (by omega) ?_
 conv=>whnf
 refine loop_at [11] [] (fun r vs _ h'=>∃ (k:Nat) (i:Int) (d':Array α),k=r∧i+1=k∧vs=[.v (.int .i64 i)]∧k≤m∧d'.size=n∧heapBuild lt m lo k d'=heapBuild lt m lo ((m - 1) / 2+1) d∧h' b=some (RowD 62 enc d' rest)∧∀ c,c≠b→h' c=h c) ((m - 1) / 2+1) ⟨_,(((m - 1) / 2:Nat):Int),d,rfl,by omega,rfl,by omega,hd,rfl,hb,fun _ _=>rfl⟩ ?_
 rintro r vs cs mm bx h1 ⟨k,i,d1,rfl,hik,rfl,i1,s1,e1,hb1,ho1⟩
 conv=>whnf
 refine bsel_intro (fun q1=>?_) (fun q1=>?_) <;> try simp only [bsL] at q1
 ·obtain ⟨k',rfl⟩:∃ k',k=k'+1:=⟨k - 1,by omega⟩
  obtain rfl:i=(k':Int):=by omega
  rw [heapBuild] at e1
  conv=>whnf
  refine siftE_x S k' m lo hb1 s1 hsz hcap (by omega) (by omega) fun h2 hb2 ho2=>?_
  conv=>whnf
  (first | refine ov_c (by simp only [loK,hiK];omega) ?_ | refine ov_c (by decide) ?_);conv=>whnf
  exact ⟨k',by omega,k',(k':Int) - 1,_,rfl,by omega,rfl,by omega,by rw [siftDown_size _ _ _ _ _ (Nat.le_refl _)];exact s1,e1,hb2,fun c hc=>by rw [ho2 c hc];exact ho1 c hc⟩
 ·obtain rfl:k=0:=by omega
  rw [show heapBuild lt m lo 0 d1=d1 from rfl] at e1
  rw [← e1] at hk
  conv=>whnf
  (first | refine ov_c (by simp only [loK,hiK];omega) ?_ | refine ov_c (by decide) ?_);conv=>whnf
  refine loop_at [12] [] (fun r vs _ h'=>∃ (k:Nat) (i:Int) (d':Array α),k=r∧i+1=k∧vs=[.v (.int .i64 i)]∧k≤m∧d'.size=n∧heapPop lt lo k d'=heapPop lt lo m d1∧h' b=some (RowD 62 enc d' rest)∧∀ c,c≠b→h' c=h c) m ⟨_,(m:Int) - 1,d1,rfl,by omega,rfl,by omega,s1,rfl,hb1,ho1⟩ ?_
  rintro r vs cs mm bx h2 ⟨k,i,d2,rfl,hik,rfl,i2,s2,e2,hb2,ho2⟩
  conv=>whnf
  refine bsel_intro (fun q2=>?_) (fun q2=>?_) <;> try simp only [bsL] at q2
  ·obtain ⟨k',rfl⟩:∃ k',k=k'+1:=⟨k - 1,by omega⟩
   obtain rfl:i=(k':Int):=by omega
   rw [heapPop] at e2
   conv=>whnf
   (first | refine ov_c (by simp only [loK,hiK];omega) ?_ | refine ov_c (by decide) ?_);conv=>whnf
   (first | refine ov_c (by simp only [loK,hiK];omega) ?_ | refine ov_c (by decide) ?_);conv=>whnf
   (first | refine need_intro (⟨by omega,by omega⟩) ?_ | refine must.mk (⟨by omega,by omega⟩) ?_);conv=>whnf
   refine ⟨_,loadR aggE1 sizE1 S.len hb2 (lo+k') (by omega) (by omega),?_⟩;conv=>whnf
   (first | refine need_intro (⟨by omega,by omega⟩) ?_ | refine must.mk (⟨by omega,by omega⟩) ?_);conv=>whnf
   refine ⟨_,loadR aggE1 sizE1 S.len hb2 lo (by omega) (by omega),?_⟩;conv=>whnf
   (first | refine need_intro (⟨by omega,by omega⟩) ?_ | refine must.mk (⟨by omega,by omega⟩) ?_);conv=>whnf
   refine wr_intro (by exact storeR sizE1 S.len S.one hb2 lo (by omega) (by omega) d2[lo+k']!) (fun h3 at_h3 ot_h3=>?_)
   try (conv=>whnf)
   refine ⟨trivial,?_⟩;conv=>whnf
   (first | refine need_intro (⟨by omega,by omega⟩) ?_ | refine must.mk (⟨by omega,by omega⟩) ?_);conv=>whnf
   refine wr_intro (by exact storeR sizE1 S.len S.one at_h3 (lo+k') (by omega) (by rw [setIf_size];omega) d2[lo]!) (fun h4 at_h4 ot_h4=>?_)
   try (conv=>whnf)
   refine ⟨trivial,?_⟩;conv=>whnf
   have hb4:h4 b=some (RowD 62 enc (swp d2 lo (lo+k')) rest):=at_h4
   conv=>whnf
   refine siftE_x S 0 k' lo hb4 (by rw [swp_size];exact s2) hsz hcap (by omega) (by omega) fun h5 hb5 ho5=>?_
   conv=>whnf
   (first | refine ov_c (by simp only [loK,hiK];omega) ?_ | refine ov_c (by decide) ?_);conv=>whnf
   exact ⟨k',by omega,k',(k':Int) - 1,_,rfl,by omega,rfl,by omega,by rw [siftDown_size _ _ _ _ _ (Nat.le_refl _),swp_size];exact s2,e2,hb5,fun c hc=>by rw [ho5 c hc,ot_h4 c hc,ot_h3 c hc];exact ho2 c hc⟩
  ·obtain rfl:k=0:=by omega
   rw [show heapPop lt lo 0 d2=d2 from rfl] at e2
   rw [← e2] at hk
   conv=>whnf
   exact hk _ hb2 ho2
theorem reverseE_x (S:Srt1 enc lt y) {b cap n:Nat} {d:Array α} {rest:List Value} (lo hi:Nat) (hb:h b=some (RowD 62 enc d rest)) (hd:d.size=n) (hsz:n<2 ^ 30) (hcap:n≤cap) (hlh:lo<hi) (hhi:hi≤n)
  (hk:∀ h',h' b=some (RowD 62 enc (reverseRange d lo hi) rest)→(∀ c,c≠b→h' c=h c)→K (.tuple #[]) h'):X Tryz.prog 95 #[.slice (some ⟨b,0,none⟩) n cap,.int .i64 lo,.int .i64 hi,y] h K:=by
 unfold reverseRange at hk
 refine fnv (args:=_) mixed [] [] [] Tryz.func95 rfl (by kernel_rfl) ?_;conv=>whnf
 refine ov_eq (show (hi:Int) - 1=((hi - 1:Nat):Int) by omega) (by omega) ?_
 conv=>whnf
 refine loop_at [8,9] [] (fun r vs _ h'=>∃ (i j:Nat) (d':Array α),j - i=r∧vs=[.v (.int .i64 i),.v (.int .i64 j)]∧lo≤i∧j<hi∧i≤j+1∧d'.size=n∧reverseLoop i j d'=reverseLoop lo (hi - 1) d∧h' b=some (RowD 62 enc d' rest)∧∀ c,c≠b→h' c=h c) (hi - 1 - lo) ⟨lo,hi - 1,d,rfl,rfl,by omega,by omega,by omega,hd,rfl,hb,fun _ _=>rfl⟩ ?_
 rintro r vs cs mm bx h1 ⟨i,j,d1,rfl,rfl,i1,i2,i3,s1,e1,hb1,ho1⟩
 rw [reverseLoop] at e1
 conv=>whnf
 refine bsel_intro (fun q1=>?_) (fun q1=>?_) <;> try simp only [bsL] at q1
 ·rw [if_pos (by omega)] at e1
  conv=>whnf
  (first | refine need_intro (⟨by omega,by omega⟩) ?_ | refine must.mk (⟨by omega,by omega⟩) ?_);conv=>whnf
  refine ⟨_,loadR aggE1 sizE1 S.len hb1 j (by omega) (by omega),?_⟩;conv=>whnf
  (first | refine need_intro (⟨by omega,by omega⟩) ?_ | refine must.mk (⟨by omega,by omega⟩) ?_);conv=>whnf
  refine ⟨_,loadR aggE1 sizE1 S.len hb1 i (by omega) (by omega),?_⟩;conv=>whnf
  (first | refine need_intro (⟨by omega,by omega⟩) ?_ | refine must.mk (⟨by omega,by omega⟩) ?_);conv=>whnf
  refine wr_intro (by exact storeR sizE1 S.len S.one hb1 i (by omega) (by omega) d1[j]!) (fun h3 at_h3 ot_h3=>?_)
  try (conv=>whnf)
  refine ⟨trivial,?_⟩;conv=>whnf
  (first | refine need_intro (⟨by omega,by omega⟩) ?_ | refine must.mk (⟨by omega,by omega⟩) ?_);conv=>whnf
  refine wr_intro (by exact storeR sizE1 S.len S.one at_h3 j (by omega) (by rw [setIf_size];omega) d1[i]!) (fun h4 at_h4 ot_h4=>?_)
  try (conv=>whnf)
  refine ⟨trivial,?_⟩;conv=>whnf
  (first | refine ov_c (by simp only [loK,hiK];omega) ?_ | refine ov_c (by decide) ?_);conv=>whnf
  refine ov_eq (show (j:Int) - 1=((j - 1:Nat):Int) by omega) (by omega) ?_
  conv=>whnf
  exact ⟨j - 1 - (i+1),by omega,i+1,j - 1,_,rfl,rfl,by omega,by omega,by omega,by rw [swp_size];exact s1,e1,at_h4,fun c hc=>by rw [ot_h4 c hc,ot_h3 c hc];exact ho1 c hc⟩
 ·rw [if_neg (by omega)] at e1
  rw [← e1] at hk
  conv=>whnf
  exact hk _ hb1 ho1
end
end Go.Proofs.YtdhkjcdneidgaaaGreatDoor
