/-
  Sorting of heats: the pivot.
-/
import Derived.Test.YtdhkjcdneidgaaaGreatDoorPdqA
set_option linter.unusedSimpArgs false
set_option linter.unusedVariables false
set_option maxHeartbeats 8000000
set_option maxRecDepth 10000
set_option linter.unusedSimpArgs false
set_option linter.unusedVariables false
namespace Go.Proofs.YtdhkjcdneidgaaaGreatDoor
open Go Go.Mid Go.RowKit
open Go.Sort (swp siftDown heapBuild heapPop heapSort reverseLoop reverseRange)
attribute [local irreducible] mid
section
variable {h:Hp} {K:Value→Hp→Prop}
variable {α:Type} [Inhabited α]
variable {enc:α→List Value} {lt:α→α→Bool} {y:Value}
theorem siftDown_size (hi first:Nat):∀ (k root:Nat) (d:Array α),hi - root≤k→(siftDown lt hi first root d).size=d.size
 | 0,root,d,hk=>by rw [siftDown,dif_pos (by omega)]
 | k+1,root,d,hk=>by
  rw [siftDown]
  split
  ·rfl
  ·split
   ·split
    ·rfl
    ·split
     ·rw [siftDown_size hi first k _ _ (by omega),swp_size]
     ·rfl
   ·split
    ·rfl
    ·rw [siftDown_size hi first k _ _ (by omega),swp_size]
theorem siftE_x (S:Srt1 enc lt y) {b cap n:Nat} {d:Array α} {rest:List Value} (lo hi first:Nat) (hb:h b=some (RowD 62 enc d rest)) (hd:d.size=n) (hsz:n<2 ^ 30) (hcap:n≤cap) (hlo:lo≤n) (hhi:first+hi≤n)
  (hk:∀ h',h' b=some (RowD 62 enc (siftDown lt hi first lo d) rest)→(∀ c,c≠b→h' c=h c)→K (.tuple #[]) h'):X Tryz.prog 125 #[.slice (some ⟨b,0,none⟩) n cap,.int .i64 lo,.int .i64 hi,.int .i64 first,y] h K:=by
 refine fnv (args:=_) mixed [] [] [] Tryz.func125 rfl (by kernel_rfl) (cw_ ?_)
 refine loop_at [10] [] (fun r vs _ h'=>∃ (root:Nat) (d':Array α),hi - root=r∧vs=[.v (.int .i64 root)]∧root≤n∧d'.size=n∧siftDown lt hi first root d'=siftDown lt hi first lo d∧h' b=some (RowD 62 enc d' rest)∧∀ c,c≠b→h' c=h c) (hi - lo) ⟨lo,d,rfl,rfl,hlo,hd,rfl,hb,fun _ _=>rfl⟩ ?_
 rintro r vs cs mm bx h1 ⟨root,d1,rfl,rfl,i1,s1,e1,hb1,ho1⟩
 rw [siftDown] at e1
 conv=>whnf
 refine n_ ?_
 refine n_ ?_
 refine br_ (fun q1=>?_) fun q1=>?_
 ·rw [dif_pos (by omega)] at e1
  subst e1
  conv=>whnf
  exact hk _ hb1 ho1
 ·rw [dif_neg (by omega)] at e1
  conv=>whnf
  refine n_ ?_
  refine br_ (fun q2=>?_) fun q2=>?_
  ·conv=>whnf
   refine n_ ?_
   refine n_ ?_
   refine ⟨_,loadR aggE1 sizE1 S.len hb1 (first+(2*root+1)) (by omega) (by omega),cw_ ?_⟩
   refine n_ ?_
   refine n_ ?_
   refine n_ ?_
   refine ⟨_,loadR aggE1 sizE1 S.len hb1 (first+(2*root+1)+1) (by omega) (by omega),cw_ ?_⟩
   refine aRunK_yv rfl rfl rfl (S.cmp _ _ _ _ fun c ec=>?_)
   refine ⟨trivial,cw_ ?_⟩
   refine br_ (fun q3=>?_) fun q3=>?_
   ·rw [decide_eq_true q3] at ec
    rw [if_pos (by rw [← ec];simp;omega),dif_pos (show 2*root+2<hi by omega)] at e1
    have hch:2*root+2<hi:=by omega
    conv=>whnf
    refine n_ ?_
    obtain ⟨ch,hce⟩:∃ ch,ch=2*root+2:=⟨_,rfl⟩
    rw [← hce] at e1 hch
    conv=>whnf
    refine n_ ?_
    refine n_ ?_
    refine ⟨_,loadR aggE1 sizE1 S.len hb1 (first+root) (by omega) (by omega),cw_ ?_⟩
    refine n_ ?_
    refine n_ ?_
    refine ⟨_,loadR aggE1 sizE1 S.len hb1 (first+ch) (by omega) (by omega),cw_ ?_⟩
    refine aRunK_yv rfl rfl rfl (S.cmp _ _ _ _ fun c2 ec2=>?_)
    refine ⟨trivial,cw_ ?_⟩
    refine br_ (fun q5=>?_) fun q5=>?_
    ·rw [decide_eq_false q5] at ec2
     rw [if_pos (by rw [← ec2];simp)] at e1
     subst e1
     conv=>whnf
     exact hk _ hb1 ho1
    ·rw [decide_eq_true q5] at ec2
     rw [if_neg (by rw [← ec2];simp)] at e1
     conv=>whnf
     refine n_ ?_
     refine n_ ?_
     refine n_ ?_
     refine n_ ?_
     refine ⟨_,loadR aggE1 sizE1 S.len hb1 (first+ch) (by omega) (by omega),cw_ ?_⟩
     refine n_ ?_
     refine n_ ?_
     refine ⟨_,loadR aggE1 sizE1 S.len hb1 (first+root) (by omega) (by omega),cw_ ?_⟩
     refine n_ ?_
     refine wr_intro (by exact storeR sizE1 S.len S.one hb1 (first+root) (by omega) (by omega) d1[first+ch]!) (fun h3 at_h3 ot_h3=>cw_ ?_)
     refine ⟨trivial,cw_ ?_⟩
     refine n_ ?_
     refine wr_intro (by exact storeR sizE1 S.len S.one at_h3 (first+ch) (by omega) (by rw [setIf_size];omega) d1[first+root]!) (fun h4 at_h4 ot_h4=>cw_ ?_)
     refine ⟨trivial,cw_ ?_⟩
     refine ⟨hi - ch,by omega,ch,swp d1 (first+root) (first+ch),rfl,?_,by omega,by rw [swp_size];exact s1,e1,at_h4,fun c hc=>by rw [ot_h4 c hc,ot_h3 c hc];exact ho1 c hc⟩
     show [MV.v (Value.int .i64 _)]=_
     congr 3
     omega
   ·rw [decide_eq_false q3] at ec
    rw [if_neg (by rw [← ec];simp)] at e1
    have hch:2*root+1<hi:=by omega
    obtain ⟨ch,hce⟩:∃ ch,ch=2*root+1:=⟨_,rfl⟩
    rw [← hce] at e1 hch
    conv=>whnf
    refine n_ ?_
    refine n_ ?_
    refine ⟨_,loadR aggE1 sizE1 S.len hb1 (first+root) (by omega) (by omega),cw_ ?_⟩
    refine n_ ?_
    refine n_ ?_
    refine ⟨_,loadR aggE1 sizE1 S.len hb1 (first+ch) (by omega) (by omega),cw_ ?_⟩
    refine aRunK_yv rfl rfl rfl (S.cmp _ _ _ _ fun c2 ec2=>?_)
    refine ⟨trivial,cw_ ?_⟩
    refine br_ (fun q5=>?_) fun q5=>?_
    ·rw [decide_eq_false q5] at ec2
     rw [if_pos (by rw [← ec2];simp)] at e1
     subst e1
     conv=>whnf
     exact hk _ hb1 ho1
    ·rw [decide_eq_true q5] at ec2
     rw [if_neg (by rw [← ec2];simp)] at e1
     conv=>whnf
     refine n_ ?_
     refine n_ ?_
     refine n_ ?_
     refine n_ ?_
     refine ⟨_,loadR aggE1 sizE1 S.len hb1 (first+ch) (by omega) (by omega),cw_ ?_⟩
     refine n_ ?_
     refine n_ ?_
     refine ⟨_,loadR aggE1 sizE1 S.len hb1 (first+root) (by omega) (by omega),cw_ ?_⟩
     refine n_ ?_
     refine wr_intro (by exact storeR sizE1 S.len S.one hb1 (first+root) (by omega) (by omega) d1[first+ch]!) (fun h3 at_h3 ot_h3=>cw_ ?_)
     refine ⟨trivial,cw_ ?_⟩
     refine n_ ?_
     refine wr_intro (by exact storeR sizE1 S.len S.one at_h3 (first+ch) (by omega) (by rw [setIf_size];omega) d1[first+root]!) (fun h4 at_h4 ot_h4=>cw_ ?_)
     refine ⟨trivial,cw_ ?_⟩
     refine ⟨hi - ch,by omega,ch,swp d1 (first+root) (first+ch),rfl,?_,by omega,by rw [swp_size];exact s1,e1,at_h4,fun c hc=>by rw [ot_h4 c hc,ot_h3 c hc];exact ho1 c hc⟩
     show [MV.v (Value.int .i64 _)]=_
     congr 3
     omega
  ·rw [if_neg (by simp;omega)] at e1
   have hch:2*root+1<hi:=by omega
   obtain ⟨ch,hce⟩:∃ ch,ch=2*root+1:=⟨_,rfl⟩
   rw [← hce] at e1 hch
   conv=>whnf
   refine n_ ?_
   refine n_ ?_
   refine ⟨_,loadR aggE1 sizE1 S.len hb1 (first+root) (by omega) (by omega),cw_ ?_⟩
   refine n_ ?_
   refine n_ ?_
   refine ⟨_,loadR aggE1 sizE1 S.len hb1 (first+ch) (by omega) (by omega),cw_ ?_⟩
   refine aRunK_yv rfl rfl rfl (S.cmp _ _ _ _ fun c2 ec2=>?_)
   refine ⟨trivial,cw_ ?_⟩
   refine br_ (fun q5=>?_) fun q5=>?_
   ·rw [decide_eq_false q5] at ec2
    rw [if_pos (by rw [← ec2];simp)] at e1
    subst e1
    conv=>whnf
    exact hk _ hb1 ho1
   ·rw [decide_eq_true q5] at ec2
    rw [if_neg (by rw [← ec2];simp)] at e1
    conv=>whnf
    refine n_ ?_
    refine n_ ?_
    refine n_ ?_
    refine n_ ?_
    refine ⟨_,loadR aggE1 sizE1 S.len hb1 (first+ch) (by omega) (by omega),cw_ ?_⟩
    refine n_ ?_
    refine n_ ?_
    refine ⟨_,loadR aggE1 sizE1 S.len hb1 (first+root) (by omega) (by omega),cw_ ?_⟩
    refine n_ ?_
    refine wr_intro (by exact storeR sizE1 S.len S.one hb1 (first+root) (by omega) (by omega) d1[first+ch]!) (fun h3 at_h3 ot_h3=>cw_ ?_)
    refine ⟨trivial,cw_ ?_⟩
    refine n_ ?_
    refine wr_intro (by exact storeR sizE1 S.len S.one at_h3 (first+ch) (by omega) (by rw [setIf_size];omega) d1[first+root]!) (fun h4 at_h4 ot_h4=>cw_ ?_)
    refine ⟨trivial,cw_ ?_⟩
    refine ⟨hi - ch,by omega,ch,swp d1 (first+root) (first+ch),rfl,?_,by omega,by rw [swp_size];exact s1,e1,at_h4,fun c hc=>by rw [ot_h4 c hc,ot_h3 c hc];exact ho1 c hc⟩
    show [MV.v (Value.int .i64 _)]=_
    congr 3
    omega
theorem heapE_x (S:Srt1 enc lt y) {b cap n:Nat} {d:Array α} {rest:List Value} (lo hi:Nat) (hb:h b=some (RowD 62 enc d rest)) (hd:d.size=n) (hsz:n<2 ^ 30) (hcap:n≤cap) (hlh:lo<hi) (hhi:hi≤n)
  (hk:∀ h',h' b=some (RowD 62 enc (heapSort lt d lo hi) rest)→(∀ c,c≠b→h' c=h c)→K (.tuple #[]) h'):X Tryz.prog 92 #[.slice (some ⟨b,0,none⟩) n cap,.int .i64 lo,.int .i64 hi,y] h K:=by
 obtain ⟨m,rfl⟩:∃ m,hi=lo+m:=⟨hi - lo,by omega⟩
 have hm:lo+m - lo=m:=by omega
 unfold heapSort at hk
 rw [hm] at hk
 have hM:((lo+m:Nat):Int) - (lo:Int)=(m:Int):=by omega
 have td:((m:Int) - 1).tdiv 2=(((m - 1) / 2:Nat):Int):=by
  rw [show (m:Int) - 1=((m - 1:Nat):Int) by omega];rfl
 refine fnv (args:=_) mixed [] [] [] Tryz.func92 rfl (by kernel_rfl) (cw_ ?_)
 refine ov_eq hM (by omega) (cw_ ?_)
 refine n_ ?_
 refine ov_eq td (by omega) (cw_ ?_)
 refine loop_at [11] [] (fun r vs _ h'=>∃ (k:Nat) (i:Int) (d':Array α),k=r∧i+1=k∧vs=[.v (.int .i64 i)]∧k≤m∧d'.size=n∧heapBuild lt m lo k d'=heapBuild lt m lo ((m - 1) / 2+1) d∧h' b=some (RowD 62 enc d' rest)∧∀ c,c≠b→h' c=h c) ((m - 1) / 2+1) ⟨_,(((m - 1) / 2:Nat):Int),d,rfl,by omega,rfl,by omega,hd,rfl,hb,fun _ _=>rfl⟩ ?_
 rintro r vs cs mm bx h1 ⟨k,i,d1,rfl,hik,rfl,i1,s1,e1,hb1,ho1⟩
 conv=>whnf
 refine br_ (fun q1=>?_) fun q1=>?_
 ·obtain ⟨k',rfl⟩:∃ k',k=k'+1:=⟨k - 1,by omega⟩
  obtain rfl:i=(k':Int):=by omega
  rw [heapBuild] at e1
  conv=>whnf
  refine siftE_x S k' m lo hb1 s1 hsz hcap (by omega) (by omega) fun h2 hb2 ho2=>(cw_ ?_)
  refine n_ ?_
  exact ⟨k',by omega,k',(k':Int) - 1,_,rfl,by omega,rfl,by omega,by rw [siftDown_size _ _ _ _ _ (Nat.le_refl _)];exact s1,e1,hb2,fun c hc=>by rw [ho2 c hc];exact ho1 c hc⟩
 ·obtain rfl:k=0:=by omega
  rw [show heapBuild lt m lo 0 d1=d1 from rfl] at e1
  rw [← e1] at hk
  conv=>whnf
  refine n_ ?_
  refine loop_at [12] [] (fun r vs _ h'=>∃ (k:Nat) (i:Int) (d':Array α),k=r∧i+1=k∧vs=[.v (.int .i64 i)]∧k≤m∧d'.size=n∧heapPop lt lo k d'=heapPop lt lo m d1∧h' b=some (RowD 62 enc d' rest)∧∀ c,c≠b→h' c=h c) m ⟨_,(m:Int) - 1,d1,rfl,by omega,rfl,by omega,s1,rfl,hb1,ho1⟩ ?_
  rintro r vs cs mm bx h2 ⟨k,i,d2,rfl,hik,rfl,i2,s2,e2,hb2,ho2⟩
  conv=>whnf
  refine br_ (fun q2=>?_) fun q2=>?_
  ·obtain ⟨k',rfl⟩:∃ k',k=k'+1:=⟨k - 1,by omega⟩
   obtain rfl:i=(k':Int):=by omega
   rw [heapPop] at e2
   conv=>whnf
   refine n_ ?_
   refine n_ ?_
   refine n_ ?_
   refine ⟨_,loadR aggE1 sizE1 S.len hb2 (lo+k') (by omega) (by omega),cw_ ?_⟩
   refine n_ ?_
   refine ⟨_,loadR aggE1 sizE1 S.len hb2 lo (by omega) (by omega),cw_ ?_⟩
   refine n_ ?_
   refine wr_intro (by exact storeR sizE1 S.len S.one hb2 lo (by omega) (by omega) d2[lo+k']!) (fun h3 at_h3 ot_h3=>cw_ ?_)
   refine ⟨trivial,cw_ ?_⟩
   refine n_ ?_
   refine wr_intro (by exact storeR sizE1 S.len S.one at_h3 (lo+k') (by omega) (by rw [setIf_size];omega) d2[lo]!) (fun h4 at_h4 ot_h4=>cw_ ?_)
   refine ⟨trivial,cw_ ?_⟩
   have hb4:h4 b=some (RowD 62 enc (swp d2 lo (lo+k')) rest):=at_h4
   conv=>whnf
   refine siftE_x S 0 k' lo hb4 (by rw [swp_size];exact s2) hsz hcap (by omega) (by omega) fun h5 hb5 ho5=>(cw_ ?_)
   refine n_ ?_
   exact ⟨k',by omega,k',(k':Int) - 1,_,rfl,by omega,rfl,by omega,by rw [siftDown_size _ _ _ _ _ (Nat.le_refl _),swp_size];exact s2,e2,hb5,fun c hc=>by rw [ho5 c hc,ot_h4 c hc,ot_h3 c hc];exact ho2 c hc⟩
  ·obtain rfl:k=0:=by omega
   rw [show heapPop lt lo 0 d2=d2 from rfl] at e2
   rw [← e2] at hk
   conv=>whnf
   exact hk _ hb2 ho2
theorem reverseE_x (S:Srt1 enc lt y) {b cap n:Nat} {d:Array α} {rest:List Value} (lo hi:Nat) (hb:h b=some (RowD 62 enc d rest)) (hd:d.size=n) (hsz:n<2 ^ 30) (hcap:n≤cap) (hlh:lo<hi) (hhi:hi≤n)
  (hk:∀ h',h' b=some (RowD 62 enc (reverseRange d lo hi) rest)→(∀ c,c≠b→h' c=h c)→K (.tuple #[]) h'):X Tryz.prog 95 #[.slice (some ⟨b,0,none⟩) n cap,.int .i64 lo,.int .i64 hi,y] h K:=by
 unfold reverseRange at hk
 refine fnv (args:=_) mixed [] [] [] Tryz.func95 rfl (by kernel_rfl) (cw_ ?_)
 refine ov_eq (show (hi:Int) - 1=((hi - 1:Nat):Int) by omega) (by omega) (cw_ ?_)
 refine loop_at [8,9] [] (fun r vs _ h'=>∃ (i j:Nat) (d':Array α),j - i=r∧vs=[.v (.int .i64 i),.v (.int .i64 j)]∧lo≤i∧j<hi∧i≤j+1∧d'.size=n∧reverseLoop i j d'=reverseLoop lo (hi - 1) d∧h' b=some (RowD 62 enc d' rest)∧∀ c,c≠b→h' c=h c) (hi - 1 - lo) ⟨lo,hi - 1,d,rfl,rfl,by omega,by omega,by omega,hd,rfl,hb,fun _ _=>rfl⟩ ?_
 rintro r vs cs mm bx h1 ⟨i,j,d1,rfl,rfl,i1,i2,i3,s1,e1,hb1,ho1⟩
 rw [reverseLoop] at e1
 conv=>whnf
 refine br_ (fun q1=>?_) fun q1=>?_
 ·rw [if_pos (by omega)] at e1
  conv=>whnf
  refine n_ ?_
  refine ⟨_,loadR aggE1 sizE1 S.len hb1 j (by omega) (by omega),cw_ ?_⟩
  refine n_ ?_
  refine ⟨_,loadR aggE1 sizE1 S.len hb1 i (by omega) (by omega),cw_ ?_⟩
  refine n_ ?_
  refine wr_intro (by exact storeR sizE1 S.len S.one hb1 i (by omega) (by omega) d1[j]!) (fun h3 at_h3 ot_h3=>cw_ ?_)
  refine ⟨trivial,cw_ ?_⟩
  refine n_ ?_
  refine wr_intro (by exact storeR sizE1 S.len S.one at_h3 j (by omega) (by rw [setIf_size];omega) d1[i]!) (fun h4 at_h4 ot_h4=>cw_ ?_)
  refine ⟨trivial,cw_ ?_⟩
  refine n_ ?_
  refine ov_eq (show (j:Int) - 1=((j - 1:Nat):Int) by omega) (by omega) (cw_ ?_)
  exact ⟨j - 1 - (i+1),by omega,i+1,j - 1,_,rfl,rfl,by omega,by omega,by omega,by rw [swp_size];exact s1,e1,at_h4,fun c hc=>by rw [ot_h4 c hc,ot_h3 c hc];exact ho1 c hc⟩
 ·rw [if_neg (by omega)] at e1
  rw [← e1] at hk
  conv=>whnf
  exact hk _ hb1 ho1
end
end Go.Proofs.YtdhkjcdneidgaaaGreatDoor
namespace Go.Proofs.YtdhkjcdneidgaaaGreatDoor
open Go Go.Mid Go.RowKit
open Go.Sort (swp order2 median medianAdjacent choosePivot Hint)
attribute [local irreducible] mid
section
variable {h:Hp} {K:Value→Hp→Prop}
variable {α:Type} [Inhabited α]
variable {enc:α→List Value} {lt:α→α→Bool} {y:Value}
theorem aggZ:isAggT Tryz.prog 3=some false:=by kernel_rfl
theorem sizZ:sizeT Tryz.prog 3=some 1:=by kernel_rfl
theorem order2_lt {n i j s:Nat} (d:Array α) (hi:i<n) (hj:j<n):(order2 lt d i j s).1<n∧(order2 lt d i j s).2.1<n∧(order2 lt d i j s).2.2≤s+1:=by
 unfold order2
 split
 ·exact ⟨hj,hi,Nat.le_refl _⟩
 ·exact ⟨hi,hj,Nat.le_succ _⟩
theorem order2E_x (S:Srt1 enc lt y) {b c cap n s:Nat} {d:Array α} {rest:List Value} (i j:Nat) (hb:h b=some (RowD 62 enc d rest)) (hc:h c=some (rowO 3 [.int .i64 s])) (hd:d.size=n) (hsz:n<2 ^ 30) (hcap:n≤cap) (hi:i<n) (hj:j<n) (hs:s<2 ^ 30)
  (hk:∀ h',h' c=some (rowO 3 [.int .i64 ((order2 lt d i j s).2.2:Nat)])→(∀ x,x≠c→h' x=h x)→K (.tuple #[.int .i64 ((order2 lt d i j s).1:Nat),.int .i64 ((order2 lt d i j s).2.1:Nat)]) h') :
  X Tryz.prog 162 #[.slice (some ⟨b,0,none⟩) n cap,.int .i64 i,.int .i64 j,.pointer (some ⟨c,0,none⟩),y] h K:=by
 unfold order2 at hk
 refine fnv (args:=_) mixed [] [] [] Tryz.func162 rfl (by kernel_rfl) (cw_ ?_)
 refine n_ ?_
 refine ⟨_,loadR aggE1 sizE1 S.len hb j rfl (by omega),cw_ ?_⟩
 refine n_ ?_
 refine ⟨_,loadR aggE1 sizE1 S.len hb i rfl (by omega),cw_ ?_⟩
 refine aRunK_yv rfl rfl rfl (S.cmp _ _ _ _ fun c2 ec2=>?_)
 refine ⟨trivial,cw_ ?_⟩
 refine br_ (fun q1=>?_) fun q1=>?_
 ·rw [decide_eq_true q1] at ec2
  rw [if_pos ec2.symm] at hk
  conv=>whnf
  refine ⟨_,loadC0 aggZ hc rfl,cw_ ?_⟩
  refine n_ ?_
  refine wr_intro (by exact storeC0 sizZ hc (Nat.zero_lt_succ 0) rfl rfl) (fun h3 at_h3 ot_h3=>cw_ ?_)
  have hK:=hk h3 (at_h3.trans (by
   show some (rowO 3 [.int .i64 ((s:Int)+1)])=_
   rw [show ((s+1:Nat):Int)=(s:Int)+1 by omega])) ot_h3
  conv=>whnf
  exact hK
 ·rw [decide_eq_false q1] at ec2
  rw [if_neg (by rw [← ec2];simp)] at hk
  conv=>whnf
  exact hk h hc fun _ _=>rfl
theorem median_lt {n i j k s:Nat} (d:Array α) (hi:i<n) (hj:j<n) (hk:k<n):(median lt d i j k s).1<n∧(median lt d i j k s).2≤s+3:=by
 unfold median
 have h1:=order2_lt (lt:=lt) (s:=s) d hi hj
 have h2:=order2_lt (lt:=lt) (s:=(order2 lt d i j s).2.2) d h1.2.1 hk
 have h3:=order2_lt (lt:=lt) (s:=(order2 lt d (order2 lt d i j s).2.1 k (order2 lt d i j s).2.2).2.2) d h1.1 h2.1
 exact ⟨h3.2.1,by simp only;omega⟩
theorem medianE_x (S:Srt1 enc lt y) {b c cap n s:Nat} {d:Array α} {rest:List Value} (i j k:Nat) (hbc:b≠c) (hb:h b=some (RowD 62 enc d rest)) (hc:h c=some (rowO 3 [.int .i64 s])) (hd:d.size=n) (hsz:n<2 ^ 30) (hcap:n≤cap) (hi:i<n) (hj:j<n) (hkn:k<n) (hs:s<2 ^ 29)
  (hk:∀ h',h' c=some (rowO 3 [.int .i64 ((median lt d i j k s).2:Nat)])→(∀ x,x≠c→h' x=h x)→K (.int .i64 ((median lt d i j k s).1:Nat)) h') :
  X Tryz.prog 129 #[.slice (some ⟨b,0,none⟩) n cap,.int .i64 i,.int .i64 j,.int .i64 k,.pointer (some ⟨c,0,none⟩),y] h K:=by
 dsimp only [median] at hk
 have l1:=order2_lt (lt:=lt) (s:=s) d hi hj
 refine fnv (args:=_) mixed [] [] [] Tryz.func129 rfl (by kernel_rfl) (cw_ ?_)
 refine order2E_x S i j hb hc hd hsz hcap hi hj (by omega) fun h1 c1 o1=>?_
 generalize order2 lt d i j s=r1 at *
 have b1:=(o1 b hbc).trans hb
 have l2:=order2_lt (lt:=lt) (s:=r1.2.2) d l1.2.1 hkn
 conv=>whnf
 refine order2E_x S r1.2.1 k b1 c1 hd hsz hcap l1.2.1 hkn (by omega) fun h2 c2 o2=>?_
 generalize order2 lt d r1.2.1 k r1.2.2=r2 at *
 have b2:=(o2 b hbc).trans b1
 conv=>whnf
 refine order2E_x S r1.1 r2.1 b2 c2 hd hsz hcap l1.1 l2.1 (by omega) fun h3 c3 o3=>(cw_ ?_)
 exact hk h3 c3 fun x hx=>by rw [o3 x hx,o2 x hx,o1 x hx]
theorem medianAdjE_x (S:Srt1 enc lt y) {b c cap n s:Nat} {d:Array α} {rest:List Value} (i:Nat) (hbc:b≠c) (hb:h b=some (RowD 62 enc d rest)) (hc:h c=some (rowO 3 [.int .i64 s])) (hd:d.size=n) (hsz:n<2 ^ 30) (hcap:n≤cap) (hi:1≤i) (hi2:i+1<n) (hs:s<2 ^ 29)
  (hk:∀ h',h' c=some (rowO 3 [.int .i64 ((medianAdjacent lt d i s).2:Nat)])→(∀ x,x≠c→h' x=h x)→K (.int .i64 ((medianAdjacent lt d i s).1:Nat)) h') :
  X Tryz.prog 128 #[.slice (some ⟨b,0,none⟩) n cap,.int .i64 i,.pointer (some ⟨c,0,none⟩),y] h K:=by
 unfold medianAdjacent at hk
 refine fnv (args:=_) mixed [] [] [] Tryz.func128 rfl (by kernel_rfl) (cw_ ?_)
 refine ov_eq (show (i:Int) - 1=((i - 1:Nat):Int) by omega) (by omega) (cw_ ?_)
 refine ov_eq (show (i:Int)+1=((i+1:Nat):Int) by omega) (by omega) (cw_ ?_)
 refine medianE_x S (i - 1) i (i+1) hbc hb hc hd hsz hcap (by omega) (by omega) (by omega) hs fun h1 c1 o1=>(cw_ ?_)
 exact hk h1 c1 o1
def hintV:Hint→Int
 | .unknown=>0
 | .increasing=>1
 | .decreasing=>2
def pivA (lt:α→α→Bool) (d:Array α) (i j k:Nat):Nat×Nat :=
 median lt d (medianAdjacent lt d i 0).1 (medianAdjacent lt d j (medianAdjacent lt d i 0).2).1 (medianAdjacent lt d k (medianAdjacent lt d j (medianAdjacent lt d i 0).2).2).1 (medianAdjacent lt d k (medianAdjacent lt d j (medianAdjacent lt d i 0).2).2).2
def pivR (lt:α→α→Bool) (d:Array α) (m i j k:Nat):Nat×Nat:=if m ≥ 50 then pivA lt d i j k else median lt d i j k 0
def hintOf (s:Nat):Hint:=if s=0 then .increasing else if s=12 then .decreasing else .unknown
theorem choosePivot_eq (d:Array α) (lo m:Nat) (hm:m ≥ 8):choosePivot lt d lo (lo+m)=((pivR lt d m (lo+m / 4*1) (lo+m / 4*2) (lo+m / 4*3)).1,hintOf (pivR lt d m (lo+m / 4*1) (lo+m / 4*2) (lo+m / 4*3)).2):=by
 unfold choosePivot
 simp only [Nat.add_sub_cancel_left,if_pos hm]
 rfl
theorem madj_lt {n i s:Nat} (d:Array α) (hi:1≤i) (hi2:i+1<n):(medianAdjacent lt d i s).1<n∧(medianAdjacent lt d i s).2≤s+3:=by
 unfold medianAdjacent
 exact median_lt d (by omega) (by omega) hi2
theorem choosePivotE_x (S:Srt1 enc lt y) {b cap n:Nat} {d:Array α} {rest:List Value} (lo hi:Nat) (hb:h b=some (RowD 62 enc d rest)) (hd:d.size=n) (hsz:n<2 ^ 30) (hcap:n≤cap) (hlh:lo+12<hi) (hhi:hi≤n)
  (hk:K (.tuple #[.int .i64 ((choosePivot lt d lo hi).1:Nat),.int .i64 (hintV (choosePivot lt d lo hi).2)]) h) :
  X Tryz.prog 94 #[.slice (some ⟨b,0,none⟩) n cap,.int .i64 lo,.int .i64 hi,y] h K:=by
 obtain ⟨m,rfl⟩:∃ m,hi=lo+m:=⟨hi - lo,by omega⟩
 rw [choosePivot_eq d lo m (by omega)] at hk
 refine X.forget ?_
 have hk':∀ (h':Hp) (r:Nat×Nat) (v:Int),r=pivR lt d m (lo+m / 4*1) (lo+m / 4*2) (lo+m / 4*3)→v=hintV (hintOf r.2)→h.le h'→∃ g:Hp,g.le h'∧K (.tuple #[.int .i64 (r.1:Nat),.int .i64 v]) g:=fun h' r v e1 e2 hle=>by
  subst e1 e2
  exact ⟨h,hle,hk⟩
 clear hk
 have hM:((lo+m:Nat):Int) - (lo:Int)=(m:Int):=by omega
 have td:(m:Int).tdiv 4=((m / 4:Nat):Int):=rfl
 have b1:=Nat.mul_div_le m 4
 refine fnv (args:=_) mixed [] [] [] Tryz.func94 rfl (by kernel_rfl) (cw_ ?_)
 refine ov_eq hM (by omega) (cw_ ?_)
 refine new_intro (o:=rowO 3 [.int .i64 0]) (fun c h1 n_c le_c at_c ot_c=>cw_ ?_)
 have hb1:=le_c _ _ hb
 have hbc:b≠c:=Hp.ne n_c hb
 refine ov_eq td (by omega) (cw_ ?_)
 refine ov_eq (show ((m / 4:Nat):Int)*1=((m / 4*1:Nat):Int) by omega) (by omega) (cw_ ?_)
 refine ov_eq (show (lo:Int)+((m / 4*1:Nat):Int)=((lo+m / 4*1:Nat):Int) by omega) (by omega) (cw_ ?_)
 refine ov_eq td (by omega) (cw_ ?_)
 refine ov_eq (show ((m / 4:Nat):Int)*2=((m / 4*2:Nat):Int) by omega) (by omega) (cw_ ?_)
 refine ov_eq (show (lo:Int)+((m / 4*2:Nat):Int)=((lo+m / 4*2:Nat):Int) by omega) (by omega) (cw_ ?_)
 refine ov_eq td (by omega) (cw_ ?_)
 refine ov_eq (show ((m / 4:Nat):Int)*3=((m / 4*3:Nat):Int) by omega) (by omega) (cw_ ?_)
 refine ov_eq (show (lo:Int)+((m / 4*3:Nat):Int)=((lo+m / 4*3:Nat):Int) by omega) (by omega) ?_
 have i1:lo+m / 4*1+1<n:=by omega
 have i2:lo+m / 4*2+1<n:=by omega
 have i3:lo+m / 4*3+1<n:=by omega
 have j1:1≤lo+m / 4*1:=by omega
 have j2:1≤lo+m / 4*2:=by omega
 have j3:1≤lo+m / 4*3:=by omega
 generalize lo+m / 4*1=i at *
 generalize lo+m / 4*2=j at *
 generalize lo+m / 4*3=k at *
 conv=>whnf
 refine bt_ ?_
 refine br_ (fun q1=>?_) fun q1=>?_
 ·unfold pivR pivA at hk'
  rw [if_pos (show m ≥ 50 by omega)] at hk'
  have l1:=madj_lt (lt:=lt) (s:=0) d j1 i1
  have l2:=madj_lt (lt:=lt) (s:=(medianAdjacent lt d i 0).2) d j2 i2
  have l3:=madj_lt (lt:=lt) (s:=(medianAdjacent lt d j (medianAdjacent lt d i 0).2).2) d j3 i3
  conv=>whnf
  refine medianAdjE_x S i hbc hb1 at_c hd hsz hcap j1 i1 (by decide) fun h3 c3 o3=>?_
  have b3:=(o3 b hbc).trans hb1
  generalize medianAdjacent lt d i 0=r1 at *
  conv=>whnf
  refine medianAdjE_x S j hbc b3 c3 hd hsz hcap j2 i2 (by omega) fun h4 c4 o4=>?_
  have b4:=(o4 b hbc).trans b3
  generalize medianAdjacent lt d j r1.2=r2 at *
  conv=>whnf
  refine medianAdjE_x S k hbc b4 c4 hd hsz hcap j3 i3 (by omega) fun h5 c5 o5=>?_
  have b5:=(o5 b hbc).trans b4
  generalize medianAdjacent lt d k r2.2=r3 at *
  conv=>whnf
  refine medianE_x S r1.1 r2.1 r3.1 hbc b5 c5 hd hsz hcap l1.1 l2.1 l3.1 (by omega) fun h6 c6 o6=>?_
  have o6:∀ x,x≠c→h6 x=h1 x:=fun x hx=>by rw [o6 x hx,o5 x hx,o4 x hx,o3 x hx]
  obtain ⟨r,hr⟩:∃ r,r=median lt d r1.1 r2.1 r3.1 r3.2:=⟨_,rfl⟩
  rw [← hr] at c6 hk'
  rw [← hr]
  have hr:r=r:=rfl
  have hle6:h.le h6:=Hp.le_st n_c le_c o6
  conv=>whnf
  refine ⟨_,loadC0 aggZ c6 rfl,cw_ ?_⟩
  refine br_ (fun q3=>?_) fun q3=>?_
  ·conv=>whnf
   exact hk' h6 _ _ hr (by rw [hintOf,if_pos (by omega)];rfl) hle6
  ·conv=>whnf
   refine br_ (fun q4=>?_) fun q4=>?_
   ·conv=>whnf
    exact hk' h6 _ _ hr (by rw [hintOf,if_neg (by omega),if_pos (by omega)];rfl) hle6
   ·conv=>whnf
    exact hk' h6 _ _ hr (by rw [hintOf,if_neg (by omega),if_neg (by omega)];rfl) hle6
 ·unfold pivR at hk'
  rw [if_neg (show ¬ m ≥ 50 by omega)] at hk'
  conv=>whnf
  refine medianE_x S i j k hbc hb1 at_c hd hsz hcap (by omega) (by omega) (by omega) (by decide) fun h6 c6 o6=>?_
  obtain ⟨r,hr⟩:∃ r,r=median lt d i j k 0:=⟨_,rfl⟩
  rw [← hr] at c6 hk'
  rw [← hr]
  have hr:r=r:=rfl
  have hle6:h.le h6:=Hp.le_st n_c le_c o6
  conv=>whnf
  refine ⟨_,loadC0 aggZ c6 rfl,cw_ ?_⟩
  refine br_ (fun q3=>?_) fun q3=>?_
  ·conv=>whnf
   exact hk' h6 _ _ hr (by rw [hintOf,if_pos (by omega)];rfl) hle6
  ·conv=>whnf
   refine br_ (fun q4=>?_) fun q4=>?_
   ·conv=>whnf
    exact hk' h6 _ _ hr (by rw [hintOf,if_neg (by omega),if_pos (by omega)];rfl) hle6
   ·conv=>whnf
    exact hk' h6 _ _ hr (by rw [hintOf,if_neg (by omega),if_neg (by omega)];rfl) hle6
end
end Go.Proofs.YtdhkjcdneidgaaaGreatDoor
