/-
  Sorting of heats: equals apart.
-/
import Derived.Test.YtdhkjcdneidgaaaGreatDoorPdqB
namespace Go.Proofs.YtdhkjcdneidgaaaGreatDoor
set_option linter.unusedSimpArgs false
set_option linter.unusedVariables false
set_option linter.unusedSimpArgs false
set_option linter.unusedVariables false
open Go Go.Mid Go.RowKit
open Go.Sort (swp order2 median medianAdjacent choosePivot Hint)
attribute [local irreducible] mid
section
set_option maxHeartbeats 8000000
set_option maxRecDepth 10000
variable {h:Hp} {K:Value→Hp→Prop}
variable {α:Type} [Inhabited α]
variable {enc:α→List Value} {lt:α→α→Bool} {y:Value}
theorem aggZ:isAggT Tryz.prog 3=some false:=by kernel_rfl
theorem sizZ:sizeT Tryz.prog 3=some 1:=by kernel_rfl
theorem order2_lt {n i j s:Nat} (d:Array α) (hi:i<n) (hj:j<n):(order2 lt d i j s).1<n∧(order2 lt d i j s).2.1<n∧(order2 lt d i j s).2.2≤s+1:=by
 unfold order2
 split
 ·exact ⟨hj,hi,Nat.le_refl _⟩
 ·exact ⟨hi,hj,Nat.le_succ _⟩
theorem order2E_x (S:Srt1 enc lt y) {b c cap n s:Nat} {d:Array α} {rest:List Value} (i j:Nat) (hb:h b=some (RowD 62 enc d rest)) (hc:h c=some (rowO 3 [.int .i64 s])) (hd:d.size=n) (hsz:n<2 ^ 30) (hcap:n≤cap) (hi:i<n) (hj:j<n) (hs:s<2 ^ 30)
  (hk:∀ h',h' c=some (rowO 3 [.int .i64 ((order2 lt d i j s).2.2:Nat)])→(∀ x,x≠c→h' x=h x)→K (.tuple #[.int .i64 ((order2 lt d i j s).1:Nat),.int .i64 ((order2 lt d i j s).2.1:Nat)]) h') :
  X Tryz.prog 162 #[.slice (some ⟨b,0,none⟩) n cap,.int .i64 i,.int .i64 j,.pointer (some ⟨c,0,none⟩),y] h K:=by
 unfold order2 at hk
 refine fnv (args:=_) mixed [] [] [] Tryz.func162 rfl (by kernel_rfl) ?_;conv=>whnf
 (first | refine need_intro (⟨by omega,by omega⟩) ?_ | refine must.mk (⟨by omega,by omega⟩) ?_);conv=>whnf
 refine ⟨_,loadR aggE1 sizE1 S.len hb j rfl (by omega),?_⟩;conv=>whnf
 (first | refine need_intro (⟨by omega,by omega⟩) ?_ | refine must.mk (⟨by omega,by omega⟩) ?_);conv=>whnf
 refine ⟨_,loadR aggE1 sizE1 S.len hb i rfl (by omega),?_⟩;conv=>whnf
 refine aRunK_yv rfl rfl rfl (S.cmp _ _ _ _ fun c2 ec2=>?_)
 refine ⟨trivial,?_⟩;conv=>whnf
 refine bsel_intro (fun q1=>?_) (fun q1=>?_) <;> try simp only [bsL] at q1
 ·rw [decide_eq_true q1] at ec2
  rw [if_pos ec2.symm] at hk
  conv=>whnf
  refine ⟨_,loadC0 aggZ hc rfl,?_⟩;conv=>whnf
  (first | refine ov_c (by simp only [loK,hiK];omega) ?_ | refine ov_c (by decide) ?_);conv=>whnf
  refine wr_intro (by exact storeC0 sizZ hc (Nat.zero_lt_succ 0) rfl rfl) (fun h3 at_h3 ot_h3=>?_)
  try (conv=>whnf)
  have hK:=hk h3 (at_h3.trans (by
   show some (rowO 3 [.int .i64 ((s:Int)+1)])=_
   rw [show ((s+1:Nat):Int)=(s:Int)+1 by omega])) ot_h3
  conv=>whnf
  exact hK
 ·rw [decide_eq_false q1] at ec2
  rw [if_neg (by rw [← ec2];simp)] at hk
  conv=>whnf
  exact hk h hc fun _ _=>rfl
theorem median_lt {n i j k s:Nat} (d:Array α) (hi:i<n) (hj:j<n) (hk:k<n):(median lt d i j k s).1<n∧(median lt d i j k s).2≤s+3:=by
 unfold median
 have h1:=order2_lt (lt:=lt) (s:=s) d hi hj
 have h2:=order2_lt (lt:=lt) (s:=(order2 lt d i j s).2.2) d h1.2.1 hk
 have h3:=order2_lt (lt:=lt) (s:=(order2 lt d (order2 lt d i j s).2.1 k (order2 lt d i j s).2.2).2.2) d h1.1 h2.1
 exact ⟨h3.2.1,by simp only;omega⟩
theorem medianE_x (S:Srt1 enc lt y) {b c cap n s:Nat} {d:Array α} {rest:List Value} (i j k:Nat) (hbc:b≠c) (hb:h b=some (RowD 62 enc d rest)) (hc:h c=some (rowO 3 [.int .i64 s])) (hd:d.size=n) (hsz:n<2 ^ 30) (hcap:n≤cap) (hi:i<n) (hj:j<n) (hkn:k<n) (hs:s<2 ^ 29)
  (hk:∀ h',h' c=some (rowO 3 [.int .i64 ((median lt d i j k s).2:Nat)])→(∀ x,x≠c→h' x=h x)→K (.int .i64 ((median lt d i j k s).1:Nat)) h') :
  X Tryz.prog 129 #[.slice (some ⟨b,0,none⟩) n cap,.int .i64 i,.int .i64 j,.int .i64 k,.pointer (some ⟨c,0,none⟩),y] h K:=by
 dsimp only [median] at hk
 have l1:=order2_lt (lt:=lt) (s:=s) d hi hj
 refine fnv (args:=_) mixed [] [] [] Tryz.func129 rfl (by kernel_rfl) ?_;conv=>whnf
 refine order2E_x S i j hb hc hd hsz hcap hi hj (by omega) fun h1 c1 o1=>?_
 generalize order2 lt d i j s=r1 at *
 have b1:=(o1 b hbc).trans hb
 have l2:=order2_lt (lt:=lt) (s:=r1.2.2) d l1.2.1 hkn
 conv=>whnf
 refine order2E_x S r1.2.1 k b1 c1 hd hsz hcap l1.2.1 hkn (by omega) fun h2 c2 o2=>?_
 generalize order2 lt d r1.2.1 k r1.2.2=r2 at *
 have b2:=(o2 b hbc).trans b1
 conv=>whnf
 refine order2E_x S r1.1 r2.1 b2 c2 hd hsz hcap l1.1 l2.1 (by omega) fun h3 c3 o3=>?_
 conv=>whnf
 exact hk h3 c3 fun x hx=>by rw [o3 x hx,o2 x hx,o1 x hx]
theorem medianAdjE_x (S:Srt1 enc lt y) {b c cap n s:Nat} {d:Array α} {rest:List Value} (i:Nat) (hbc:b≠c) (hb:h b=some (RowD 62 enc d rest)) (hc:h c=some (rowO 3 [.int .i64 s])) (hd:d.size=n) (hsz:n<2 ^ 30) (hcap:n≤cap) (hi:1≤i) (hi2:i+1<n) (hs:s<2 ^ 29)
  (hk:∀ h',h' c=some (rowO 3 [.int .i64 ((medianAdjacent lt d i s).2:Nat)])→(∀ x,x≠c→h' x=h x)→K (.int .i64 ((medianAdjacent lt d i s).1:Nat)) h') :
  X Tryz.prog 128 #[.slice (some ⟨b,0,none⟩) n cap,.int .i64 i,.pointer (some ⟨c,0,none⟩),y] h K:=by
 unfold medianAdjacent at hk
 refine fnv (args:=_) mixed [] [] [] Tryz.func128 rfl (by kernel_rfl) ?_;conv=>whnf
 refine ov_eq (show (i:Int) - 1=((i - 1:Nat):Int) by omega) (by omega) ?_
 conv=>whnf
 refine ov_eq (show (i:Int)+1=((i+1:Nat):Int) by omega) (by omega) ?_
 conv=>whnf
 refine medianE_x S (i - 1) i (i+1) hbc hb hc hd hsz hcap (by omega) (by omega) (by omega) hs fun h1 c1 o1=>?_
 conv=>whnf
 exact hk h1 c1 o1
def hintV:Hint→Int
 | .unknown=>0
 | .increasing=>1
 | .decreasing=>2
def pivA (lt:α→α→Bool) (d:Array α) (i j k:Nat):Nat×Nat :=
 median lt d (medianAdjacent lt d i 0).1 (medianAdjacent lt d j (medianAdjacent lt d i 0).2).1 (medianAdjacent lt d k (medianAdjacent lt d j (medianAdjacent lt d i 0).2).2).1 (medianAdjacent lt d k (medianAdjacent lt d j (medianAdjacent lt d i 0).2).2).2
def pivR (lt:α→α→Bool) (d:Array α) (m i j k:Nat):Nat×Nat:=if m ≥ 50 then pivA lt d i j k else median lt d i j k 0
def hintOf (s:Nat):Hint:=if s=0 then .increasing else if s=12 then .decreasing else .unknown
theorem choosePivot_eq (d:Array α) (lo m:Nat) (hm:m ≥ 8):choosePivot lt d lo (lo+m)=((pivR lt d m (lo+m / 4*1) (lo+m / 4*2) (lo+m / 4*3)).1,hintOf (pivR lt d m (lo+m / 4*1) (lo+m / 4*2) (lo+m / 4*3)).2):=by
 unfold choosePivot
 simp only [Nat.add_sub_cancel_left,if_pos hm]
 rfl
theorem madj_lt {n i s:Nat} (d:Array α) (hi:1≤i) (hi2:i+1<n):(medianAdjacent lt d i s).1<n∧(medianAdjacent lt d i s).2≤s+3:=by
 unfold medianAdjacent
 exact median_lt d (by omega) (by omega) hi2
theorem choosePivotE_x (S:Srt1 enc lt y) {b cap n:Nat} {d:Array α} {rest:List Value} (lo hi:Nat) (hb:h b=some (RowD 62 enc d rest)) (hd:d.size=n) (hsz:n<2 ^ 30) (hcap:n≤cap) (hlh:lo+12<hi) (hhi:hi≤n)
  (hk:K (.tuple #[.int .i64 ((choosePivot lt d lo hi).1:Nat),.int .i64 (hintV (choosePivot lt d lo hi).2)]) h) :
  X Tryz.prog 94 #[.slice (some ⟨b,0,none⟩) n cap,.int .i64 lo,.int .i64 hi,y] h K:=by
 obtain ⟨m,rfl⟩:∃ m,hi=lo+m:=⟨hi - lo,by omega⟩
 rw [choosePivot_eq d lo m (by omega)] at hk
 refine X.forget ?_
 have hk':∀ (h':Hp) (r:Nat×Nat) (v:Int),r=pivR lt d m (lo+m / 4*1) (lo+m / 4*2) (lo+m / 4*3)→v=hintV (hintOf r.2)→h.le h'→∃ g:Hp,g.le h'∧K (.tuple #[.int .i64 (r.1:Nat),.int .i64 v]) g:=fun h' r v e1 e2 hle=>by
  subst e1 e2
  exact ⟨h,hle,hk⟩
 clear hk
 have hM:((lo+m:Nat):Int) - (lo:Int)=(m:Int):=by omega
 have td:(m:Int).tdiv 4=((m / 4:Nat):Int):=rfl
 have b1:=Nat.mul_div_le m 4
 refine fnv (args:=_) mixed [] [] [] Tryz.func94 rfl (by kernel_rfl) ?_;conv=>whnf
 refine ov_eq hM (by omega) ?_
 conv=>whnf
 refine new_intro (o:=rowO 3 [.int .i64 0]) (fun c h1 n_c le_c at_c ot_c=>?_);conv=>whnf
 have hb1:=le_c _ _ hb
 have hbc:b≠c:=Hp.ne n_c hb
 refine ov_eq td (by omega) ?_
 conv=>whnf
 refine ov_eq (show ((m / 4:Nat):Int)*1=((m / 4*1:Nat):Int) by omega) (by omega) ?_
 conv=>whnf
 refine ov_eq (show (lo:Int)+((m / 4*1:Nat):Int)=((lo+m / 4*1:Nat):Int) by omega) (by omega) ?_
 conv=>whnf
 refine ov_eq td (by omega) ?_
 conv=>whnf
 refine ov_eq (show ((m / 4:Nat):Int)*2=((m / 4*2:Nat):Int) by omega) (by omega) ?_
 conv=>whnf
 refine ov_eq (show (lo:Int)+((m / 4*2:Nat):Int)=((lo+m / 4*2:Nat):Int) by omega) (by omega) ?_
 conv=>whnf
 refine ov_eq td (by omega) ?_
 conv=>whnf
 refine ov_eq (show ((m / 4:Nat):Int)*3=((m / 4*3:Nat):Int) by omega) (by omega) ?_
 conv=>whnf
 refine ov_eq (show (lo:Int)+((m / 4*3:Nat):Int)=((lo+m / 4*3:Nat):Int) by omega) (by omega) ?_
 have i1:lo+m / 4*1+1<n:=by omega
 have i2:lo+m / 4*2+1<n:=by omega
 have i3:lo+m / 4*3+1<n:=by omega
 have j1:1≤lo+m / 4*1:=by omega
 have j2:1≤lo+m / 4*2:=by omega
 have j3:1≤lo+m / 4*3:=by omega
 generalize lo+m / 4*1=i at *
 generalize lo+m / 4*2=j at *
 generalize lo+m / 4*3=k at *
 conv=>whnf
 refine bsel_true (by simp;omega) ?_;conv=>whnf
 refine bsel_intro (fun q1=>?_) (fun q1=>?_) <;> try simp only [bsL] at q1
 ·unfold pivR pivA at hk'
  rw [if_pos (show m ≥ 50 by omega)] at hk'
  have l1:=madj_lt (lt:=lt) (s:=0) d j1 i1
  have l2:=madj_lt (lt:=lt) (s:=(medianAdjacent lt d i 0).2) d j2 i2
  have l3:=madj_lt (lt:=lt) (s:=(medianAdjacent lt d j (medianAdjacent lt d i 0).2).2) d j3 i3
  conv=>whnf
  refine medianAdjE_x S i hbc hb1 at_c hd hsz hcap j1 i1 (by decide) fun h3 c3 o3=>?_
  have b3:=(o3 b hbc).trans hb1
  generalize medianAdjacent lt d i 0=r1 at *
  conv=>whnf
  refine medianAdjE_x S j hbc b3 c3 hd hsz hcap j2 i2 (by omega) fun h4 c4 o4=>?_
  have b4:=(o4 b hbc).trans b3
  generalize medianAdjacent lt d j r1.2=r2 at *
  conv=>whnf
  refine medianAdjE_x S k hbc b4 c4 hd hsz hcap j3 i3 (by omega) fun h5 c5 o5=>?_
  have b5:=(o5 b hbc).trans b4
  generalize medianAdjacent lt d k r2.2=r3 at *
  conv=>whnf
  refine medianE_x S r1.1 r2.1 r3.1 hbc b5 c5 hd hsz hcap l1.1 l2.1 l3.1 (by omega) fun h6 c6 o6=>?_
  have o6:∀ x,x≠c→h6 x=h1 x:=fun x hx=>by rw [o6 x hx,o5 x hx,o4 x hx,o3 x hx]
  obtain ⟨r,hr⟩:∃ r,r=median lt d r1.1 r2.1 r3.1 r3.2:=⟨_,rfl⟩
  rw [← hr] at c6 hk'
  rw [← hr]
  have hr:r=r:=rfl
  have hle6:h.le h6:=Hp.le_st n_c le_c o6
  conv=>whnf
  refine ⟨_,loadC0 aggZ c6 rfl,?_⟩;conv=>whnf
  refine bsel_intro (fun q3=>?_) (fun q3=>?_) <;> try simp only [bsL] at q3
  ·conv=>whnf
   exact hk' h6 _ _ hr (by rw [hintOf,if_pos (by omega)];rfl) hle6
  ·conv=>whnf
   refine bsel_intro (fun q4=>?_) (fun q4=>?_) <;> try simp only [bsL] at q4
   ·conv=>whnf
    exact hk' h6 _ _ hr (by rw [hintOf,if_neg (by omega),if_pos (by omega)];rfl) hle6
   ·conv=>whnf
    exact hk' h6 _ _ hr (by rw [hintOf,if_neg (by omega),if_neg (by omega)];rfl) hle6
 ·unfold pivR at hk'
  rw [if_neg (show ¬ m ≥ 50 by omega)] at hk'
  conv=>whnf
  refine medianE_x S i j k hbc hb1 at_c hd hsz hcap (by omega) (by omega) (by omega) (by decide) fun h6 c6 o6=>?_
  obtain ⟨r,hr⟩:∃ r,r=median lt d i j k 0:=⟨_,rfl⟩
  rw [← hr] at c6 hk'
  rw [← hr]
  have hr:r=r:=rfl
  have hle6:h.le h6:=Hp.le_st n_c le_c o6
  conv=>whnf
  refine ⟨_,loadC0 aggZ c6 rfl,?_⟩;conv=>whnf
  refine bsel_intro (fun q3=>?_) (fun q3=>?_) <;> try simp only [bsL] at q3
  ·conv=>whnf
   exact hk' h6 _ _ hr (by rw [hintOf,if_pos (by omega)];rfl) hle6
  ·conv=>whnf
   refine bsel_intro (fun q4=>?_) (fun q4=>?_) <;> try simp only [bsL] at q4
   ·conv=>whnf
    exact hk' h6 _ _ hr (by rw [hintOf,if_neg (by omega),if_pos (by omega)];rfl) hle6
   ·conv=>whnf
    exact hk' h6 _ _ hr (by rw [hintOf,if_neg (by omega),if_neg (by omega)];rfl) hle6
end
end Go.Proofs.YtdhkjcdneidgaaaGreatDoor

namespace Go.Proofs.YtdhkjcdneidgaaaGreatDoor
set_option linter.unusedSimpArgs false
set_option linter.unusedVariables false
set_option linter.unusedSimpArgs false
set_option linter.unusedVariables false
open Go Go.Mid Go.RowKit
open Go.Sort (swp scanUp scanDown partEqLoop partitionEqual)
attribute [local irreducible] mid
section
set_option maxHeartbeats 8000000
set_option maxRecDepth 10000
variable {h:Hp} {K:Value→Hp→Prop}
variable {α:Type} [Inhabited α]
variable {enc:α→List Value} {lt:α→α→Bool} {y:Value}
theorem scanUp_go {p:α→Bool} {d:Array α} {i j:Nat} (h:i≤j) (hp:p d[i]! = true):scanUp p d j i=scanUp p d j (i+1):=by
 rw [scanUp,if_pos (by simp [h,hp])]
theorem scanUp_stop {p:α→Bool} {d:Array α} {i j:Nat} (h:i≤j→p d[i]! = false):scanUp p d j i=i:=by
 rw [scanUp,if_neg (fun hh=>by
  simp only [Bool.and_eq_true,decide_eq_true_eq] at hh
  rw [h hh.1] at hh
  cases hh.2)]
theorem scanDown_go {p:α→Bool} {d:Array α} {i j:Nat} (h:i≤j+1) (hp:p d[j+1]! = true):scanDown p d i (j+1)=scanDown p d i j:=by
 rw [scanDown,if_pos (by simp [h,hp])]
theorem scanDown_stop {p:α→Bool} {d:Array α} {i j:Nat} (h:i≤j→p d[j]! = false):scanDown p d i j=j:=by
 cases j with
 | zero=>rfl
 | succ j =>
  rw [scanDown,if_neg (fun hh=>by
   simp only [Bool.and_eq_true,decide_eq_true_eq] at hh
   rw [h hh.1] at hh
   cases hh.2)]
theorem partEqLoop_end {a i j i2 j2:Nat} {d:Array α} (h1:scanUp (fun x=>!lt d[a]! x) d j i=i2) (h2:scanDown (fun x=>lt d[a]! x) d i2 j=j2) (h:i2>j2):partEqLoop lt a i j d=(i2,d):=by
 rw [partEqLoop]
 simp only [h1,h2]
 rw [if_pos h]
theorem partEqLoop_go {a i j i2 j2:Nat} {d:Array α} (h1:scanUp (fun x=>!lt d[a]! x) d j i=i2) (h2:scanDown (fun x=>lt d[a]! x) d i2 j=j2) (h:¬ i2>j2) (h3:i≤i2) (h4:j2≤j) (h5:1≤i):partEqLoop lt a i j d=partEqLoop lt a (i2+1) (j2 - 1) (swp d i2 j2):=by
 rw [partEqLoop]
 simp only [h1,h2]
 rw [if_neg h,dif_pos (by omega)]
theorem partEqE_x (S:Srt1 enc lt y) {b cap n:Nat} {d:Array α} {rest:List Value} (lo hi pv:Nat) (hb:h b=some (RowD 62 enc d rest)) (hd:d.size=n) (hsz:n<2 ^ 30) (hcap:n≤cap) (hlp:lo≤pv) (hph:pv<hi) (hhi:hi≤n)
  (hk:∀ h',h' b=some (RowD 62 enc (partitionEqual lt d lo hi pv).2 rest)→(∀ c,c≠b→h' c=h c)→K (.int .i64 ((partitionEqual lt d lo hi pv).1:Nat)) h') :
  X Tryz.prog 97 #[.slice (some ⟨b,0,none⟩) n cap,.int .i64 lo,.int .i64 hi,.int .i64 pv,y] h K:=by
 unfold partitionEqual at hk
 refine fnv (args:=_) mixed [] [] [] Tryz.func97 rfl (by kernel_rfl) ?_;conv=>whnf
 (first | refine need_intro (⟨by omega,by omega⟩) ?_ | refine must.mk (⟨by omega,by omega⟩) ?_);conv=>whnf
 refine ⟨_,loadR aggE1 sizE1 S.len hb pv rfl (by omega),?_⟩;conv=>whnf
 (first | refine need_intro (⟨by omega,by omega⟩) ?_ | refine must.mk (⟨by omega,by omega⟩) ?_);conv=>whnf
 refine ⟨_,loadR aggE1 sizE1 S.len hb lo rfl (by omega),?_⟩;conv=>whnf
 (first | refine need_intro (⟨by omega,by omega⟩) ?_ | refine must.mk (⟨by omega,by omega⟩) ?_);conv=>whnf
 refine wr_intro (by exact storeR sizE1 S.len S.one hb lo rfl (by omega) d[pv]!) (fun h1 at_h1 ot_h1=>?_)
 try (conv=>whnf)
 refine ⟨trivial,?_⟩;conv=>whnf
 (first | refine need_intro (⟨by omega,by omega⟩) ?_ | refine must.mk (⟨by omega,by omega⟩) ?_);conv=>whnf
 refine wr_intro (by exact storeR sizE1 S.len S.one at_h1 pv rfl (by rw [setIf_size];omega) d[lo]!) (fun h2 at_h2 ot_h2=>?_)
 try (conv=>whnf)
 refine ⟨trivial,?_⟩;conv=>whnf
 have hb2:h2 b=some (RowD 62 enc (swp d lo pv) rest):=at_h2
 have ho2:∀ c,c≠b→h2 c=h c:=fun c hc=>by rw [ot_h2 c hc,ot_h1 c hc]
 have hs2:(swp d lo pv).size=n:=by rw [swp_size];exact hd
 generalize swp d lo pv=d0 at *
 refine ov_eq (show (lo:Int)+1=((lo+1:Nat):Int) by omega) (by omega) ?_
 conv=>whnf
 refine ov_eq (show (hi:Int) - 1=((hi - 1:Nat):Int) by omega) (by omega) ?_
 conv=>whnf
 refine loop_at [11,12] [] (fun r vs _ h'=>∃ (i j:Nat) (d':Array α),j+2 - i=r∧vs=[.v (.int .i64 i),.v (.int .i64 j)]∧lo+1≤i∧j<hi∧i≤j+2∧d'.size=n∧partEqLoop lt lo i j d'=partEqLoop lt lo (lo+1) (hi - 1) d0∧h' b=some (RowD 62 enc d' rest)∧∀ c,c≠b→h' c=h c) (hi - 1+2 - (lo+1)) ⟨lo+1,hi - 1,d0,rfl,rfl,by omega,by omega,by omega,hs2,rfl,hb2,ho2⟩ ?_
 rintro r vs cs mm bx h3 ⟨i,j,d1,rfl,rfl,i1,i2,i3,s1,e1,hb3,ho3⟩
 obtain ⟨I,hI⟩:∃ I,scanUp (fun x=>!lt d1[lo]! x) d1 j i=I:=⟨_,rfl⟩
 conv=>whnf
 refine loop_at [11] [] (fun r vs _ h'=>h3=h'∧∃ (i':Nat),j+1 - i'=r∧vs=[.v (.int .i64 i')]∧i≤i'∧(i'≤j+1∨i'=i)∧scanUp (fun x=>!lt d1[lo]! x) d1 j i'=I) (j+1 - i) ⟨rfl,i,rfl,rfl,Nat.le_refl _,.inr rfl,hI⟩ ?_
 rintro r vs cs mm2 bx2 _ ⟨rfl,i',rfl,rfl,i4,i5,hI2⟩
 conv=>whnf
 refine bsel_intro (fun q1=>?_) (fun q1=>?_) <;> try simp only [bsL] at q1
 ·conv=>whnf
  (first | refine need_intro (⟨by omega,by omega⟩) ?_ | refine must.mk (⟨by omega,by omega⟩) ?_);conv=>whnf
  refine ⟨_,loadR aggE1 sizE1 S.len hb3 lo rfl (by omega),?_⟩;conv=>whnf
  (first | refine need_intro (⟨by omega,by omega⟩) ?_ | refine must.mk (⟨by omega,by omega⟩) ?_);conv=>whnf
  refine ⟨_,loadR aggE1 sizE1 S.len hb3 i' rfl (by omega),?_⟩;conv=>whnf
  refine aRunK_yv rfl rfl rfl (S.cmp _ _ _ _ fun c ec=>?_)
  refine ⟨trivial,?_⟩;conv=>whnf
  refine bsel_intro (fun q2=>?_) (fun q2=>?_) <;> try simp only [bsL] at q2
  ·rw [decide_eq_false q2] at ec
   rw [scanUp_go (by omega) (by rw [← ec];rfl)] at hI2
   conv=>whnf
   refine ov_eq (show (i':Int)+1=((i'+1:Nat):Int) by omega) (by omega) ?_
   conv=>whnf
   exact ⟨j+1 - (i'+1),by omega,rfl,i'+1,rfl,rfl,by omega,by omega,hI2⟩
  ·rw [decide_eq_true q2] at ec
   rw [scanUp_stop (fun _=>by rw [← ec];rfl)] at hI2
   have hI3:=hI.trans hI2.symm
   obtain ⟨J,hJ⟩:∃ J,scanDown (fun x=>lt d1[lo]! x) d1 i' j=J:=⟨_,rfl⟩
   conv=>whnf
   refine loop_at [12] [] (fun r vs _ h'=>h3=h'∧∃ (j':Nat),j'=r∧vs=[.v (.int .i64 j')]∧j'≤j∧(i'≤j'+1∨j'=j)∧scanDown (fun x=>lt d1[lo]! x) d1 i' j'=J) j ⟨rfl,j,rfl,rfl,Nat.le_refl _,.inr rfl,hJ⟩ ?_
   rintro r vs cs mm3 bx3 _ ⟨rfl,j',rfl,rfl,j4,j5,hJ2⟩
   conv=>whnf
   refine bsel_intro (fun q3=>?_) (fun q3=>?_) <;> try simp only [bsL] at q3
   ·conv=>whnf
    (first | refine need_intro (⟨by omega,by omega⟩) ?_ | refine must.mk (⟨by omega,by omega⟩) ?_);conv=>whnf
    refine ⟨_,loadR aggE1 sizE1 S.len hb3 lo rfl (by omega),?_⟩;conv=>whnf
    (first | refine need_intro (⟨by omega,by omega⟩) ?_ | refine must.mk (⟨by omega,by omega⟩) ?_);conv=>whnf
    refine ⟨_,loadR aggE1 sizE1 S.len hb3 j' rfl (by omega),?_⟩;conv=>whnf
    refine aRunK_yv rfl rfl rfl (S.cmp _ _ _ _ fun c2 ec2=>?_)
    refine ⟨trivial,?_⟩;conv=>whnf
    refine bsel_intro (fun q4=>?_) (fun q4=>?_) <;> try simp only [bsL] at q4
    ·rw [decide_eq_true q4] at ec2
     obtain ⟨j0,rfl⟩:∃ j0,j'=j0+1:=⟨j' - 1,by omega⟩
     rw [scanDown_go (by omega) ec2.symm] at hJ2
     conv=>whnf
     refine ov_eq (show ((j0+1:Nat):Int) - 1=(j0:Int) by omega) (by omega) ?_
     conv=>whnf
     exact ⟨j0,by omega,rfl,j0,rfl,rfl,by omega,by omega,hJ2⟩
    ·rw [decide_eq_false q4] at ec2
     rw [scanDown_stop (fun _=>ec2.symm)] at hJ2
     have hJ3:=hJ.trans hJ2.symm
     conv=>whnf
     refine bsel_intro (fun q5=>?_) (fun q5=>?_) <;> try simp only [bsL] at q5
     ·rw [partEqLoop_end hI3 hJ3 (by omega)] at e1
      rw [← e1] at hk
      conv=>whnf
      exact hk _ hb3 ho3
     ·rw [partEqLoop_go hI3 hJ3 (by omega) i4 j4 (by omega)] at e1
      conv=>whnf
      (first | refine need_intro (⟨by omega,by omega⟩) ?_ | refine must.mk (⟨by omega,by omega⟩) ?_);conv=>whnf
      refine ⟨_,loadR aggE1 sizE1 S.len hb3 j' rfl (by omega),?_⟩;conv=>whnf
      (first | refine need_intro (⟨by omega,by omega⟩) ?_ | refine must.mk (⟨by omega,by omega⟩) ?_);conv=>whnf
      refine ⟨_,loadR aggE1 sizE1 S.len hb3 i' rfl (by omega),?_⟩;conv=>whnf
      (first | refine need_intro (⟨by omega,by omega⟩) ?_ | refine must.mk (⟨by omega,by omega⟩) ?_);conv=>whnf
      refine wr_intro (by exact storeR sizE1 S.len S.one hb3 i' rfl (by omega) d1[j']!) (fun h4 at_h4 ot_h4=>?_)
      try (conv=>whnf)
      refine ⟨trivial,?_⟩;conv=>whnf
      (first | refine need_intro (⟨by omega,by omega⟩) ?_ | refine must.mk (⟨by omega,by omega⟩) ?_);conv=>whnf
      refine wr_intro (by exact storeR sizE1 S.len S.one at_h4 j' rfl (by rw [setIf_size];omega) d1[i']!) (fun h5 at_h5 ot_h5=>?_)
      try (conv=>whnf)
      refine ⟨trivial,?_⟩;conv=>whnf
      refine ov_eq (show (i':Int)+1=((i'+1:Nat):Int) by omega) (by omega) ?_
      conv=>whnf
      refine ov_eq (show (j':Int) - 1=((j' - 1:Nat):Int) by omega) (by omega) ?_
      conv=>whnf
      exact ⟨j' - 1+2 - (i'+1),by omega,i'+1,j' - 1,swp d1 i' j',rfl,rfl,by omega,by omega,by omega,by rw [swp_size];exact s1,e1,at_h5,fun c hc=>by rw [ot_h5 c hc,ot_h4 c hc];exact ho3 c hc⟩
   ·rw [scanDown_stop (fun hh=>by omega)] at hJ2
    have hJ3:=hJ.trans hJ2.symm
    conv=>whnf
    refine bsel_intro (fun q5=>?_) (fun q5=>?_) <;> try simp only [bsL] at q5
    ·rw [partEqLoop_end hI3 hJ3 (by omega)] at e1
     rw [← e1] at hk
     conv=>whnf
     exact hk _ hb3 ho3
    ·rw [partEqLoop_go hI3 hJ3 (by omega) i4 j4 (by omega)] at e1
     conv=>whnf
     (first | refine need_intro (⟨by omega,by omega⟩) ?_ | refine must.mk (⟨by omega,by omega⟩) ?_);conv=>whnf
     refine ⟨_,loadR aggE1 sizE1 S.len hb3 j' rfl (by omega),?_⟩;conv=>whnf
     (first | refine need_intro (⟨by omega,by omega⟩) ?_ | refine must.mk (⟨by omega,by omega⟩) ?_);conv=>whnf
     refine ⟨_,loadR aggE1 sizE1 S.len hb3 i' rfl (by omega),?_⟩;conv=>whnf
     (first | refine need_intro (⟨by omega,by omega⟩) ?_ | refine must.mk (⟨by omega,by omega⟩) ?_);conv=>whnf
     refine wr_intro (by exact storeR sizE1 S.len S.one hb3 i' rfl (by omega) d1[j']!) (fun h4 at_h4 ot_h4=>?_)
     try (conv=>whnf)
     refine ⟨trivial,?_⟩;conv=>whnf
     (first | refine need_intro (⟨by omega,by omega⟩) ?_ | refine must.mk (⟨by omega,by omega⟩) ?_);conv=>whnf
     refine wr_intro (by exact storeR sizE1 S.len S.one at_h4 j' rfl (by rw [setIf_size];omega) d1[i']!) (fun h5 at_h5 ot_h5=>?_)
     try (conv=>whnf)
     refine ⟨trivial,?_⟩;conv=>whnf
     refine ov_eq (show (i':Int)+1=((i'+1:Nat):Int) by omega) (by omega) ?_
     conv=>whnf
     refine ov_eq (show (j':Int) - 1=((j' - 1:Nat):Int) by omega) (by omega) ?_
     conv=>whnf
     exact ⟨j' - 1+2 - (i'+1),by omega,i'+1,j' - 1,swp d1 i' j',rfl,rfl,by omega,by omega,by omega,by rw [swp_size];exact s1,e1,at_h5,fun c hc=>by rw [ot_h5 c hc,ot_h4 c hc];exact ho3 c hc⟩
 ·rw [scanUp_stop (fun hh=>by omega)] at hI2
  have hI3:=hI.trans hI2.symm
  obtain ⟨J,hJ⟩:∃ J,scanDown (fun x=>lt d1[lo]! x) d1 i' j=J:=⟨_,rfl⟩
  conv=>whnf
  refine loop_at [12] [] (fun r vs _ h'=>h3=h'∧∃ (j':Nat),j'=r∧vs=[.v (.int .i64 j')]∧j'≤j∧(i'≤j'+1∨j'=j)∧scanDown (fun x=>lt d1[lo]! x) d1 i' j'=J) j ⟨rfl,j,rfl,rfl,Nat.le_refl _,.inr rfl,hJ⟩ ?_
  rintro r vs cs mm3 bx3 _ ⟨rfl,j',rfl,rfl,j4,j5,hJ2⟩
  conv=>whnf
  refine bsel_intro (fun q3=>?_) (fun q3=>?_) <;> try simp only [bsL] at q3
  ·conv=>whnf
   (first | refine need_intro (⟨by omega,by omega⟩) ?_ | refine must.mk (⟨by omega,by omega⟩) ?_);conv=>whnf
   refine ⟨_,loadR aggE1 sizE1 S.len hb3 lo rfl (by omega),?_⟩;conv=>whnf
   (first | refine need_intro (⟨by omega,by omega⟩) ?_ | refine must.mk (⟨by omega,by omega⟩) ?_);conv=>whnf
   refine ⟨_,loadR aggE1 sizE1 S.len hb3 j' rfl (by omega),?_⟩;conv=>whnf
   refine aRunK_yv rfl rfl rfl (S.cmp _ _ _ _ fun c2 ec2=>?_)
   refine ⟨trivial,?_⟩;conv=>whnf
   refine bsel_intro (fun q4=>?_) (fun q4=>?_) <;> try simp only [bsL] at q4
   ·rw [decide_eq_true q4] at ec2
    obtain ⟨j0,rfl⟩:∃ j0,j'=j0+1:=⟨j' - 1,by omega⟩
    rw [scanDown_go (by omega) ec2.symm] at hJ2
    conv=>whnf
    refine ov_eq (show ((j0+1:Nat):Int) - 1=(j0:Int) by omega) (by omega) ?_
    conv=>whnf
    exact ⟨j0,by omega,rfl,j0,rfl,rfl,by omega,by omega,hJ2⟩
   ·rw [decide_eq_false q4] at ec2
    rw [scanDown_stop (fun _=>ec2.symm)] at hJ2
    have hJ3:=hJ.trans hJ2.symm
    conv=>whnf
    refine bsel_intro (fun q5=>?_) (fun q5=>?_) <;> try simp only [bsL] at q5
    ·rw [partEqLoop_end hI3 hJ3 (by omega)] at e1
     rw [← e1] at hk
     conv=>whnf
     exact hk _ hb3 ho3
    ·rw [partEqLoop_go hI3 hJ3 (by omega) i4 j4 (by omega)] at e1
     conv=>whnf
     (first | refine need_intro (⟨by omega,by omega⟩) ?_ | refine must.mk (⟨by omega,by omega⟩) ?_);conv=>whnf
     refine ⟨_,loadR aggE1 sizE1 S.len hb3 j' rfl (by omega),?_⟩;conv=>whnf
     (first | refine need_intro (⟨by omega,by omega⟩) ?_ | refine must.mk (⟨by omega,by omega⟩) ?_);conv=>whnf
     refine ⟨_,loadR aggE1 sizE1 S.len hb3 i' rfl (by omega),?_⟩;conv=>whnf
     (first | refine need_intro (⟨by omega,by omega⟩) ?_ | refine must.mk (⟨by omega,by omega⟩) ?_);conv=>whnf
     refine wr_intro (by exact storeR sizE1 S.len S.one hb3 i' rfl (by omega) d1[j']!) (fun h4 at_h4 ot_h4=>?_)
     try (conv=>whnf)
     refine ⟨trivial,?_⟩;conv=>whnf
     (first | refine need_intro (⟨by omega,by omega⟩) ?_ | refine must.mk (⟨by omega,by omega⟩) ?_);conv=>whnf
     refine wr_intro (by exact storeR sizE1 S.len S.one at_h4 j' rfl (by rw [setIf_size];omega) d1[i']!) (fun h5 at_h5 ot_h5=>?_)
     try (conv=>whnf)
     refine ⟨trivial,?_⟩;conv=>whnf
     refine ov_eq (show (i':Int)+1=((i'+1:Nat):Int) by omega) (by omega) ?_
     conv=>whnf
     refine ov_eq (show (j':Int) - 1=((j' - 1:Nat):Int) by omega) (by omega) ?_
     conv=>whnf
     exact ⟨j' - 1+2 - (i'+1),by omega,i'+1,j' - 1,swp d1 i' j',rfl,rfl,by omega,by omega,by omega,by rw [swp_size];exact s1,e1,at_h5,fun c hc=>by rw [ot_h5 c hc,ot_h4 c hc];exact ho3 c hc⟩
  ·rw [scanDown_stop (fun hh=>by omega)] at hJ2
   have hJ3:=hJ.trans hJ2.symm
   conv=>whnf
   refine bsel_intro (fun q5=>?_) (fun q5=>?_) <;> try simp only [bsL] at q5
   ·rw [partEqLoop_end hI3 hJ3 (by omega)] at e1
    rw [← e1] at hk
    conv=>whnf
    exact hk _ hb3 ho3
   ·rw [partEqLoop_go hI3 hJ3 (by omega) i4 j4 (by omega)] at e1
    conv=>whnf
    (first | refine need_intro (⟨by omega,by omega⟩) ?_ | refine must.mk (⟨by omega,by omega⟩) ?_);conv=>whnf
    refine ⟨_,loadR aggE1 sizE1 S.len hb3 j' rfl (by omega),?_⟩;conv=>whnf
    (first | refine need_intro (⟨by omega,by omega⟩) ?_ | refine must.mk (⟨by omega,by omega⟩) ?_);conv=>whnf
    refine ⟨_,loadR aggE1 sizE1 S.len hb3 i' rfl (by omega),?_⟩;conv=>whnf
    (first | refine need_intro (⟨by omega,by omega⟩) ?_ | refine must.mk (⟨by omega,by omega⟩) ?_);conv=>whnf
    refine wr_intro (by exact storeR sizE1 S.len S.one hb3 i' rfl (by omega) d1[j']!) (fun h4 at_h4 ot_h4=>?_)
    try (conv=>whnf)
    refine ⟨trivial,?_⟩;conv=>whnf
    (first | refine need_intro (⟨by omega,by omega⟩) ?_ | refine must.mk (⟨by omega,by omega⟩) ?_);conv=>whnf
    refine wr_intro (by exact storeR sizE1 S.len S.one at_h4 j' rfl (by rw [setIf_size];omega) d1[i']!) (fun h5 at_h5 ot_h5=>?_)
    try (conv=>whnf)
    refine ⟨trivial,?_⟩;conv=>whnf
    refine ov_eq (show (i':Int)+1=((i'+1:Nat):Int) by omega) (by omega) ?_
    conv=>whnf
    refine ov_eq (show (j':Int) - 1=((j' - 1:Nat):Int) by omega) (by omega) ?_
    conv=>whnf
    exact ⟨j' - 1+2 - (i'+1),by omega,i'+1,j' - 1,swp d1 i' j',rfl,rfl,by omega,by omega,by omega,by rw [swp_size];exact s1,e1,at_h5,fun c hc=>by rw [ot_h5 c hc,ot_h4 c hc];exact ho3 c hc⟩
end
end Go.Proofs.YtdhkjcdneidgaaaGreatDoor
