/-
  Sorting of heats: patterns broken. (UNDER WAY.)
-/
import Derived.Test.YtdhkjcdneidgaaaGreatDoorPdqF
import Derived.Test.YtdhkjcdneidgaaaGreatDoorTrK
import Derived.Sort.LotD5
import Derived.Sort.Walk7
import Derived.Sort.WalkA14
import Derived.Laws.Bits64
namespace Go.Proofs.YtdhkjcdneidgaaaGreatDoor
set_option linter.unusedSimpArgs false
set_option linter.unusedVariables false
set_option linter.unusedSimpArgs false
set_option linter.unusedVariables false
open Go Go.Mid Go.RowKit
open Go.Sort (swp xorNextN breakPatterns)
attribute [local irreducible] mid
section
set_option maxHeartbeats 8000000
set_option maxRecDepth 10000
variable {h:Hp} {K:Value→Hp→Prop}
theorem aggXs:isAggT Tryz.prog 190=some false:=by kernel_rfl
theorem sizXs:sizeT Tryz.prog 190=some 1:=by kernel_rfl
theorem xorU (a b:Nat) (ha:a<18446744073709551616) (hb:b<18446744073709551616):IntKind.u64.wrap (BitVec.ofInt IntKind.u64.bits (a:Int) ^^^ BitVec.ofInt IntKind.u64.bits (b:Int)).toNat=((a ^^^ b:Nat):Int):=bits_xor_u64_nat a b ha hb
theorem nextE_x {c v:Nat} (hv:v<18446744073709551616) (hc:h c=some (rowO 190 [.int .u64 v]))
  (hk:∀ h',h' c=some (rowO 190 [.int .u64 (xorNextN v:Nat)])→(∀ x,x≠c→h' x=h x)→K (.int .u64 (xorNextN v:Nat)) h'):X Tryz.prog 127 #[.pointer (some ⟨c,0,none⟩)] h K:=by
 have p1:∀ x:Nat,IntKind.u64.wrap ((x:Int)*2 ^ min (Int.toNat 13) IntKind.u64.bits)=((x*8192 % 18446744073709551616:Nat):Int):=fun x=>by
  rw [IntKind.wrap_u64];show (x:Int)*8192 % _=_;omega
 have p3:∀ x:Nat,IntKind.u64.wrap ((x:Int)*2 ^ min (Int.toNat 17) IntKind.u64.bits)=((x*131072 % 18446744073709551616:Nat):Int):=fun x=>by
  rw [IntKind.wrap_u64];show (x:Int)*131072 % _=_;omega
 have hlt:∀ x:Nat,x % 18446744073709551616<18446744073709551616:=fun x=>Nat.mod_lt _ (by decide)
 have hx:∀ x z:Nat,x<18446744073709551616→z<18446744073709551616→x ^^^ z<18446744073709551616:=fun x z h1 h2=>Nat.xor_lt_two_pow (n:=64) h1 h2
 obtain ⟨u,hu⟩:∃ u,v ^^^ (v*8192 % 18446744073709551616)=u:=⟨_,rfl⟩
 have hul:u<18446744073709551616:=hu ▸ hx _ _ hv (hlt _)
 obtain ⟨z,hz⟩:∃ z,u ^^^ (u / 128)=z:=⟨_,rfl⟩
 have hzl:z<18446744073709551616:=hz ▸ hx _ _ hul (by omega)
 have e0:xorNextN v=z ^^^ (z*131072 % 18446744073709551616):=by rw [← hz,← hu];rfl
 rw [e0] at hk
 refine fnv (args:=_) mixed [] [] [] Tryz.func127 rfl (by kernel_rfl) ?_;conv=>whnf
 refine ⟨_,loadC0 aggXs hc rfl,?_⟩;conv=>whnf
 refine ⟨_,loadC0 aggXs hc rfl,?_⟩;conv=>whnf
 refine ov_by (p1 v) ?_
 conv=>whnf
 refine val_by (xorU _ _ hv (hlt _)) ?_;conv=>whnf
 rw [hu]
 refine wr_intro (by exact storeC0 sizXs hc (Nat.zero_lt_succ 0) rfl rfl) (fun H1 at_H1 ot_H1=>?_)
 try (conv=>whnf)
 have g1:H1 c=some (rowO 190 [.int .u64 u]):=at_H1
 refine ⟨trivial,?_⟩;conv=>whnf
 refine ⟨_,loadC0 aggXs g1 rfl,?_⟩;conv=>whnf
 refine ⟨_,loadC0 aggXs g1 rfl,?_⟩;conv=>whnf
 have d2:((u:Int)).fdiv (2 ^ min (Int.toNat 7) IntKind.u64.bits)=((u / 128:Nat):Int):=by
  show ((u:Int)).fdiv 128=_
  rw [Int.fdiv_eq_ediv_of_nonneg _ (by omega)]
  omega
 refine val_by (d2) ?_;conv=>whnf
 refine val_by (xorU _ _ hul (by omega)) ?_;conv=>whnf
 rw [hz]
 refine wr_intro (by exact storeC0 sizXs g1 (Nat.zero_lt_succ 0) rfl rfl) (fun H2 at_H2 ot_H2=>?_)
 try (conv=>whnf)
 have g2:H2 c=some (rowO 190 [.int .u64 z]):=at_H2
 refine ⟨trivial,?_⟩;conv=>whnf
 refine ⟨_,loadC0 aggXs g2 rfl,?_⟩;conv=>whnf
 refine ⟨_,loadC0 aggXs g2 rfl,?_⟩;conv=>whnf
 refine ov_by (p3 z) ?_
 conv=>whnf
 refine val_by (xorU _ _ hzl (hlt _)) ?_;conv=>whnf
 refine wr_intro (by exact storeC0 sizXs g2 (Nat.zero_lt_succ 0) rfl rfl) (fun H3 at_H3 ot_H3=>?_)
 try (conv=>whnf)
 have g3:H3 c=some (rowO 190 [.int .u64 ((z ^^^ (z*131072 % 18446744073709551616):Nat):Int)]):=at_H3
 refine ⟨trivial,?_⟩;conv=>whnf
 refine ⟨_,loadC0 aggXs g3 rfl,?_⟩;conv=>whnf
 exact hk H3 g3 fun x hx=>by rw [ot_H3 x hx,ot_H2 x hx,ot_H1 x hx]
theorem blenN_x (m:Nat) (hm:m<2 ^ 30) (hk:K (.int .i64 (Go.Sort.bitsLen m:Nat)) h):X Tryz.prog 66 #[.int .u64 m] h K :=
 X.ofBelow (fun w0 w s=>(Tryz.bits_Len m w (by omega) (by omega)).mono fun e w' hh=>⟨hh.1.trans (by rw [Int.toNat_natCast,bitLen_eq m (by omega)]),by rw [hh.2];exact Below.refl _ _⟩) hk
theorem npowE_x (m:Nat) (hm:m<2 ^ 30) (hk:K (.int .u64 ((1 <<< Go.Sort.bitsLen m:Nat):Int)) h):X Tryz.prog 126 #[.int .i64 m] h K:=by
 have hb:Go.Sort.bitsLen m≤30:=(Go.Sort.bitsLen_le_iff m 30).2 hm
 have hp:1 <<< Go.Sort.bitsLen m≤2 ^ 30:=by rw [Nat.one_shiftLeft];exact Nat.pow_le_pow_right (by decide) hb
 have e:IntKind.u64.wrap (1*2 ^ min (((Go.Sort.bitsLen m:Nat):Int)).toNat IntKind.u64.bits)=((1 <<< Go.Sort.bitsLen m:Nat):Int):=by
  rw [IntKind.wrap_u64,Int.toNat_natCast,show min (Go.Sort.bitsLen m) IntKind.u64.bits=Go.Sort.bitsLen m from Nat.min_eq_left (Nat.le_trans hb (by decide)),Int.one_mul,Nat.one_shiftLeft]
  rw [Nat.one_shiftLeft] at hp
  have:((2 ^ Go.Sort.bitsLen m:Nat):Int)=2 ^ Go.Sort.bitsLen m:=by push_cast;rfl
  rw [← this]
  clear this hb
  generalize 2 ^ Go.Sort.bitsLen m=q at *
  omega
 refine fnv (args:=_) mixed [] [] [] Tryz.func126 rfl (by kernel_rfl) ?_;conv=>whnf
 refine ov_by (show IntKind.u64.wrap (m:Int)=(m:Int) by rw [IntKind.wrap_u64];omega) ?_
 conv=>whnf
 refine blenN_x m hm ?_
 conv=>whnf
 refine ov_by e ?_
 conv=>whnf
 exact hk
end
end Go.Proofs.YtdhkjcdneidgaaaGreatDoor

namespace Go.Proofs.YtdhkjcdneidgaaaGreatDoor
set_option linter.unusedSimpArgs false
set_option linter.unusedVariables false
set_option linter.unusedSimpArgs false
set_option linter.unusedVariables false
open Go Go.Mid Go.RowKit
open Go.Sort (swp xorNextN xorNext breakPatterns)
attribute [local irreducible] mid
section
set_option maxHeartbeats 8000000
set_option maxRecDepth 10000
variable {h:Hp} {K:Value→Hp→Prop}
variable {α:Type} [Inhabited α]
variable {enc:α→List Value} {lt:α→α→Bool} {y:Value}
theorem andU (a b:Nat) (ha:a<18446744073709551616) (hb:b<18446744073709551616):IntKind.u64.wrap (BitVec.ofInt IntKind.u64.bits (a:Int) &&& BitVec.ofInt IntKind.u64.bits (b:Int)).toNat=((a &&& b:Nat):Int):=by
 have hx:a &&& b<2 ^ 64:=Nat.lt_of_le_of_lt Nat.and_le_left (by omega)
 have h1:(BitVec.ofInt 64 (a:Int)).toNat=a:=by
  rw [BitVec.ofInt_natCast,BitVec.toNat_ofNat];exact Nat.mod_eq_of_lt (by omega)
 have h2:(BitVec.ofInt 64 (b:Int)).toNat=b:=by
  rw [BitVec.ofInt_natCast,BitVec.toNat_ofNat];exact Nat.mod_eq_of_lt (by omega)
 show IntKind.u64.wrap ((BitVec.ofInt 64 (a:Int) &&& BitVec.ofInt 64 (b:Int)).toNat:Int)=_
 rw [BitVec.toNat_and,h1,h2,IntKind.wrap_u64]
 omega
theorem brkE_x (S:Srt1 enc lt y) {b cap n:Nat} {d:Array α} {rest:List Value} (lo hi:Nat) (hb:h b=some (RowD 62 enc d rest)) (hd:d.size=n) (hsz:n<2 ^ 30) (hcap:n≤cap) (hlh:lo+12<hi) (hhi:hi≤n)
  (hk:∀ h',h' b=some (RowD 62 enc (breakPatterns d lo hi) rest)→(∀ c o,c≠b→h c=some o→h' c=some o)→K (.tuple #[]) h'):X Tryz.prog 93 #[.slice (some ⟨b,0,none⟩) n cap,.int .i64 lo,.int .i64 hi,y] h K:=by
 obtain ⟨m,rfl⟩:∃ m,hi=lo+m:=⟨hi - lo,by omega⟩
 rw [breakPatterns_eq d lo m (by omega)] at hk
 have hM:((lo+m:Nat):Int) - (lo:Int)=(m:Int):=by omega
 have td:(m:Int).tdiv 4=((m / 4:Nat):Int):=rfl
 have b1:=Nat.mul_div_le m 4
 have hp0:1≤1 <<< Go.Sort.bitsLen m:=by rw [Nat.one_shiftLeft];exact Nat.one_le_two_pow
 have hp1:1 <<< Go.Sort.bitsLen m≤2*m:=by rw [Nat.one_shiftLeft];exact Go.Sort.two_pow_bitsLen_le (by omega)
 refine fnv (args:=_) mixed [] [] [] Tryz.func93 rfl (by kernel_rfl) ?_;conv=>whnf
 refine ov_eq hM (by omega) ?_
 conv=>whnf
 refine bsel_true (by simp;omega) ?_;conv=>whnf
 refine ov_by (show IntKind.u64.wrap (m:Int)=(m:Int) by rw [IntKind.wrap_u64];omega) ?_
 conv=>whnf
 refine new_intro (o:=rowO 190 [.int .u64 0]) (fun c h1 n_c le_c at_c ot_c=>?_);conv=>whnf
 refine wr_intro (by exact storeC0 sizXs at_c (Nat.zero_lt_succ 0) rfl rfl) (fun h2 at_h2 ot_h2=>?_)
 try (conv=>whnf)
 have hbc:b≠c:=Hp.ne n_c hb
 have hb2:=(ot_h2 b hbc).trans (le_c _ _ hb)
 conv=>whnf
 refine npowE_x m (by omega) ?_
 generalize 1 <<< Go.Sort.bitsLen m=M at *
 conv=>whnf
 refine ov_eq td (by omega) ?_
 conv=>whnf
 refine ov_eq (show ((m / 4:Nat):Int)*2=((m / 4*2:Nat):Int) by omega) (by omega) ?_
 conv=>whnf
 refine ov_eq (show (lo:Int)+((m / 4*2:Nat):Int)=((lo+m / 4*2:Nat):Int) by omega) (by omega) ?_
 conv=>whnf
 refine ov_eq (show ((lo+m / 4*2:Nat):Int) - 1=((lo+m / 4*2 - 1:Nat):Int) by omega) (by omega) ?_
 generalize hi0:lo+m / 4*2 - 1=i0 at hk ⊢
 conv=>whnf
 have hm64:(UInt64.ofNat m).toNat=m:=by rw [UInt64.toNat_ofNat'];exact Nat.mod_eq_of_lt (by omega)
 refine loop_at [11] [] (fun r vs _ h'=>∃ (t:Nat) (R:UInt64) (d':Array α),3 - t=r∧t≤3∧vs=[.v (.int .i64 ((i0+t:Nat):Int))]∧d'.size=n∧bpRest lo m M i0 (3 - t) t (R,d')=bpRest lo m M i0 3 0 (UInt64.ofNat m,d)∧h' c=some (rowO 190 [.int .u64 (R.toNat:Nat)])∧h' b=some (RowD 62 enc d' rest)∧∀ x o,x≠b→h x=some o→h' x=some o) 3 ⟨0,UInt64.ofNat m,d,rfl,by omega,rfl,hd,rfl,by rw [hm64];exact at_h2,hb2,fun x o _ e=>(ot_h2 x (Hp.ne n_c e)).trans (le_c x o e)⟩ ?_
 rintro r vs cs mm bx h3 ⟨t,R,d1,rfl,t3,rfl,s1,e1,hc3,hb3,ho3⟩
 conv=>whnf
 refine ov_eq td (by omega) ?_
 conv=>whnf
 refine ov_eq (show ((m / 4:Nat):Int)*2=((m / 4*2:Nat):Int) by omega) (by omega) ?_
 conv=>whnf
 refine ov_eq (show (lo:Int)+((m / 4*2:Nat):Int)=((lo+m / 4*2:Nat):Int) by omega) (by omega) ?_
 conv=>whnf
 refine ov_eq (show ((lo+m / 4*2:Nat):Int)+1=((lo+m / 4*2+1:Nat):Int) by omega) (by omega) ?_
 conv=>whnf
 refine bsel_intro (fun q1=>?_) (fun q1=>?_) <;> try simp only [bsL] at q1
 ·have t2:t<3:=by omega
  obtain ⟨o,ho⟩:∃ o,(if (xorNext R).toNat &&& (M - 1) ≥ m then ((xorNext R).toNat &&& (M - 1)) - m else (xorNext R).toNat &&& (M - 1))=o:=⟨_,rfl⟩
  rw [bp_step lo m M i0 t R d1 o t2 ho] at e1
  have hx:=Go.Sort.xorNext_toNat R
  conv=>whnf
  refine nextE_x (UInt64.toNat_lt R) hc3 fun h4 c4 o4=>?_
  rw [← hx] at c4 ⊢
  have hR2:=UInt64.toNat_lt (xorNext R)
  clear hx
  generalize xorNext R=R2 at *
  have b4:=(o4 b hbc).trans hb3
  have ha:=andU R2.toNat (M - 1) hR2 (by omega)
  have hw:R2.toNat &&& (M - 1)≤M - 1:=Nat.and_le_right
  generalize hwe:R2.toNat &&& (M - 1)=w at *
  conv=>whnf
  refine ov_by (show IntKind.u64.wrap ((M:Int) - 1)=((M - 1:Nat):Int) by rw [IntKind.wrap_u64];omega) ?_
  conv=>whnf
  refine val_by (ha) ?_;conv=>whnf
  refine ov_eq rfl (by omega) ?_
  conv=>whnf
  refine bsel_intro (fun q2=>?_) (fun q2=>?_) <;> try simp only [bsL] at q2
  ·rw [if_pos (by omega)] at ho
   conv=>whnf
   refine ov_eq (show (w:Int) - (m:Int)=(o:Int) by omega) (by omega) ?_
   conv=>whnf
   refine ov_eq (show (lo:Int)+(o:Int)=((lo+o:Nat):Int) by omega) (by omega) ?_
   conv=>whnf
   refine ov_eq (show (lo:Int)+(o:Int)=((lo+o:Nat):Int) by omega) (by omega) ?_
   conv=>whnf
   (first | refine need_intro (⟨by omega,by omega⟩) ?_ | refine must.mk (⟨by omega,by omega⟩) ?_);conv=>whnf
   refine ⟨_,loadR aggE1 sizE1 S.len b4 (lo+o) rfl (by omega),?_⟩;conv=>whnf
   (first | refine need_intro (⟨by omega,by omega⟩) ?_ | refine must.mk (⟨by omega,by omega⟩) ?_);conv=>whnf
   refine ⟨_,loadR aggE1 sizE1 S.len b4 (i0+t) rfl (by omega),?_⟩;conv=>whnf
   (first | refine need_intro (⟨by omega,by omega⟩) ?_ | refine must.mk (⟨by omega,by omega⟩) ?_);conv=>whnf
   refine wr_intro (by exact storeR sizE1 S.len S.one b4 (i0+t) rfl (by omega) d1[lo+o]!) (fun h5 at_h5 ot_h5=>?_)
   try (conv=>whnf)
   refine ⟨trivial,?_⟩;conv=>whnf
   (first | refine need_intro (⟨by omega,by omega⟩) ?_ | refine must.mk (⟨by omega,by omega⟩) ?_);conv=>whnf
   refine wr_intro (by exact storeR sizE1 S.len S.one at_h5 (lo+o) rfl (by rw [setIf_size];omega) d1[i0+t]!) (fun h6 at_h6 ot_h6=>?_)
   try (conv=>whnf)
   refine ⟨trivial,?_⟩;conv=>whnf
   refine ov_eq (show ((i0+t:Nat):Int)+1=((i0+(t+1):Nat):Int) by omega) (by omega) ?_
   conv=>whnf
   exact ⟨3 - (t+1),by omega,t+1,R2,swp d1 (i0+t) (lo+o),rfl,by omega,rfl,by rw [swp_size];exact s1,e1,((ot_h6 c (Ne.symm hbc)).trans (ot_h5 c (Ne.symm hbc))).trans c4,at_h6,fun x p hxb e=>by rw [ot_h6 x hxb,ot_h5 x hxb,o4 x (Hp.ne n_c e)];exact ho3 x p hxb e⟩
  ·rw [if_neg (by omega)] at ho
   have ho2:=ho.symm
   clear ho
   subst ho2
   conv=>whnf
   refine ov_eq (show (lo:Int)+(o:Int)=((lo+o:Nat):Int) by omega) (by omega) ?_
   conv=>whnf
   refine ov_eq (show (lo:Int)+(o:Int)=((lo+o:Nat):Int) by omega) (by omega) ?_
   conv=>whnf
   (first | refine need_intro (⟨by omega,by omega⟩) ?_ | refine must.mk (⟨by omega,by omega⟩) ?_);conv=>whnf
   refine ⟨_,loadR aggE1 sizE1 S.len b4 (lo+o) rfl (by omega),?_⟩;conv=>whnf
   (first | refine need_intro (⟨by omega,by omega⟩) ?_ | refine must.mk (⟨by omega,by omega⟩) ?_);conv=>whnf
   refine ⟨_,loadR aggE1 sizE1 S.len b4 (i0+t) rfl (by omega),?_⟩;conv=>whnf
   (first | refine need_intro (⟨by omega,by omega⟩) ?_ | refine must.mk (⟨by omega,by omega⟩) ?_);conv=>whnf
   refine wr_intro (by exact storeR sizE1 S.len S.one b4 (i0+t) rfl (by omega) d1[lo+o]!) (fun h5 at_h5 ot_h5=>?_)
   try (conv=>whnf)
   refine ⟨trivial,?_⟩;conv=>whnf
   (first | refine need_intro (⟨by omega,by omega⟩) ?_ | refine must.mk (⟨by omega,by omega⟩) ?_);conv=>whnf
   refine wr_intro (by exact storeR sizE1 S.len S.one at_h5 (lo+o) rfl (by rw [setIf_size];omega) d1[i0+t]!) (fun h6 at_h6 ot_h6=>?_)
   try (conv=>whnf)
   refine ⟨trivial,?_⟩;conv=>whnf
   refine ov_eq (show ((i0+t:Nat):Int)+1=((i0+(t+1):Nat):Int) by omega) (by omega) ?_
   conv=>whnf
   exact ⟨3 - (t+1),by omega,t+1,R2,swp d1 (i0+t) (lo+o),rfl,by omega,rfl,by rw [swp_size];exact s1,e1,((ot_h6 c (Ne.symm hbc)).trans (ot_h5 c (Ne.symm hbc))).trans c4,at_h6,fun x p hxb e=>by rw [ot_h6 x hxb,ot_h5 x hxb,o4 x (Hp.ne n_c e)];exact ho3 x p hxb e⟩
 ·obtain rfl:t=3:=by omega
  have e2:d1=bpRest lo m M i0 3 0 (UInt64.ofNat m,d):=e1
  rw [← e2] at hk
  conv=>whnf
  exact hk _ hb3 ho3
end
end Go.Proofs.YtdhkjcdneidgaaaGreatDoor
