/-
  The operations on words' bits, as those of natural numbers.
-/
import Derived.Test.YtnjlneefddlaoaaGreatWoC
import Derived.KernelRfl
import Derived.Test.YtnjlneefddlaoaaGreatMidY
set_option linter.unusedSimpArgs false
set_option linter.unusedVariables false
set_option maxHeartbeats 8000000
set_option maxRecDepth 10000
set_option linter.unusedSimpArgs false
set_option linter.unusedVariables false
namespace Go.Proofs.YtnjlneefddlaoaaGreat
open Go Go.Mid Go.RowKit
attribute [local irreducible] mid
def spotP (len addr:Nat) (n:Int):Option Nat:=if 1≤n∧2147483648≤addr∧((addr:Int) - 2147483648+n≤len) then some (addr - 2147483648) else none
theorem spot_some {len addr:Nat} {n:Int} {i:Nat} (h:spotP len addr n=some i):1≤n∧(i:Int)+n≤len:=by
 unfold spotP at h
 split at h
 ·rename_i e
  have:=Option.some.inj h
  omega
 ·cases h
def spotV:Option Nat→Value
 | some a=>.tuple #[.int .i64 a,.bool true]
 | none=>.tuple #[.int .i64 0,.bool false]
def fstN (a:Ak):Int:=if 0<a.cut then a.cut else a.size
def partsP (len:Nat) (a:Ak):Option (Nat×Option Nat):=match spotP len a.addr (fstN a) with
 | none=>none
 | some i=>if a.cut=0 then some (i,none) else match spotP len a.next (a.size - a.cut) with
  | none=>none
  | some j=>some (i,some j)
def partsV (rb:Nat) (a:Ak):Option (Nat×Option Nat)→Value
 | none=>.tuple #[.slice none 0 0,.slice none 0 0,.bool false]
 | some (i,none)=>.tuple #[.slice (some ⟨rb,i,none⟩) (fstN a).toNat (fstN a).toNat,.slice none 0 0,.bool true]
 | some (i,some j)=>.tuple #[.slice (some ⟨rb,i,none⟩) (fstN a).toNat (fstN a).toNat,.slice (some ⟨rb,j,none⟩) (a.size - a.cut).toNat (a.size - a.cut).toNat,.bool true]
section
variable {h:Hp} {K:Value→Hp→Prop}
theorem WoN.conf {k:Hp} {w:Nat} {W:Wd} (o:WoN k h w W):∃ l,h w=some (rowO worT (W.c.cs++l)):=by
 obtain ⟨_,_,_,_,_,_,_,_,_,_,hw,_⟩:=o
 exact ⟨_,hw⟩
theorem whart_x {k:Hp} {w:Nat} {W:Wd} (o:WoN k h w W) (i:Int) (hk:K (.bool (decide (0≤i∧i<W.c.harts))) h):X Tryz.prog 45 #[.pointer (some ⟨w,0,none⟩),.int .i64 i] h K:=by
 obtain ⟨l,hw⟩:=o.conf
 refine fnv (args:=_) mixed [] [] [] Tryz.func45 rfl (by kernel_rfl) (cw_ ?_)
 refine br_ (fun q1=>?_) fun q1=>?_
 ·conv=>whnf
  refine ⟨_,loadCA (k:=0) (by simp [addr_add]) aggIn hw rfl,cw_ ?_⟩
  exact kq hk (bI (by rw [Bool.eq_iff_iff];simp;omega))
 ·conv=>whnf
  exact kq hk (bI (by symm;simp;omega))
theorem spot_x {w rb cap b len:Nat} {c:Cn} {r:List (Bool×Nat)} {m:Ml} (hw:h w=some (rowO worT (worC c (.slice (some ⟨rb,0,none⟩) len cap) r b m))) (hl:len≤2 ^ 30) (addr:Nat) (ha:addr<18446744073709551616) (n:Int) (hn:n≤9223372036854775807) (hk:K (spotV (spotP len addr n)) h):X Tryz.prog 68 #[.pointer (some ⟨w,0,none⟩),.int .u64 addr,.int .i64 n] h K:=by
 have hno:¬ (1≤n∧2147483648≤addr∧((addr:Int) - 2147483648+n≤len))→K (.tuple #[.int .i64 0,.bool false]) h:=fun e=>by
  unfold spotP at hk;rw [if_neg e] at hk;exact hk
 have hyes:1≤n∧2147483648≤addr∧((addr:Int) - 2147483648+n≤len)→K (.tuple #[.int .i64 ((addr - 2147483648:Nat):Int),.bool true]) h:=fun e=>by
  unfold spotP at hk;rw [if_pos e] at hk;exact hk
 clear hk
 obtain ⟨x,hx⟩:∃ x:Int,(addr:Int)=x:=⟨_,rfl⟩
 rw [hx]
 refine fnv (args:=_) mixed [] [] [] Tryz.func68 rfl (by kernel_rfl) (cw_ ?_)
 refine br_ (fun q1=>?_) fun q1=>?_
 ·conv=>whnf
  exact hno (by omega)
 conv=>whnf
 refine br_ (fun q2=>?_) fun q2=>?_
 ·conv=>whnf
  exact hno (by omega)
 conv=>whnf
 obtain ⟨off,ho⟩:∃ off:Nat,x - 2147483648=off:=⟨(x - 2147483648).toNat,by omega⟩
 have hof:addr - 2147483648=off:=by omega
 rw [hof] at hyes
 rw [ho]
 refine ov_u64 (by omega) (cw_ ?_)
 refine ⟨_,loadC (i:=4) aggBy hw rfl,cw_ ?_⟩
 refine ov_u64 (by omega) (cw_ ?_)
 refine br_ (fun q3=>?_) fun q3=>?_
 ·conv=>whnf
  exact hno (by omega)
 conv=>whnf
 refine ov_u64 (by omega) (cw_ ?_)
 refine ov_u64 (by omega) (cw_ ?_)
 refine br_ (fun q4=>?_) fun q4=>?_
 ·conv=>whnf
  exact hno (by omega)
 conv=>whnf
 refine n_ ?_
 exact hyes (by omega)
theorem sz8W:Tryz.prog.types[5].size=1:=by kernel_rfl
theorem sl_cut (rb i f:Nat):Value.slice (Option.map (fun x=>Addr.add x ((i:Int).toNat*Tryz.prog.types[5].size)) (some ⟨rb,0,none⟩)) (((i+f:Nat):Int).toNat - (i:Int).toNat) (((i+f:Nat):Int).toNat - (i:Int).toNat)=.slice (some ⟨rb,i,none⟩) f f:=by
 rw [sz8W,Int.toNat_natCast,Int.toNat_natCast,show i+f - i=f by omega,Nat.mul_one]
 show Value.slice (some (Addr.add ⟨rb,0,none⟩ i)) f f=_
 rw [addr_add,Nat.zero_add]
theorem parts_x {w rb cap b len:Nat} {c:Cn} {r:List (Bool×Nat)} {m:Ml} (hw:h w=some (rowO worT (worC c (.slice (some ⟨rb,0,none⟩) len cap) r b m))) (hl:len≤2 ^ 30) (hcap:len≤cap) (a:Ak) (ha:a.ok) (hsz:0≤a.cut∧a.cut<a.size∧a.size≤8) (hk:K (partsV rb a (partsP len a)) h):X Tryz.prog 47 #[.pointer (some ⟨w,0,none⟩),.agg a.cs.toArray] h K:=by
 have a1:=ha.cut0
 have a2:=ha.cut1
 have a3:=ha.size0
 have a4:=ha.size1
 unfold partsP at hk
 refine X.forget ?_
 refine fnp (args:=_) mixed [] [] [] [(999999,[14])] Tryz.func47 rfl (by kernel_rfl) (cw_ ?_)
 refine new_intro (o:=rowO 59 a.cs) (fun z h1 n_z le_z at_z ot_z=>cw_ ?_)
 have hw1:=le_z _ _ hw
 refine ⟨_,loadC (i:=4) aggIn at_z rfl,cw_ ?_⟩
 refine ⟨_,loadC (i:=3) aggIn at_z rfl,cw_ ?_⟩
 refine if_at [7] [] (fun vs _ h'=>h1=h'∧vs=[.v (.int .i64 (fstN a))]) (fun e=>?_) (fun e=>?_) (fun vs cs mm bx h' hI=>?_)
 ·have e:0<a.cut:=by simpa using e
  conv=>whnf
  refine ⟨_,loadC (i:=3) aggIn at_z rfl,cw_ ?_⟩
  exact ⟨rfl,by show [MV.v (.int .i64 a.cut)]=_;rw [fstN,if_pos e]⟩
 ·have e:¬ 0<a.cut:=by simpa using e
  exact ⟨rfl,by show [MV.v (.int .i64 a.size)]=_;rw [fstN,if_neg e]⟩
 obtain ⟨rfl,rfl⟩:=hI
 have hf1:fstN a≤9223372036854775807:=by unfold fstN;split <;> omega
 conv=>whnf
 refine ⟨_,loadC (i:=1) aggU at_z rfl,cw_ ?_⟩
 refine spot_x hw1 hl a.addr ha.addr (fstN a) hf1 ?_
 cases hs:spotP len a.addr (fstN a) with
 | none =>
  rw [hs] at hk
  conv=>whnf
  exact ⟨h,le_z,hk⟩
 | some i =>
  rw [hs] at hk
  conv=>whnf
  refine ⟨_,loadC (i:=4) aggBy hw1 rfl,cw_ ?_⟩
  obtain ⟨g1,g2⟩:=spot_some hs
  obtain ⟨f,hf⟩:∃ f:Nat,fstN a=f:=⟨(fstN a).toNat,by omega⟩
  simp only at hk
  have hA:a.cut=0→K (.tuple #[.slice (some ⟨rb,i,none⟩) f f,.slice none 0 0,.bool true]) h:=fun e=>by
   rw [if_pos e] at hk
   unfold partsV at hk
   rw [hf,Int.toNat_natCast] at hk
   exact hk
  rw [hf] at g1 g2 ⊢
  refine ov_eq (show (i:Int)+f=((i+f:Nat):Int) by omega) (by omega) (cw_ ?_)
  refine ov_eq (show (i:Int)+f=((i+f:Nat):Int) by omega) (by omega) (cw_ ?_)
  refine n_ ?_
  refine n_ ?_
  refine n_ ?_
  refine bf_ ?_
  refine ⟨_,loadC (i:=3) aggIn at_z rfl,cw_ ?_⟩
  refine br_ (fun q2=>?_) fun q2=>?_
  ·conv=>whnf
   exact ⟨h,le_z,kq (hA q2) (by rw [sl_cut];rfl)⟩
  ·rw [if_neg q2] at hk
   clear hA
   have hm0 : -9223372036854775808≤a.size - a.cut∧a.size - a.cut≤9223372036854775807:=by
    unfold fstN at hf
    split at hf <;> omega
   conv=>whnf
   refine ⟨_,loadC (i:=4) aggIn at_z rfl,cw_ ?_⟩
   refine ⟨_,loadC (i:=3) aggIn at_z rfl,cw_ ?_⟩
   refine n_ ?_
   refine ⟨_,loadC (i:=2) aggU at_z rfl,cw_ ?_⟩
   refine spot_x hw1 hl a.next ha.next (a.size - a.cut) hm0.2 ?_
   cases hs2:spotP len a.next (a.size - a.cut) with
   | none =>
    rw [hs2] at hk
    conv=>whnf
    exact ⟨h,le_z,hk⟩
   | some j =>
    rw [hs2] at hk
    obtain ⟨g3,g4⟩:=spot_some hs2
    obtain ⟨d,hd⟩:∃ d:Nat,a.size - a.cut=d:=⟨(a.size - a.cut).toNat,by omega⟩
    unfold partsV at hk
    simp only at hk
    rw [hf,Int.toNat_natCast,hd,Int.toNat_natCast] at hk
    rw [hd] at g3 g4 ⊢
    conv=>whnf
    refine ⟨_,loadC (i:=4) aggBy hw1 rfl,cw_ ?_⟩
    refine ov_eq (show (j:Int)+d=((j+d:Nat):Int) by omega) (by omega) (cw_ ?_)
    refine ov_eq (show (j:Int)+d=((j+d:Nat):Int) by omega) (by omega) (cw_ ?_)
    refine n_ ?_
    refine n_ ?_
    refine n_ ?_
    refine bf_ ?_
    exact ⟨h,le_z,kq hk (by rw [sl_cut,sl_cut];rfl)⟩
end
end Go.Proofs.YtnjlneefddlaoaaGreat
namespace Go.Bits
def bitN (w i:Nat):Nat:=w / 2 ^ i % 2
def ofL:List Nat→Nat
 | []=>0
 | b :: l=>2*ofL l+b
def bitsOf (n:Nat) (f:Nat→Nat):Nat:=ofL ((List.range n).map f)
def putN (w at_ size n:Nat):Nat:=bitsOf 64 fun i=>if at_≤i∧i<at_+size then bitN n (i - at_) else bitN w i
end Go.Bits
namespace Go.Bits
open Go Go.Mid
theorem bv64 {a:Nat} (h:a<2 ^ 64):(BitVec.ofInt IntKind.u64.bits (a:Int)).toNat=a:=by
 show (BitVec.ofInt 64 (a:Int)).toNat=a
 rw [BitVec.toNat_ofInt];omega
theorem w64 {a:Nat} (h:a<2 ^ 64):IntKind.u64.wrap (a:Int)=a:=IntWalk.u64_in _ (by omega)
theorem w8 {a:Nat} (h:a<2 ^ 8):IntKind.u8.wrap (a:Int)=a:=IntWalk.u8_in _ (by omega)
theorem or64 {a b:Nat} (ha:a<2 ^ 64) (hb:b<2 ^ 64):IntKind.u64.wrap ((BitVec.ofInt IntKind.u64.bits (a:Int) ||| BitVec.ofInt IntKind.u64.bits (b:Int)).toNat:Int)=((a ||| b:Nat):Int):=by
 rw [BitVec.toNat_or,bv64 ha,bv64 hb];exact w64 (Nat.or_lt_two_pow ha hb)
theorem shr64 (a k:Nat) (hk:k≤64):(a:Int).fdiv (2 ^ (min ((k:Int)).toNat IntKind.u64.bits))=((a / 2 ^ k:Nat):Int):=by
 rw [Int.toNat_natCast,show min k IntKind.u64.bits=k from Nat.min_eq_left hk,Int.fdiv_eq_ediv_of_nonneg _ (Int.le_of_lt (Int.pow_pos (by decide)))]
 norm_cast
theorem shl64 (a k:Nat) (hk:k≤64):IntKind.u64.wrap ((a:Int)*2 ^ (min ((k:Int)).toNat IntKind.u64.bits))=((a*2 ^ k % 18446744073709551616:Nat):Int):=by
 rw [Int.toNat_natCast,show min k IntKind.u64.bits=k from Nat.min_eq_left hk,show IntKind.u64.wrap ((a:Int)*2 ^ k)=((a:Int)*2 ^ k) % 18446744073709551616 by unfold IntKind.wrap;simp [IntKind.signed,IntKind.bits]]
 rw [show (a:Int)*2 ^ k=((a*2 ^ k:Nat):Int) by push_cast;rfl]
 omega
end Go.Bits
