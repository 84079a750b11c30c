/-
  The operations on words' bits, as those of natural numbers.
-/
import Derived.KernelRfl
import Derived.Test.YtnjlneefddlaoaaGreatMidX
set_option linter.unusedSimpArgs false
set_option linter.unusedVariables false
set_option maxHeartbeats 8000000
set_option maxRecDepth 10000
set_option linter.unusedSimpArgs false
set_option linter.unusedVariables false
namespace Go.Bits
def bitN (w i:Nat):Nat:=w / 2 ^ i % 2
def ofL:List Nat→Nat
 | []=>0
 | b :: l=>2*ofL l+b
def bitsOf (n:Nat) (f:Nat→Nat):Nat:=ofL ((List.range n).map f)
def putN (w at_ size n:Nat):Nat:=bitsOf 64 fun i=>if at_≤i∧i<at_+size then bitN n (i - at_) else bitN w i
end Go.Bits
namespace Go.Bits
open Go Go.Mid
theorem bv64 {a:Nat} (h:a<2 ^ 64):(BitVec.ofInt IntKind.u64.bits (a:Int)).toNat=a:=by
 show (BitVec.ofInt 64 (a:Int)).toNat=a
 rw [BitVec.toNat_ofInt];omega
theorem w64 {a:Nat} (h:a<2 ^ 64):IntKind.u64.wrap (a:Int)=a:=IntWalk.u64_in _ (by omega)
theorem w8 {a:Nat} (h:a<2 ^ 8):IntKind.u8.wrap (a:Int)=a:=IntWalk.u8_in _ (by omega)
theorem or64 {a b:Nat} (ha:a<2 ^ 64) (hb:b<2 ^ 64):IntKind.u64.wrap ((BitVec.ofInt IntKind.u64.bits (a:Int) ||| BitVec.ofInt IntKind.u64.bits (b:Int)).toNat:Int)=((a ||| b:Nat):Int):=by
 rw [BitVec.toNat_or,bv64 ha,bv64 hb];exact w64 (Nat.or_lt_two_pow ha hb)
theorem shr64 (a k:Nat) (hk:k≤64):(a:Int).fdiv (2 ^ (min ((k:Int)).toNat IntKind.u64.bits))=((a / 2 ^ k:Nat):Int):=by
 rw [Int.toNat_natCast,show min k IntKind.u64.bits=k from Nat.min_eq_left hk,Int.fdiv_eq_ediv_of_nonneg _ (Int.le_of_lt (Int.pow_pos (by decide)))]
 norm_cast
theorem shl64 (a k:Nat) (hk:k≤64):IntKind.u64.wrap ((a:Int)*2 ^ (min ((k:Int)).toNat IntKind.u64.bits))=((a*2 ^ k % 18446744073709551616:Nat):Int):=by
 rw [Int.toNat_natCast,show min k IntKind.u64.bits=k from Nat.min_eq_left hk,show IntKind.u64.wrap ((a:Int)*2 ^ k)=((a:Int)*2 ^ k) % 18446744073709551616 by unfold IntKind.wrap;simp [IntKind.signed,IntKind.bits]]
 rw [show (a:Int)*2 ^ k=((a*2 ^ k:Nat):Int) by push_cast;rfl]
 omega
end Go.Bits
