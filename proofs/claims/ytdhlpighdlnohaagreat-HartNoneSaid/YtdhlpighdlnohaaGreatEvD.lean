/-
  Events as data.
-/
import Derived.Test.YtdhlpighdlnohaaGreatBitP
import Derived.Test.YtdhlpighdlnohaaGreatProg
import Derived.KernelRfl
set_option linter.unusedSimpArgs false
set_option linter.unusedVariables false
set_option maxHeartbeats 8000000
set_option maxRecDepth 10000
set_option linter.unusedSimpArgs false
set_option linter.unusedVariables false
namespace Go.Bits
open Go Go.Mid
theorem bv64 {a:Nat} (h:a<2 ^ 64):(BitVec.ofInt IntKind.u64.bits (a:Int)).toNat=a:=by
 show (BitVec.ofInt 64 (a:Int)).toNat=a
 rw [BitVec.toNat_ofInt];omega
theorem bv32 {a:Nat} (h:a<2 ^ 32):(BitVec.ofInt IntKind.u32.bits (a:Int)).toNat=a:=by
 show (BitVec.ofInt 32 (a:Int)).toNat=a
 rw [BitVec.toNat_ofInt];omega
theorem w64 {a:Nat} (h:a<2 ^ 64):IntKind.u64.wrap (a:Int)=a:=IntWalk.u64_in _ (by omega)
theorem w32 {a:Nat} (h:a<2 ^ 32):IntKind.u32.wrap (a:Int)=a:=IntWalk.u32_in _ (by omega)
theorem w8 {a:Nat} (h:a<2 ^ 8):IntKind.u8.wrap (a:Int)=a:=IntWalk.u8_in _ (by omega)
theorem and64 {a b:Nat} (ha:a<2 ^ 64) (hb:b<2 ^ 64):IntKind.u64.wrap ((BitVec.ofInt IntKind.u64.bits (a:Int) &&& BitVec.ofInt IntKind.u64.bits (b:Int)).toNat:Int)=((a &&& b:Nat):Int):=by
 rw [BitVec.toNat_and,bv64 ha,bv64 hb];exact w64 (Nat.and_lt_two_pow _ hb)
theorem or64 {a b:Nat} (ha:a<2 ^ 64) (hb:b<2 ^ 64):IntKind.u64.wrap ((BitVec.ofInt IntKind.u64.bits (a:Int) ||| BitVec.ofInt IntKind.u64.bits (b:Int)).toNat:Int)=((a ||| b:Nat):Int):=by
 rw [BitVec.toNat_or,bv64 ha,bv64 hb];exact w64 (Nat.or_lt_two_pow ha hb)
theorem xor64 {a b:Nat} (ha:a<2 ^ 64) (hb:b<2 ^ 64):IntKind.u64.wrap ((BitVec.ofInt IntKind.u64.bits (a:Int) ^^^ BitVec.ofInt IntKind.u64.bits (b:Int)).toNat:Int)=((a ^^^ b:Nat):Int):=by
 rw [BitVec.toNat_xor,bv64 ha,bv64 hb];exact w64 (Nat.xor_lt_two_pow ha hb)
theorem and32 {a b:Nat} (ha:a<2 ^ 32) (hb:b<2 ^ 32):IntKind.u32.wrap ((BitVec.ofInt IntKind.u32.bits (a:Int) &&& BitVec.ofInt IntKind.u32.bits (b:Int)).toNat:Int)=((a &&& b:Nat):Int):=by
 rw [BitVec.toNat_and,bv32 ha,bv32 hb];exact w32 (Nat.and_lt_two_pow _ hb)
theorem or32 {a b:Nat} (ha:a<2 ^ 32) (hb:b<2 ^ 32):IntKind.u32.wrap ((BitVec.ofInt IntKind.u32.bits (a:Int) ||| BitVec.ofInt IntKind.u32.bits (b:Int)).toNat:Int)=((a ||| b:Nat):Int):=by
 rw [BitVec.toNat_or,bv32 ha,bv32 hb];exact w32 (Nat.or_lt_two_pow ha hb)
def andN (a b:Nat):Nat:=bitsOf 64 fun i=>if bitN b i=1 then 0 else bitN a i
theorem andN_bit (a b i:Nat):bitN (andN a b) i=if i<64 then (if bitN b i=1 then 0 else bitN a i) else 0:=bitsOf_bit (fun i=>by split <;> first | exact bitN_lt _ _ | decide) i
theorem andN_lt (a b:Nat):andN a b<2 ^ 64:=bitsOf_lt (fun i=>by split <;> first | exact bitN_lt _ _ | decide)
theorem andNot64 {a b:Nat} (ha:a<2 ^ 64) (hb:b<2 ^ 64):IntKind.u64.wrap ((BitVec.ofInt IntKind.u64.bits (a:Int) &&& ~~~BitVec.ofInt IntKind.u64.bits (b:Int)).toNat:Int)=((andN a b:Nat):Int):=by
 have e:(BitVec.ofInt IntKind.u64.bits (a:Int) &&& ~~~BitVec.ofInt IntKind.u64.bits (b:Int)).toNat=andN a b:=by
  refine eq_bits (n:=64) (BitVec.isLt _) (andN_lt _ _) fun i hi=>?_
  rw [andN_bit,if_pos hi,bit_eq,bit_eq,bit_eq,← BitVec.getLsbD,BitVec.getLsbD_and,BitVec.getLsbD_not]
  have h1:(BitVec.ofInt IntKind.u64.bits (a:Int)).getLsbD i=a.testBit i:=by rw [BitVec.getLsbD,bv64 ha]
  have h2:(BitVec.ofInt IntKind.u64.bits (b:Int)).getLsbD i=b.testBit i:=by rw [BitVec.getLsbD,bv64 hb]
  rw [h1,h2,show decide (i<IntKind.u64.bits)=true from decide_eq_true hi]
  cases a.testBit i <;> cases b.testBit i <;> rfl
 rw [e];exact w64 (andN_lt _ _)
theorem shr64 (a k:Nat) (hk:k≤64):(a:Int).fdiv (2 ^ (min ((k:Int)).toNat IntKind.u64.bits))=((a / 2 ^ k:Nat):Int):=by
 rw [Int.toNat_natCast,show min k IntKind.u64.bits=k from Nat.min_eq_left hk,Int.fdiv_eq_ediv_of_nonneg _ (Int.le_of_lt (Int.pow_pos (by decide)))]
 norm_cast
theorem shr32 (a k:Nat) (hk:k≤32):(a:Int).fdiv (2 ^ (min ((k:Int)).toNat IntKind.u32.bits))=((a / 2 ^ k:Nat):Int):=by
 rw [Int.toNat_natCast,show min k IntKind.u32.bits=k from Nat.min_eq_left hk,Int.fdiv_eq_ediv_of_nonneg _ (Int.le_of_lt (Int.pow_pos (by decide)))]
 norm_cast
theorem shl64 (a k:Nat) (hk:k≤64):IntKind.u64.wrap ((a:Int)*2 ^ (min ((k:Int)).toNat IntKind.u64.bits))=((a*2 ^ k % 18446744073709551616:Nat):Int):=by
 rw [Int.toNat_natCast,show min k IntKind.u64.bits=k from Nat.min_eq_left hk,show IntKind.u64.wrap ((a:Int)*2 ^ k)=((a:Int)*2 ^ k) % 18446744073709551616 by unfold IntKind.wrap;simp [IntKind.signed,IntKind.bits]]
 rw [show (a:Int)*2 ^ k=((a*2 ^ k:Nat):Int) by push_cast;rfl]
 omega
theorem shl32 (a k:Nat) (hk:k≤32):IntKind.u32.wrap ((a:Int)*2 ^ (min ((k:Int)).toNat IntKind.u32.bits))=((a*2 ^ k % 4294967296:Nat):Int):=by
 rw [Int.toNat_natCast,show min k IntKind.u32.bits=k from Nat.min_eq_left hk,show IntKind.u32.wrap ((a:Int)*2 ^ k)=((a:Int)*2 ^ k) % 4294967296 by unfold IntKind.wrap;simp [IntKind.signed,IntKind.bits]]
 rw [show (a:Int)*2 ^ k=((a*2 ^ k:Nat):Int) by push_cast;rfl]
 omega
theorem toU32 (a:Nat):IntKind.u32.wrap (a:Int)=((a % 4294967296:Nat):Int):=by
 rw [show IntKind.u32.wrap (a:Int)=(a:Int) % 4294967296 by unfold IntKind.wrap;simp [IntKind.signed,IntKind.bits]]
 omega
theorem toU64 (n:Int):IntKind.u64.wrap n=((n % 18446744073709551616).toNat:Int):=by
 rw [show IntKind.u64.wrap n=n % 18446744073709551616 by unfold IntKind.wrap;simp [IntKind.signed,IntKind.bits]]
 omega
end Go.Bits
namespace Go.Proofs.YtdhlpighdlnohaaGreat
open Go Go.Bits
def csrRows:List (Nat×Nat):=[(256,786722),(260,546),(261,18446744073709551613),(262,7),(320,18446744073709551615),(321,18446744073709551612),(322,18446744073709551615),(323,18446744073709551615),(324,2),(384,18446744073709551615),(768,8264106),(769,0),(770,46079),(771,546),(772,2730),(773,18446744073709551613),(774,7),(832,18446744073709551615),(833,18446744073709551612),(834,18446744073709551615),(835,18446744073709551615),(836,546),(1472,18446744073709551615),(1473,65535),(1474,1023),(2816,18446744073709551615),(2818,18446744073709551615),(3072,0),(3073,0),(3074,0),(3857,0),(3858,0),(3859,0),(3860,0)]
def csrNums:List Nat:=csrRows.map (·.1)
def rowOf (n:Int):Option (Nat×Nat):=csrRows.find? fun r=>decide ((r.1:Int)=n)
def knownB (n:Int):Bool:=(rowOf n).isSome
def maskN (n:Int):Nat:=((rowOf n).getD (0,0)).2
def leastN (n:Int):Int:=if knownB n then n / 256 % 4 else 3
def rdonlyB (n:Int):Bool:=knownB n && decide (n / 1024 % 4=3)
def csrMayB (n priv:Int) (write:Bool):Bool:=decide (priv=0∨priv=1∨priv=3) && (knownB n && (decide (leastN n≤priv) && !(write && rdonlyB n)))
def legal0 (n:Int) (old v:Nat):Nat:=andN old (maskN n) ||| (v &&& maskN n)
def legalN (n:Int) (old v:Nat):Nat :=
 if n=768 then (if legal0 n old v / 2 ^ 11 % 4=2 then andN (legal0 n old v) 6144 ||| (old &&& 6144) else legal0 n old v)
 else if n=384 then (if legal0 n old v / 2 ^ 60≠0∧legal0 n old v / 2 ^ 60≠8 then old else legal0 n old v)
 else legal0 n old v
def withN (w i:Nat) (on:Bool):Nat:=if on then w ||| 2 ^ i else andN w (2 ^ i)
def bitB (w i:Nat):Bool:=decide (bitN w i=1)
def priorN (w:Nat):Int:=if w / 2 ^ 11 % 4=2 then 0 else (w / 2 ^ 11 % 4:Nat)
def enterN (w:Nat) (fr to:Int):Nat :=
 if ¬ (fr=0∨fr=1∨fr=3) then w
 else if to=3 then andN (withN (withN w 7 (bitB w 3)) 3 false) 6144 ||| fr.toNat*2 ^ 11
 else if to=1 then withN (withN (withN w 5 (bitB w 1)) 1 false) 8 (decide (fr=1))
 else w
def leaveW (w:Nat) (a:Int):Nat :=
 if a=3 then (if priorN w≠3 then withN (andN (withN (withN w 3 (bitB w 7)) 7 true) 6144) 17 false else andN (withN (withN w 3 (bitB w 7)) 7 true) 6144)
 else if a=1 then withN (withN (withN (withN w 1 (bitB w 5)) 5 true) 8 false) 17 false
 else w
def leaveP (w:Nat) (a:Int):Int:=if a=3 then priorN w else if a=1 then (if bitB w 8 then 1 else 0) else 0
def viewN (w:Nat):Nat:=w &&& 8590721314
def layS (w v:Nat):Nat:=legalN 256 w v
def dataP (w:Nat) (priv:Int):Int:=if priv=3∧bitB w 17=true then priorN w else priv
def letsB (w:Nat) (priv to:Int):Bool:=if to=3 then decide (priv<3) || (decide (priv=3) && bitB w 3) else if to=1 then decide (priv<1) || (decide (priv=1) && bitB w 1) else false
theorem legal0_lt {n:Int} {old v:Nat} (hv:v<2 ^ 64):legal0 n old v<2 ^ 64:=Nat.or_lt_two_pow (andN_lt _ _) (Nat.lt_of_le_of_lt Nat.and_le_left hv)
structure Csf where
 hart:Int
 w:List Nat
 cl:Bool
 il:Bool
def ownL:List Nat:=[261,262,320,321,322,323,384,768,770,771,772,773,774,832,833,834,835,836,1472,1473,2816,2818]
def idxN (n:Int):Option Nat:=ownL.findIdx? fun k:Nat=>decide ((k:Int)=n)
def Csf.at (f:Csf) (n:Int):Nat:=match idxN n with
 | some i=>f.w.getD i 0
 | none=>0
def Csf.put (f:Csf) (n:Int) (v:Nat):Csf:=match idxN n with
 | some i=>{ f with w:=f.w.set i v }
 | none=>f
structure Csf.ok (f:Csf):Prop where
 len:f.w.length=22
 lt:∀ x ∈ f.w,x<2 ^ 64
def Csf.new (hart:Int):Csf:=⟨hart,(List.replicate 22 0).set 7 42949672960,false,false⟩
def toldN (f:Csf) (lines:Nat):Nat:=f.at 836 ||| (lines &&& 2696)
def Csf.get (f:Csf) (n:Int) (lines:Nat):Nat :=
 if n=256 then viewN (f.at 768)
 else if n=260 then f.at 772 &&& f.at 771
 else if n=324 then toldN f lines &&& f.at 771
 else if n=836 then toldN f lines
 else if n=769 then 9223372036856090881
 else if n=3072 then f.at 2816
 else if n=3074 then f.at 2818
 else if n=3860 then (f.hart % 18446744073709551616).toNat
 else f.at n
def Csf.set (f:Csf) (n:Int) (v:Nat):Csf :=
 if n=256 then f.put 768 (layS (f.at 768) v)
 else if n=260 then f.put 772 (andN (f.at 772) (f.at 771) ||| (v &&& f.at 771))
 else if n=324 then f.put 836 (andN (f.at 836) (f.at 771 &&& 2) ||| (v &&& f.at 771 &&& 2))
 else ({ f with cl:=f.cl || decide (n=2816),il:=f.il || decide (n=2818) }).put n (legalN n (f.at n) v)
def Csf.may (f : Csf) (n priv : Int) (write : Bool) : Bool := csrMayB n priv write &&
  (if n = 384 then !(decide (priv = 1) && bitB (f.at 768) 20)
   else if n = 3072 ∨ n = 3073 ∨ n = 3074 then decide (priv = 3) || (bitB (f.at 774) (n - 3072).toNat && (!decide (priv = 0) || bitB (f.at 262) (n - 3072).toNat))
   else true)
def csrOpB (op:Int):Bool:=decide (89≤op∧op≤94)
def writesB (op rs1:Int):Bool:=decide (op=89∨op=92) || (csrOpB op && decide (rs1≠0))
def Csf.doV (f:Csf) (op n:Int) (v:Nat):Nat:=if op=90∨op=93 then v ||| f.get n 0 else if op=91∨op=94 then andN (f.get n 0) v else v
def Csf.doF (f:Csf) (op n rs1:Int) (v:Nat):Csf:=if csrOpB op && writesB op rs1 then f.set n (f.doV op n v) else f
def Csf.doR (f:Csf) (op n:Int) (lines:Nat):Nat:=if csrOpB op then f.get n lines else 0
def Csf.turn (f:Csf) (retired:Bool):Csf :=
 let f1:=if f.cl then f else f.put 2816 ((f.at 2816+1) % 18446744073709551616)
 let f2:=if retired && !f.il then f1.put 2818 ((f1.at 2818+1) % 18446744073709551616) else f1
 { f2 with cl:=false,il:=false }
structure Cau where
 i:Bool
 code:Int
def Cau.word (c:Cau):Nat:=(if 0≤c.code∧c.code≤63 then c.code.toNat else 0) ||| (if c.i then 9223372036854775808 else 0)
def Cau.to (c:Cau) (priv:Int) (deleg ideleg:Nat):Int :=
 if priv=3∨c.code<0∨63<c.code∨(if c.i then ideleg else deleg) / 2 ^ c.code.toNat % 2=0 then 3 else 1
def firstC (w:Nat):Option Cau:=([11,3,7,9,1,5].find? fun k=>decide (w / 2 ^ k % 2=1)).map fun k=>⟨true,(k:Nat)⟩
def vecN (tvec:Nat) (c:Cau):Nat:=if tvec % 2=1∧c.i=true∧0≤c.code∧c.code≤63 then (tvec / 4*4+4*c.code.toNat) % 18446744073709551616 else tvec / 4*4
def trapTo (f:Csf) (c:Cau) (priv:Int):Int:=c.to priv (f.at 770) (f.at 771)
def trapF (f:Csf) (c:Cau) (priv:Int) (pc tval:Nat):Csf :=
 let f1:=if trapTo f c priv=1 then ((f.set 321 pc).set 322 c.word).set 323 tval else ((f.set 833 pc).set 834 c.word).set 835 tval
 f1.set 768 (enterN (f1.at 768) priv (trapTo f c priv))
def trapPc (f:Csf) (c:Cau) (priv:Int) (pc tval:Nat):Nat:=vecN ((trapF f c priv pc tval).at (if trapTo f c priv=1 then 261 else 773)) c
def waitN (f:Csf) (lines:Nat):Nat:=toldN f lines &&& f.at 772
def irqN (f:Csf) (priv:Int) (lines:Nat):Option Cau :=
 if waitN f lines=0 then none
 else match (if letsB (f.at 768) priv 3 then firstC (andN (waitN f lines) (f.at 771)) else none) with
  | some c=>some c
  | none=>if letsB (f.at 768) priv 1 then firstC (waitN f lines &&& f.at 771) else none
end Go.Proofs.YtdhlpighdlnohaaGreat
namespace Go.Proofs.YtdhlpighdlnohaaGreat
open Go Go.Bits
def sgN (a:Nat):Int:=if a<9223372036854775808 then a else (a:Int) - 18446744073709551616
def ofI (n:Int):Nat:=(n % 18446744073709551616).toNat
def sg32 (a:Nat):Int:=if a<2147483648 then a else (a:Int) - 4294967296
def wordN (w:Nat):Nat:=signN (w % 4294967296) 32
def divN (a b:Nat):Nat:=if b=0 then 18446744073709551615 else ofI ((sgN a).tdiv (sgN b))
def divuN (a b:Nat):Nat:=if b=0 then 18446744073709551615 else a / b
def remN (a b:Nat):Nat:=if b=0 then a else ofI ((sgN a).tmod (sgN b))
def remuN (a b:Nat):Nat:=if b=0 then a else a % b
def mulN (a b:Nat):Nat:=a*b % 18446744073709551616
def aluN (op:Int) (a b:Nat):Nat :=
 if op=22∨op=31 then (a+b) % 18446744073709551616
 else if op=32 then (a+18446744073709551616 - b) % 18446744073709551616
 else if op=28∨op=33 then a*2 ^ (b % 64) % 18446744073709551616
 else if op=29∨op=37 then a / 2 ^ (b % 64)
 else if op=30∨op=38 then ofI (sgN a / 2 ^ (b % 64))
 else if op=23∨op=34 then (if sgN a<sgN b then 1 else 0)
 else if op=24∨op=35 then (if a<b then 1 else 0)
 else if op=25∨op=36 then a ^^^ b
 else if op=26∨op=39 then a ||| b
 else if op=27∨op=40 then a &&& b
 else if op=41∨op=45 then wordN (a+b)
 else if op=46 then wordN (a+18446744073709551616 - b)
 else if op=42∨op=47 then wordN (a % 4294967296*2 ^ (b % 32))
 else if op=43∨op=48 then wordN (a % 4294967296 / 2 ^ (b % 32))
 else if op=44∨op=49 then ofI (sg32 (a % 4294967296) / 2 ^ (b % 32))
 else if op=54 then mulN a b
 else if op=55 then ofI (sgN a*sgN b / 18446744073709551616)
 else if op=56 then ofI (sgN a*b / 18446744073709551616)
 else if op=57 then a*b / 18446744073709551616
 else if op=58 then divN a b
 else if op=59 then divuN a b
 else if op=60 then remN a b
 else if op=61 then remuN a b
 else if op=62 then wordN (mulN (wordN a) (wordN b))
 else if op=63 then wordN (divN (wordN a) (wordN b))
 else if op=64 then wordN (divuN (a % 4294967296) (b % 4294967296))
 else if op=65 then wordN (remN (wordN a) (wordN b))
 else wordN (remuN (a % 4294967296) (b % 4294967296))
def aluB (op:Int):Bool:=decide ((22≤op∧op≤49)∨(54≤op∧op≤66))
def takenB (op:Int) (a b:Nat):Bool :=
 if op=5 then decide (a=b) else if op=6 then decide (a≠b) else if op=7 then decide (sgN a<sgN b) else if op=8 then decide (sgN b≤sgN a)
 else if op=9 then decide (a<b) else if op=10 then decide (b≤a) else false
def upN (op:Int) (pc:Nat) (imm:Int):Nat:=if op=1 then ofI imm else (pc+ofI imm) % 18446744073709551616
def targetN (op:Int) (pc base:Nat) (imm:Int):Nat:=if op=4 then (base+ofI imm) % 18446744073709551616 / 2*2 else (pc+ofI imm) % 18446744073709551616
structure Ins where
 op:Int
 rd:Int
 rs1:Int
 rs2:Int
 imm:Int
 csr:Int
 aq:Bool
 rl:Bool
structure Ef where
 kind:Int
 rd:Int
 value:Nat
 next:Nat
 cause:Cau
 tval:Nat
 access:Int
 ask:Int
 va:Nat
 size:Int
 data:Nat
def Ef.zero:Ef:=⟨0,0,0,0,⟨false,0⟩,0,0,0,0,0,0⟩
def opSize (op:Int):Nat:=if op=11∨op=15 then 1 else if op=12∨op=16 then 2 else if op=13∨op=17 then 4 else if op=14 then 8 else if op=18 then 1 else if op=19 then 2 else if op=20 then 4 else if op=21 then 8 else if 67≤op∧op≤77 then 4 else if 78≤op∧op≤88 then 8 else 0
def regN (x:List Nat) (i:Int):Nat:=if 0≤i∧i<32 then x.getD i.toNat 0 else 0
def linkB (op:Int):Bool:=decide (op=67∨op=78)
def condB (op:Int):Bool:=decide (op=68∨op=79)
def trapE (code:Int) (tval:Nat):Ef:={ Ef.zero with kind:=2,cause:=⟨false,code⟩,tval:=tval }
def jumpE (x:Ins) (to link:Nat):Ef:=if to % 4≠0 then trapE 0 to else if x.op=3∨x.op=4 then { Ef.zero with kind:=1,rd:=x.rd,value:=link,next:=to } else { Ef.zero with kind:=1,next:=to }
def n4 (pc:Nat):Nat:=(pc+4) % 18446744073709551616
def atomE (x:Ins) (pc a b:Nat):Ef :=
 if a % opSize x.op≠0 then trapE (if linkB x.op then 4 else 6) a
 else { Ef.zero with kind:=3,rd:=x.rd,next:=n4 pc,access:=(if linkB x.op then 1 else 2),ask:=(if linkB x.op then 5 else if condB x.op then 6 else 4),va:=a,size:=opSize x.op,data:=(if linkB x.op then 0 else b % 2 ^ (8*opSize x.op)) }
def immB (op:Int):Bool:=decide ((22≤op∧op≤30)∨(41≤op∧op≤44))
def execE (x:Ins) (pc:Nat) (r:List Nat) (priv:Int):Ef :=
 let a:=regN r x.rs1
 let b:=regN r x.rs2
 if aluB x.op then { Ef.zero with kind:=1,rd:=x.rd,value:=aluN x.op a (if immB x.op then ofI x.imm else b),next:=n4 pc }
 else if x.op=1∨x.op=2 then { Ef.zero with kind:=1,rd:=x.rd,value:=upN x.op pc x.imm,next:=n4 pc }
 else if 5≤x.op∧x.op≤10 then (if takenB x.op a b then jumpE x (targetN x.op pc a x.imm) (n4 pc) else { Ef.zero with kind:=1,next:=n4 pc })
 else if x.op=3∨x.op=4 then jumpE x (targetN x.op pc a x.imm) (n4 pc)
 else if 11≤x.op∧x.op≤17 then { Ef.zero with kind:=3,rd:=x.rd,next:=n4 pc,access:=1,ask:=2,va:=(a+ofI x.imm) % 18446744073709551616,size:=opSize x.op }
 else if 18≤x.op∧x.op≤21 then { Ef.zero with kind:=3,next:=n4 pc,access:=2,ask:=3,va:=(a+ofI x.imm) % 18446744073709551616,size:=opSize x.op,data:=b % 2 ^ (8*opSize x.op) }
 else if 67≤x.op∧x.op≤88 then atomE x pc a b
 else if x.op=50∨x.op=51 then { Ef.zero with kind:=1,next:=n4 pc }
 else if x.op=52 then trapE (if priv=0 then 8 else if priv=1 then 9 else 11) 0
 else if x.op=53 then trapE 3 pc
 else Ef.zero
def landsN (op:Int) (data:Nat) (good:Bool):Nat :=
 if 11≤op∧op≤17 then (if 11≤op∧op≤14 then signN (data % 2 ^ (8*opSize op)) (8*opSize op) else data % 2 ^ (8*opSize op))
 else if 67≤op∧op≤88 then (if condB op then (if good then 0 else 1) else signN (data % 2 ^ (8*opSize op)) (8*opSize op))
 else 0
end Go.Proofs.YtdhlpighdlnohaaGreat
namespace Go.Proofs.YtdhlpighdlnohaaGreat
open Go Go.Bits
def ppnN (p:Nat):Nat:=p / 2 ^ 10 % 2 ^ 44
def kindN (p l:Nat):Nat:=if bitN p 0=0∨(bitN p 2=1∧bitN p 1=0)∨p / 2 ^ 54≠0 then 0 else if bitN p 1=1∨bitN p 3=1 then (if ppnN p % 2 ^ (9*l)≠0 then 0 else 2) else if l=0∨bitN p 4=1∨bitN p 6=1∨bitN p 7=1 then 0 else 1
def makeN (n fl:Nat):Nat:=n % 2 ^ 44*2 ^ 10+fl % 2 ^ 10
def mayN (va:Nat):Prop:=signN (va % 2 ^ 39) 39=va
instance (va:Nat):Decidable (mayN va):=by unfold mayN;infer_instance
def placeN (va l:Nat):Nat:=va / 2 ^ (12+9*l) % 2 ^ 9
def sizeN (l:Nat):Nat:=2 ^ (12+9*l)
theorem place_lt (va l:Nat):placeN va l<512:=Nat.mod_lt _ (by decide)
theorem make_lt (n fl:Nat):makeN n fl<2 ^ 54:=by
 have h1:=Nat.mod_lt n (show 0<2 ^ 44 by decide)
 have h2:=Nat.mod_lt fl (show 0<2 ^ 10 by decide)
 unfold makeN
 omega
theorem make_low (n fl:Nat) (i:Nat) (hi:i<10):bitN (makeN n fl) i=bitN fl i:=by
 have e:makeN n fl % 2 ^ 10=fl % 2 ^ 10:=by
  unfold makeN
  rw [Nat.add_comm,Nat.add_mul_mod_self_right,Nat.mod_mod]
 have h1:=bit_mod (makeN n fl) 10 i
 have h2:=bit_mod fl 10 i
 rw [if_pos hi] at h1 h2
 rw [← h1,e,h2]
theorem kind_leads (n l:Nat) (hl:l≠0):kindN (makeN n 1) l=1:=by
 have h:=make_lt n 1
 unfold kindN
 rw [make_low _ _ 0 (by decide),make_low _ _ 1 (by decide),make_low _ _ 2 (by decide),make_low _ _ 3 (by decide),make_low _ _ 4 (by decide),make_low _ _ 6 (by decide),make_low _ _ 7 (by decide)]
 rw [if_neg,if_neg (by decide),if_neg]
 ·rintro (e | e)
  ·exact hl e
  ·revert e;decide
 ·rintro (e | e | e)
  ·revert e;decide
  ·revert e;decide
  ·exact e (Nat.div_eq_of_lt h)
structure TE where
 frame:Nat
 place:Nat
 p:Nat
 to:Option Nat
structure Tb where
 root:Nat
 frames:Nat
 L:List TE
def findE:List TE→Nat→Nat→Option TE
 | [],_,_=>none
 | e :: L,f,q=>if e.frame=f∧e.place=q then some e else findE L f q
theorem findE_none {L:List TE} {f q:Nat} (h:findE L f q=none):∀ e ∈ L,¬ (e.frame=f∧e.place=q):=by
 induction L with
 | nil=>intro e he;cases he
 | cons x L ih =>
  unfold findE at h
  split at h
  ·cases h
  ·rename_i hx
   intro e he
   rcases List.mem_cons.1 he with rfl | he
   ·exact hx
   ·exact ih h e he
structure TInv (t:Tb) (lev:Nat→Nat):Prop where
 r1:t.root<2 ^ 64
 r2:t.root % 4096=0
 f1:1≤t.frames
 f2:t.frames≤2*t.L.length+1
 l0:lev 0=2
 fr:∀ e ∈ t.L,e.frame<t.frames
 pl:∀ e ∈ t.L,e.place<512
 leaf:∀ e ∈ t.L,e.to=none→kindN e.p (lev e.frame)=2
 lead:∀ e ∈ t.L,∀ k,e.to=some k→k<t.frames∧lev e.frame≠0∧lev k+1=lev e.frame∧e.p=makeN (t.root / 4096+k) 1
 p64:∀ e ∈ t.L,e.p<2 ^ 64
 one:(t.L.map fun e=>(e.frame,e.place)).Nodup
theorem TInv.new (r:Nat) (h:r<2 ^ 64) (h2:r % 4096=0):TInv ⟨r,1,[]⟩ (fun _=>2) :=
 ⟨h,h2,Nat.le_refl _,by simp,rfl,fun e he=>(by cases he),fun e he=>(by cases he),fun e he=>(by cases he),fun e he=>(by cases he),fun e he=>(by cases he),List.nodup_nil⟩
theorem TInv.kind {t:Tb} {lev:Nat→Nat} (i:TInv t lev) {e:TE} (he:e ∈ t.L):kindN e.p (lev e.frame)=if e.to=none then 2 else 1:=by
 cases ht:e.to with
 | none=>exact i.leaf e he ht
 | some k =>
  obtain ⟨_,h2,_,h4⟩:=i.lead e he k ht
  rw [h4,kind_leads _ _ h2]
  rfl
theorem TInv.down {t:Tb} {lev:Nat→Nat} (i:TInv t lev) {f q:Nat} (hf:f<t.frames) (hl:lev f≠0) (hq:q<512) (hn:findE t.L f q=none) :
  TInv { t with frames:=t.frames+1,L:=t.L++[⟨f,q,makeN (t.root / 4096+t.frames) 1,some t.frames⟩] } (fun k=>if k=t.frames then lev f - 1 else lev k):=by
 have hne:∀ e ∈ t.L,e.frame≠t.frames:=fun e he=>Nat.ne_of_lt (i.fr e he)
 have f1:=i.f1
 have f2:=i.f2
 refine ⟨i.r1,i.r2,by show 1≤t.frames+1;omega,by show t.frames+1≤2*(t.L++[_]).length+1;rw [List.length_append];simp;omega,?_,?_,?_,?_,?_,?_,?_⟩
 ·show (if 0=t.frames then _ else lev 0)=2
  rw [if_neg (by omega)];exact i.l0
 ·intro e he
  rcases List.mem_append.1 he with he | he
  ·have:=i.fr e he;show e.frame<t.frames+1;omega
  ·rw [List.mem_singleton.1 he];show f<t.frames+1;omega
 ·intro e he
  rcases List.mem_append.1 he with he | he
  ·exact i.pl e he
  ·rw [List.mem_singleton.1 he];exact hq
 ·intro e he ht
  rcases List.mem_append.1 he with he | he
  ·show kindN e.p (if e.frame=t.frames then _ else lev e.frame)=2
   rw [if_neg (hne e he)];exact i.leaf e he ht
  ·rw [List.mem_singleton.1 he] at ht;cases ht
 ·intro e he k ht
  rcases List.mem_append.1 he with he | he
  ·obtain ⟨h1,h2,h3,h4⟩:=i.lead e he k ht
   show k<t.frames+1∧(if e.frame=t.frames then _ else lev e.frame)≠0∧(if k=t.frames then _ else lev k)+1=(if e.frame=t.frames then _ else lev e.frame)∧_
   rw [if_neg (hne e he),if_neg (Nat.ne_of_lt h1)]
   exact ⟨by omega,h2,h3,h4⟩
  ·rw [List.mem_singleton.1 he] at ht ⊢
   cases ht
   show t.frames<t.frames+1∧(if f=t.frames then _ else lev f)≠0∧(if t.frames=t.frames then lev f - 1 else _)+1=(if f=t.frames then _ else lev f)∧_
   rw [if_neg (Nat.ne_of_lt hf),if_pos rfl]
   exact ⟨by omega,hl,by omega,rfl⟩
 ·intro e he
  rcases List.mem_append.1 he with he | he
  ·exact i.p64 e he
  ·rw [List.mem_singleton.1 he];exact Nat.lt_of_lt_of_le (make_lt _ _) (by decide)
 ·rw [List.map_append]
  refine List.nodup_append.2 ⟨i.one,by simp,fun x hx y hy=>?_⟩
  obtain ⟨e,he,rfl⟩:=List.mem_map.1 hx
  simp only [List.map_cons,List.map_nil,List.mem_singleton] at hy
  subst hy
  intro hh
  simp only [Prod.mk.injEq] at hh
  exact findE_none hn e he hh
theorem TInv.put {t:Tb} {lev:Nat→Nat} (i:TInv t lev) {f q p:Nat} (hf:f<t.frames) (hq:q<512) (hp:p<2 ^ 64) (hk:kindN p (lev f)=2) (hn:findE t.L f q=none):TInv { t with L:=t.L++[⟨f,q,p,none⟩] } lev:=by
 have f2:=i.f2
 refine ⟨i.r1,i.r2,i.f1,by show t.frames≤2*(t.L++[_]).length+1;rw [List.length_append];simp;omega,i.l0,?_,?_,?_,?_,?_,?_⟩
 ·intro e he
  rcases List.mem_append.1 he with he | he
  ·exact i.fr e he
  ·rw [List.mem_singleton.1 he];exact hf
 ·intro e he
  rcases List.mem_append.1 he with he | he
  ·exact i.pl e he
  ·rw [List.mem_singleton.1 he];exact hq
 ·intro e he ht
  rcases List.mem_append.1 he with he | he
  ·exact i.leaf e he ht
  ·rw [List.mem_singleton.1 he];exact hk
 ·intro e he k ht
  rcases List.mem_append.1 he with he | he
  ·exact i.lead e he k ht
  ·rw [List.mem_singleton.1 he] at ht;cases ht
 ·intro e he
  rcases List.mem_append.1 he with he | he
  ·exact i.p64 e he
  ·rw [List.mem_singleton.1 he];exact hp
 ·rw [List.map_append]
  refine List.nodup_append.2 ⟨i.one,by simp,fun x hx y hy=>?_⟩
  obtain ⟨e,he,rfl⟩:=List.mem_map.1 hx
  simp only [List.map_cons,List.map_nil,List.mem_singleton] at hy
  subst hy
  intro hh
  simp only [Prod.mk.injEq] at hh
  exact findE_none hn e he hh
end Go.Proofs.YtdhlpighdlnohaaGreat
namespace Go.Mid
open Go Go.RowKit
variable {h:Hp}
theorem wfS {fs:List Sh} {cs:List Value} (w:Wf h (.struct fs) cs):Wfs h fs cs:=by unfold Wf at w;exact w
theorem wfC {s:Sh} {r:List Sh} {cs:List Value} (w:Wfs h (s :: r) cs):∃ a b,cs=a++b∧Wf h s a∧Wfs h r b:=by
 unfold Wfs at w
 obtain ⟨a,b,e,_,h1,h2⟩:=w
 exact ⟨a,b,e,h1,h2⟩
theorem wfN {cs:List Value} (w:Wfs h [] cs):cs=[]:=by unfold Wfs at w;exact w
theorem wfI {cs:List Value} (w:Wf h (.int .i64) cs):∃ n:Int,cs=[.int .i64 n] ∧ -9223372036854775808≤n∧n≤9223372036854775807:=by
 unfold Wf at w
 obtain ⟨n,e,hn⟩:=w
 exact ⟨n,e,wf_i64 hn⟩
theorem wfU {cs:List Value} (w:Wf h (.int .u64) cs):∃ n:Nat,cs=[.int .u64 n]∧n<18446744073709551616:=by
 unfold Wf at w
 obtain ⟨n,e,hn⟩:=w
 have:=wf_u64 hn
 refine ⟨n.toNat,by rw [e,Int.toNat_of_nonneg this.1],by omega⟩
theorem wfB {cs:List Value} (w:Wf h .bool cs):∃ b:Bool,cs=[.bool b]:=by
 unfold Wf at w
 exact w
theorem arr_of {α:Type} {ok:α→Prop} {f:α→List Value} {k:Nat}:∀ (n:Nat) (cs:List Value),cs.length=n*k→(∀ i,i<n→∃ x,ok x∧(cs.drop (i*k)).take k=f x)→∃ l:List α,l.length=n∧(∀ x ∈ l,ok x)∧cs=l.flatMap f
 | 0,cs,hl,_=>⟨[],rfl,fun x hx=>(by cases hx),by
  have:cs.length=0:=by omega
  simpa using this⟩
 | n+1,cs,hl,hp=>by
  obtain ⟨x,hx,e⟩:=hp 0 (by omega)
  rw [Nat.zero_mul,List.drop_zero] at e
  obtain ⟨l,h1,h2,h3⟩:=arr_of (ok:=ok) (f:=f) (k:=k) n (cs.drop k) (by rw [List.length_drop,hl,Nat.succ_mul];omega) (fun i hi=>by
   obtain ⟨y,hy,e⟩:=hp (i+1) (by omega)
   refine ⟨y,hy,?_⟩
   rw [List.drop_drop,← e,Nat.succ_mul,Nat.add_comm])
  refine ⟨x :: l,by simp [h1],fun y hy=>?_,?_⟩
  ·rcases List.mem_cons.1 hy with rfl | hy
   ·exact hx
   ·exact h2 y hy
  ·rw [List.flatMap_cons,← h3,← e,List.take_append_drop]
theorem wfA {α:Type} {ok:α→Prop} {f:α→List Value} {n:Nat} {e:Sh} {cs:List Value} (hf:∀ cs,Wf h e cs→∃ x,ok x∧cs=f x) (w:Wf h (.array n e) cs):∃ l:List α,l.length=n∧(∀ x ∈ l,ok x)∧cs=l.flatMap f:=by
 unfold Wf at w
 exact arr_of n cs w.1 fun i hi=>hf _ (w.2 i hi)
end Go.Mid
namespace Go.Proofs.YtdhlpighdlnohaaGreat
open Go Go.Mid Go.RowKit
theorem mixed:Tryz.prog.follows .mixedOrders=true:=by kernel_rfl
abbrev Str:=List UInt8
theorem aggU:isAggT Tryz.prog 25 = some false:=by kernel_rfl
theorem sizU:sizeT Tryz.prog 25 = some 1:=by kernel_rfl
theorem aggBo:isAggT Tryz.prog 4 = some false:=by kernel_rfl
theorem sizBo:sizeT Tryz.prog 4 = some 1:=by kernel_rfl
theorem aggIn:isAggT Tryz.prog 3 = some false:=by kernel_rfl
theorem sizIn:sizeT Tryz.prog 3 = some 1:=by kernel_rfl
theorem aggU8:isAggT Tryz.prog 5 = some false:=by kernel_rfl
theorem sizU8:sizeT Tryz.prog 5 = some 1:=by kernel_rfl
end Go.Proofs.YtdhlpighdlnohaaGreat
namespace Go.Proofs.YtdhlpighdlnohaaGreat
open Go Go.Mid Go.RowKit
attribute [local irreducible] mid
structure Rq where
 s:Bool
 v:Bool
 a:Bool
 va:Nat
 asid:Int
structure En where
 asid:Int
 page:Nat
 level:Int
 pte:Nat
structure Ak where
 kind:Int
 addr:Nat
 next:Nat
 cut:Int
 size:Int
 op:Int
 data:Nat
 old:Nat
 live:Bool
 hart:Int
 req:Rq
 ent:En
structure An where
 data:Nat
 good:Bool
 m0:Rq
 m1:Rq
 m2:Rq
 m3:Rq
 m4:Rq
 m5:Rq
 m6:Rq
 m7:Rq
structure Ev where
 hart:Int
 ask:Ak
 ans:An
 from_:Int
 at_:Int
 to:Int
abbrev Rq.cs (q:Rq):List Value:=[.bool q.s,.bool q.v,.bool q.a,.int .u64 q.va,.int .i64 q.asid]
abbrev En.cs (q:En):List Value:=[.int .i64 q.asid,.int .u64 q.page,.int .i64 q.level,.int .u64 q.pte]
def Ak.cs (a:Ak):List Value:=[.int .i64 a.kind,.int .u64 a.addr,.int .u64 a.next,.int .i64 a.cut,.int .i64 a.size,.int .i64 a.op,.int .u64 a.data,.int .u64 a.old,.bool a.live,.int .i64 a.hart]++(a.req.cs++a.ent.cs)
def An.ms (b:An):List Rq:=[b.m0,b.m1,b.m2,b.m3,b.m4,b.m5,b.m6,b.m7]
def An.cs (b:An):List Value:=[.int .u64 b.data,.bool b.good]++b.ms.flatMap Rq.cs
def Ev.cs (e:Ev):List Value:=[.int .i64 e.hart]++(e.ask.cs++(e.ans.cs++[.int .i64 e.from_,.int .i64 e.at_,.int .i64 e.to]))
def Rq.val (q:Rq):Value:=.agg q.cs.toArray
def Ak.val (a:Ak):Value:=.agg a.cs.toArray
def An.val (b:An):Value:=.agg b.cs.toArray
def Ev.val (e:Ev):Value:=.agg e.cs.toArray
attribute [irreducible] Ak.val An.val Ev.val Rq.val
structure Rq.ok (q:Rq):Prop where
 va:q.va<18446744073709551616
 lo : -9223372036854775808≤q.asid
 hi:q.asid≤9223372036854775807
abbrev Rq.zero:Rq:=⟨false,false,false,0,0⟩
abbrev En.zero:En:=⟨0,0,0,0⟩
abbrev An.zero:An:=⟨0,false,Rq.zero,Rq.zero,Rq.zero,Rq.zero,Rq.zero,Rq.zero,Rq.zero,Rq.zero⟩
theorem aggRq:isAggT Tryz.prog 60 = some true:=by kernel_rfl
theorem sizRq:sizeT Tryz.prog 60 = some 5:=by kernel_rfl
theorem aggAk:isAggT Tryz.prog 80 = some true:=by kernel_rfl
theorem sizAk:sizeT Tryz.prog 80 = some 19:=by kernel_rfl
theorem aggAn:isAggT Tryz.prog 86 = some true:=by kernel_rfl
theorem sizAn:sizeT Tryz.prog 86 = some 42:=by kernel_rfl
structure En.ok (q:En):Prop where
 lo : -9223372036854775808≤q.asid
 hi:q.asid≤9223372036854775807
 pg:q.page<18446744073709551616
 lo2 : -9223372036854775808≤q.level
 hi2:q.level≤9223372036854775807
 pt:q.pte<18446744073709551616
structure Ak.ok (a:Ak):Prop where
 addr:a.addr<18446744073709551616
 next:a.next<18446744073709551616
 cut0 : -9223372036854775808≤a.cut
 cut1:a.cut≤9223372036854775807
 size0 : -9223372036854775808≤a.size
 size1:a.size≤9223372036854775807
 data:a.data<18446744073709551616
 old:a.old<18446744073709551616
 hart0 : -9223372036854775808≤a.hart
 hart1:a.hart≤9223372036854775807
 req:a.req.ok
 ent:a.ent.ok
structure An.ok (b:An):Prop where
 data:b.data<18446744073709551616
 ms:∀ q ∈ b.ms,q.ok
structure Ev.ok (e:Ev):Prop where
 hart0 : -9223372036854775808≤e.hart
 hart1:e.hart≤9223372036854775807
 ask:e.ask.ok
 ans:e.ans.ok
 from0 : -9223372036854775808≤e.from_
 from1:e.from_≤9223372036854775807
 at0 : -9223372036854775808≤e.at_
 at1:e.at_≤9223372036854775807
 to0 : -9223372036854775808≤e.to
 to1:e.to≤9223372036854775807
section
variable {h:Hp} {K:Value→Hp→Prop}
abbrev shRq:Sh:=.struct [.bool,.bool,.bool,(.int .u64),(.int .i64)]
abbrev shEn:Sh:=.struct [(.int .i64),(.int .u64),(.int .i64),(.int .u64)]
abbrev shAn:Sh:=.struct [(.int .u64),.bool,(.array 8 shRq)]
theorem rq_of {cs:List Value} (w:Wf h shRq cs):∃ q:Rq,q.ok∧cs=q.cs:=by
 obtain ⟨a1,b1,rfl,w1,w⟩:=wfC (wfS w)
 obtain ⟨a2,b2,rfl,w2,w⟩:=wfC w
 obtain ⟨a3,b3,rfl,w3,w⟩:=wfC w
 obtain ⟨a4,b4,rfl,w4,w⟩:=wfC w
 obtain ⟨a5,b5,rfl,w5,w⟩:=wfC w
 obtain rfl:=wfN w
 obtain ⟨x1,rfl⟩:=wfB w1
 obtain ⟨x2,rfl⟩:=wfB w2
 obtain ⟨x3,rfl⟩:=wfB w3
 obtain ⟨x4,rfl,p4⟩:=wfU w4
 obtain ⟨x5,rfl,p5,q5⟩:=wfI w5
 exact ⟨⟨x1,x2,x3,x4,x5⟩,⟨p4,p5,q5⟩,rfl⟩
theorem en_of {cs:List Value} (w:Wf h shEn cs):∃ q:En,q.ok∧cs=q.cs:=by
 obtain ⟨a1,b1,rfl,w1,w⟩:=wfC (wfS w)
 obtain ⟨a2,b2,rfl,w2,w⟩:=wfC w
 obtain ⟨a3,b3,rfl,w3,w⟩:=wfC w
 obtain ⟨a4,b4,rfl,w4,w⟩:=wfC w
 obtain rfl:=wfN w
 obtain ⟨x1,rfl,p1,q1⟩:=wfI w1
 obtain ⟨x2,rfl,p2⟩:=wfU w2
 obtain ⟨x3,rfl,p3,q3⟩:=wfI w3
 obtain ⟨x4,rfl,p4⟩:=wfU w4
 exact ⟨⟨x1,x2,x3,x4⟩,⟨p1,q1,p2,p3,q3,p4⟩,rfl⟩
theorem an_of {cs:List Value} (w:Wf h shAn cs):∃ q:An,q.ok∧cs=q.cs:=by
 obtain ⟨a1,b1,rfl,w1,w⟩:=wfC (wfS w)
 obtain ⟨a2,b2,rfl,w2,w⟩:=wfC w
 obtain ⟨a3,b3,rfl,w3,w⟩:=wfC w
 obtain rfl:=wfN w
 obtain ⟨x1,rfl,p1⟩:=wfU w1
 obtain ⟨x2,rfl⟩:=wfB w2
 obtain ⟨l,hl,ho,rfl⟩:=wfA (fun _=>rq_of) w3
 match l,hl with
 | [m0,m1,m2,m3,m4,m5,m6,m7],_=>exact ⟨⟨x1,x2,m0,m1,m2,m3,m4,m5,m6,m7⟩,⟨p1,ho⟩,by simp [An.cs,An.ms]⟩
end
end Go.Proofs.YtdhlpighdlnohaaGreat
