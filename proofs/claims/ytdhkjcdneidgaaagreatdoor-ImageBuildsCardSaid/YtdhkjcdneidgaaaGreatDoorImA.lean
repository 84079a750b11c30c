/-
  Images: what a source makes, plainly.
-/
import Derived.Test.YtdhkjcdneidgaaaGreatDoorAsM
import Derived.Test.YtdhkjcdneidgaaaGreatDoorAsQ
import Derived.Test.YtdhkjcdneidgaaaGreatDoorImmP
import Derived.Test.YtdhkjcdneidgaaaGreatDoorPgB
import Derived.Test.YtdhkjcdneidgaaaGreatDoorInsP
set_option linter.unusedSimpArgs false
set_option linter.unusedVariables false
set_option maxHeartbeats 8000000
set_option maxRecDepth 10000
set_option linter.unusedSimpArgs false
set_option linter.unusedVariables false
namespace Go.Proofs.YtdhkjcdneidgaaaGreatDoor
open Go Go.Mid Go.RowKit Go.Bits
abbrev rfXInsE0:Go.Mid.RF:=[(1,1),(12,1),(19,1),(24,1),(29,1),(34,1),(39,1),(44,1),(48,1),(5,5),(15,5),(17,5)]
attribute [local irreducible] mid
def encS (x:Ins):Nat:=isN (x.op.toNat - 1)+layN (fmtN x.op) (u64N x.m)+128*x.a.toNat+32768*x.b.toNat+1048576*x.c.toNat+1048576*x.s.toNat+(if x.aq then 67108864 else 0)+(if x.rl then 33554432 else 0)
section
variable {h:Hp} {K:Value→Hp→Prop}
theorem rcut_x (w a s:Nat) (hw:w<2 ^ 64) (ha:a≤63) (hs:s≤64) (hk:K (uv (w / 2 ^ a % 2 ^ s)) h):X Tryz.prog 70 #[uv w,.int .i64 a,.int .i64 s] h K:=by
 rw [← cut_eq hw] at hk
 refine X.forget ?_
 have hf:∀ k,(if k<s∧a+k<64 then bitN w (a+k) else 0)<2:=fun i=>by split <;> first | exact bitN_lt _ _ | decide
 refine fnv (args:=_) mixed [] [] [] Tryz.func70 rfl (by kernel_rfl) (cw_ ?_)
 refine loop_at [8,7] [] (fun r vs _ h'=>∃ (k:Nat) (sl:Value),k≤64∧r=64 - k∧vs=[.v (.int .i64 k),.v sl]∧Owns h h' 25 1 sl k (upto (fun k=>if k<s∧a+k<64 then bitN w (a+k) else 0) k)) 64
  ⟨0,.slice none 0 0,by omega,rfl,rfl,Owns.nil (Hp.le_refl _)⟩ ?_
 rintro r vs cs mm bx h1 ⟨k,sl,hi,rfl,rfl,hO⟩
 obtain ⟨sa,sc,rfl⟩:=hO.shape
 conv=>whnf
 refine br_ (fun q1=>?_) fun q1=>?_
 ·conv=>whnf
  refine br_ (fun q2=>?_) fun q2=>?_
  ·conv=>whnf
   refine loop_at [10,9] [] (fun r vs _ h'=>h1=h'∧∃ i:Nat,i≤64∧r=64 - i∧vs=[.v (.int .i64 i),.v (uv (if a+k<i then bitN w (a+k) else 0))]) 64 ⟨rfl,0,by omega,rfl,by rw [if_neg (by omega)];rfl⟩ ?_
   rintro r vs cs mm2 bx2 _ ⟨rfl,i,hi2,rfl,rfl⟩
   conv=>whnf
   refine br_ (fun q3=>?_) fun q3=>?_
   ·conv=>whnf
    refine rin_x a s i (by omega) hs (by omega) ?_
    by_cases hc:a≤i∧i<a+s
    ·rw [if_pos hc,decide_eq_true hc]
     conv=>whnf
     by_cases he:i - a=k
     ·have hik:i=a+k:=by omega
      refine bt_ ?_
      refine rbit_x w i hw (by omega) ?_
      rw [if_pos (by omega),Int.toNat_natCast]
      conv=>whnf
      refine n_ ?_
      exact ⟨64 - (i+1),by omega,rfl,i+1,by omega,rfl,by rw [show (if a+k<i+1 then bitN w (a+k) else 0)=bitN w i by rw [if_pos (by omega),← hik]];rfl⟩
     ·refine bf_ ?_
      refine n_ ?_
      refine ⟨64 - (i+1),by omega,rfl,i+1,by omega,rfl,?_⟩
      rw [show (if a+k<i+1 then bitN w (a+k) else 0)=(if a+k<i then bitN w (a+k) else 0) by
       by_cases h9:a+k<i
       ·rw [if_pos h9,if_pos (by omega)]
       ·rw [if_neg h9,if_neg (by omega)]]
      rfl
    ·rw [if_neg hc,decide_eq_false hc]
     conv=>whnf
     refine n_ ?_
     refine ⟨64 - (i+1),by omega,rfl,i+1,by omega,rfl,?_⟩
     rw [show (if a+k<i+1 then bitN w (a+k) else 0)=(if a+k<i then bitN w (a+k) else 0) by
      by_cases h9:a+k<i
      ·rw [if_pos h9,if_pos (by omega)]
      ·rw [if_neg h9,if_neg (by omega)]]
     rfl
   ·obtain rfl:i=64:=by omega
    conv=>whnf
    refine new_intro (o:=rowO 25 [uv (if a+k<64 then bitN w (a+k) else 0)]) (fun y h2 n_y le_y at_y ot_y=>cw_ ?_)
    refine Owns.app1 (z:=.int .u64 0) (by kernel_rfl) infU64 (by kernel_rfl) (by kernel_rfl) (by kernel_rfl) rfl (bytes:=8) (by decide) rfl rfl rfl (hO.up le_y) at_y rfl rfl (by omega) fun s3 h3 hO3=>(cw_ ?_)
    refine n_ ?_
    refine ⟨64 - (k+1),by omega,k+1,s3,by omega,rfl,rfl,?_⟩
    rw [upto_succ]
    rw [show (if k<s∧a+k<64 then bitN w (a+k) else 0)=(if a+k<64 then bitN w (a+k) else 0) by
     by_cases h9:a+k<64
     ·rw [if_pos h9,if_pos ⟨by omega,h9⟩]
     ·rw [if_neg h9,if_neg (fun h=>h9 h.2)]]
    exact hO3
  ·conv=>whnf
   refine new_intro (o:=rowO 25 [uv 0]) (fun y h2 n_y le_y at_y ot_y=>cw_ ?_)
   refine Owns.app1 (z:=.int .u64 0) (by kernel_rfl) infU64 (by kernel_rfl) (by kernel_rfl) (by kernel_rfl) rfl (bytes:=8) (by decide) rfl rfl rfl (hO.up le_y) at_y rfl rfl (by omega) fun s3 h3 hO3=>(cw_ ?_)
   refine n_ ?_
   refine ⟨64 - (k+1),by omega,k+1,s3,by omega,rfl,rfl,?_⟩
   rw [upto_succ]
   rw [if_neg (fun h=>by omega)]
   exact hO3
 ·obtain rfl:k=64:=by omega
  conv=>whnf
  refine rofU_x hO hf (cw_ ?_)
  exact ⟨h,hO.le,hk⟩
theorem tup_eq {a b:Int} {e:Value} (h:a=b):Value.tuple #[.int .u64 a,e]=.tuple #[.int .u64 b,e]:=by rw [h]
theorem row_get {i:Nat} (hi:i<98):∃ o:Nat,o=i+1∧rowsL[i]? = some ⟨o,fmtS.getD (fmtN ((i+1:Nat):Int)) [],maskN i,isN i⟩:=by
 have hL:i<rowsL.length:=by rw [rowsL_len];exact hi
 have h1:=rowsL_op i hi
 have h2:=row_fmt ((i+1:Nat):Int)
 unfold rowN at h2
 rw [if_pos (by omega),show ((i+1:Nat):Int).toNat - 1=i by omega] at h2
 have hx:rowsL[i]? = some rowsL[i]:=List.getElem?_eq_getElem hL
 have g:rowsL.getD i ⟨0,[],0,0⟩=rowsL[i]:=by rw [List.getD_eq_getElem?_getD,hx];rfl
 have h3:rowsL[i].fmt=fmtS.getD (fmtN ((i+1:Nat):Int)) []:=by rw [← g];exact h2
 rw [g] at h1
 refine ⟨rowsL[i].op,h1,?_⟩
 rw [hx,← h3]
 unfold maskN isN
 rw [g]
theorem rfind5_x (i:Nat) (hi:i<98) (f:Nat) (hf:fmtN ((i+1:Nat):Int)=f) (hk:∀ h',h.le h'→K (.agg #[.int .i64 ((i+1:Nat):Int),.string (bs (fmtS.getD f [])),uv (maskN i),uv (isN i)]) h'):X Tryz.prog 86 #[.int .i64 ((i+1:Nat):Int)] h K:=by
 refine rfind3_x _ fun h' hle=>?_
 obtain ⟨o,ho,hr⟩:=row_get hi
 have e:rowN ((i+1:Nat):Int)=⟨o,fmtS.getD (fmtN ((i+1:Nat):Int)) [],maskN i,isN i⟩:=by
  unfold rowN
  rw [if_pos (by omega),show ((i+1:Nat):Int).toNat - 1=i by omega,List.getD_eq_getElem?_getD,hr]
  rfl
 rw [e,hf,ho]
 exact hk h' hle
theorem rencode_x (x:Ins) (m1 : -9223372036854775808≤x.m) (m2:x.m≤9223372036854775807) (hk:K (.tuple #[uv (if x.chk=0 then encS x else 0),.int .i64 x.chk]) h):X Tryz.prog 55 #[.agg x.cs.toArray] h K:=by
 refine X.forget ?_
 by_cases hc:x.chk=0
 rotate_left
 ·rw [if_neg hc] at hk
  refine fnv (args:=_) mixed rfXInsE0 [] [] Tryz.func55 rfl (by kernel_rfl) (cw_ ?_)
  refine rcheck_x x.op x.a x.b x.c x.m x.s x.aq x.rl m1 m2 ?_
  rw [show checkF (fmtN x.op) x.a x.b x.c x.m x.s x.aq x.rl=x.chk from rfl]
  generalize x.chk=e at hc hk ⊢
  conv=>whnf
  refine bt_ ?_ (by simpa using hc)
  exact ⟨h,Hp.le_refl _,hk⟩
 rw [if_pos hc,hc] at hk
 obtain ⟨o1,o2,_,ha,hb,hc2,hs,_,_⟩:=chk_ok hc
 obtain ⟨i,hi⟩:∃ i:Nat,x.op=((i+1:Nat):Int):=⟨x.op.toNat - 1,by omega⟩
 obtain ⟨a,ea⟩:∃ a:Nat,x.a=a:=⟨x.a.toNat,by omega⟩
 obtain ⟨b,eb⟩:∃ b:Nat,x.b=b:=⟨x.b.toNat,by omega⟩
 obtain ⟨c,ec⟩:∃ c:Nat,x.c=c:=⟨x.c.toNat,by omega⟩
 obtain ⟨s,es⟩:∃ s:Nat,x.s=s:=⟨x.s.toNat,by omega⟩
 have hil:i<98:=by omega
 have hf15:=fmtN_lt x.op
 have hly:=layN_lt32 (fmtN x.op) hf15 (u64N x.m)
 have hisl:=(mask_lt i hil).2
 have he:encS x=isN i+layN (fmtN x.op) (u64N x.m)+128*a+32768*b+1048576*c+1048576*s+(if x.aq then 67108864 else 0)+(if x.rl then 33554432 else 0):=by
  unfold encS
  rw [ea,eb,ec,es,show x.op.toNat - 1=i by omega]
  simp only [Int.toNat_natCast]
 rw [he] at hk
 clear he
 have hfx:fmtN ((i+1:Nat):Int)=fmtN x.op:=by rw [hi]
 refine fnv (args:=_) mixed rfXInsE0 [] [] Tryz.func55 rfl (by kernel_rfl) (cw_ ?_)
 refine rcheck_x x.op x.a x.b x.c x.m x.s x.aq x.rl m1 m2 ?_
 rw [show checkF (fmtN x.op) x.a x.b x.c x.m x.s x.aq x.rl=x.chk from rfl]
 rw [hc]
 conv=>whnf
 rw [hi]
 refine rfind5_x i hil (fmtN x.op) hfx fun h1 le1=>?_
 rw [← hi]
 conv=>whnf
 refine rlay_x (fmtN x.op) hf15 x.m ?_
 generalize layN (fmtN x.op) (u64N x.m)=ly at hk hly ⊢
 generalize isN i=is at hk hisl ⊢
 refine ⟨trivial,cw_ ?_⟩
 refine ov_u64 (by omega) (cw_ ?_)
 rw [ea]
 refine ov_u64 (by omega) (cw_ ?_)
 refine ov_u64 (by omega) (cw_ ?_)
 refine ov_u64 (by omega) (cw_ ?_)
 rw [eb]
 refine ov_u64 (by omega) (cw_ ?_)
 refine ov_u64 (by omega) (cw_ ?_)
 refine ov_u64 (by omega) (cw_ ?_)
 rw [ec]
 refine ov_u64 (by omega) (cw_ ?_)
 refine ov_u64 (by omega) (cw_ ?_)
 refine ov_u64 (by omega) (cw_ ?_)
 rw [es]
 refine ov_u64 (by omega) (cw_ ?_)
 refine ov_u64 (by omega) (cw_ ?_)
 refine ov_u64 (by omega) (cw_ ?_)
 cases hq:x.aq with
 | true =>
  rw [hq] at hk
  conv=>whnf
  refine ov_u64 (by omega) (cw_ ?_)
  cases hr:x.rl with
  | true =>
   rw [hr] at hk
   conv=>whnf
   refine ov_u64 (by omega) (cw_ ?_)
   exact ⟨h,le1,kq hk (tup_eq (by first | (simp;done) | (simp;omega)))⟩
  | false =>
   rw [hr] at hk
   conv=>whnf
   exact ⟨h,le1,kq hk (tup_eq (by first | (simp;done) | (simp;omega)))⟩
 | false =>
  rw [hq] at hk
  conv=>whnf
  cases hr:x.rl with
  | true =>
   rw [hr] at hk
   conv=>whnf
   refine ov_u64 (by omega) (cw_ ?_)
   exact ⟨h,le1,kq hk (tup_eq (by first | (simp;done) | (simp;omega)))⟩
  | false =>
   rw [hr] at hk
   conv=>whnf
   exact ⟨h,le1,kq hk (tup_eq (by first | (simp;done) | (simp;omega)))⟩
end
end Go.Proofs.YtdhkjcdneidgaaaGreatDoor
namespace Go.Proofs.YtdhkjcdneidgaaaGreatDoor
open Go Go.Mid Go.RowKit Go.Bits
def layM (f:Nat):Nat:=layP f 18446744073709551615
def flds (i:Nat):List Bool:=fieldsL.getD (fmtN ((i+1:Nat):Int)) []
def masks (i:Nat):List Nat:=[maskN i,layM (fmtN ((i+1:Nat):Int)),if (flds i).getD 0 false then 31*2 ^ 7 else 0,if (flds i).getD 1 false then 31*2 ^ 15 else 0,if (flds i).getD 2 false then 31*2 ^ 20 else 0,if (flds i).getD 4 false then 4095*2 ^ 20 else 0,if (flds i).getD 5 false then 2 ^ 26 else 0,if (flds i).getD 5 false then 2 ^ 25 else 0]
def orL:List Nat→Nat
 | []=>0
 | a :: l=>a ||| orL l
def apartL:List Nat→Bool
 | []=>true
 | a :: l=>decide (a &&& orL l=0) && apartL l
theorem masks_ok:∀ i:Nat,i<98→apartL (masks i)=true∧orL (masks i)=4294967295:=by decide +kernel
def within:List Nat→List Nat→Prop
 | [],[]=>True
 | a :: l,m :: ms=>a &&& m=a∧within l ms
 | _,_=>False
theorem within_or:∀ {l ms:List Nat},within l ms→orL l &&& orL ms=orL l
 | [],[],_=>rfl
 | a :: l,m :: ms,h=>by
  obtain ⟨h1,h2⟩:=h
  have ih:=within_or h2
  show (a ||| orL l) &&& (m ||| orL ms)=a ||| orL l
  refine Nat.eq_of_testBit_eq fun q=>?_
  have e1:=congrArg (fun x=>x.testBit q) h1
  have e2:=congrArg (fun x=>x.testBit q) ih
  simp only [Nat.testBit_and,Nat.testBit_or] at e1 e2 ⊢
  revert e1 e2
  cases a.testBit q <;> cases m.testBit q <;> cases (orL l).testBit q <;> cases (orL ms).testBit q <;> simp
 | [],_ :: _,h=>h.elim
 | _ :: _,[],h=>h.elim
theorem apart_sub {a l m ms:Nat} (h1:a &&& m=a) (h2:l &&& ms=l) (h:m &&& ms=0):a &&& l=0∧a &&& ms=0∧l &&& m=0:=by
 have e:∀ q,(a &&& l).testBit q=false∧(a &&& ms).testBit q=false∧(l &&& m).testBit q=false:=fun q=>by
  have e1:=congrArg (fun x=>x.testBit q) h1
  have e2:=congrArg (fun x=>x.testBit q) h2
  have e3:=congrArg (fun x=>x.testBit q) h
  simp only [Nat.testBit_and,Nat.zero_testBit] at e1 e2 e3 ⊢
  revert e1 e2 e3
  cases a.testBit q <;> cases m.testBit q <;> cases l.testBit q <;> cases ms.testBit q <;> simp
 exact ⟨Nat.eq_of_testBit_eq fun q=>by rw [(e q).1,Nat.zero_testBit],Nat.eq_of_testBit_eq fun q=>by rw [(e q).2.1,Nat.zero_testBit],Nat.eq_of_testBit_eq fun q=>by rw [(e q).2.2,Nat.zero_testBit]⟩
theorem add_or {a b:Nat} (h:a &&& b=0):a+b=a ||| b:=by
 obtain ⟨n,ha,hb⟩:∃ n,a<2 ^ n∧b<2 ^ n:=⟨a+b,Nat.lt_of_lt_of_le (Nat.lt_two_pow_self) (Nat.pow_le_pow_right (by decide) (by omega)),Nat.lt_of_lt_of_le (Nat.lt_two_pow_self) (Nat.pow_le_pow_right (by decide) (by omega))⟩
 have:=BitVec.add_eq_or_of_and_eq_zero (BitVec.ofNat (n+1) a) (BitVec.ofNat (n+1) b) (by
  apply BitVec.eq_of_toNat_eq
  rw [BitVec.toNat_and,BitVec.toNat_ofNat,BitVec.toNat_ofNat]
  rw [Nat.mod_eq_of_lt (by rw [Nat.pow_succ];omega),Nat.mod_eq_of_lt (by rw [Nat.pow_succ];omega),h];rfl)
 have e:=congrArg BitVec.toNat this
 rw [BitVec.toNat_add,BitVec.toNat_or,BitVec.toNat_ofNat,BitVec.toNat_ofNat,Nat.mod_eq_of_lt (a:=a) (by rw [Nat.pow_succ];omega),Nat.mod_eq_of_lt (a:=b) (by rw [Nat.pow_succ];omega),Nat.mod_eq_of_lt (by rw [Nat.pow_succ];omega)] at e
 exact e
theorem sum_or:∀ {l ms:List Nat},within l ms→apartL ms=true→l.sum=orL l
 | [],[],_,_=>rfl
 | a :: l,m :: ms,h,hp=>by
  simp only [apartL,Bool.and_eq_true,decide_eq_true_eq] at hp
  rw [List.sum_cons,sum_or h.2 hp.2]
  exact add_or (apart_sub h.1 (within_or h.2) hp.1).1
 | [],_ :: _,h,_=>h.elim
 | _ :: _,[],h,_=>h.elim
theorem mask_part {v s a:Nat} (h:v<2 ^ s):v*2 ^ a &&& (2 ^ s - 1)*2 ^ a=v*2 ^ a:=by
 rw [← Nat.shiftLeft_eq,← Nat.shiftLeft_eq,← Nat.shiftLeft_and_distrib,Nat.and_two_pow_sub_one_eq_mod,Nat.mod_eq_of_lt h]
theorem ones_bit (j:Nat) (h:j<64):bitN 18446744073709551615 j=1:=by
 rw [show (18446744073709551615:Nat)=2 ^ 64 - 1 from rfl,bit_eq,Nat.testBit_two_pow_sub_one,decide_eq_true h];rfl
theorem lay_src:∀ f:Nat,f<15→∀ q:Nat,q<32→∀ j ∈ (layL f).filterMap (covers q),j<64:=by decide
theorem layM_bit (f:Nat) (hf:f<15) (q:Nat) (hq:q<32):bitN (layM f) q=if (layL f).filterMap (covers q)=[] then 0 else 1:=by
 unfold layM layP
 rw [orP_bit]
 have hs:=lay_src f hf q hq
 cases hl:(layL f).filterMap (covers q) with
 | nil=>rfl
 | cons j l =>
  rw [if_neg (by simp)]
  show max (bitN _ j) _=1
  rw [ones_bit j (hs j (by rw [hl];simp))]
  have:∀ l:List Nat,mx 18446744073709551615 l<2:=fun l=>by
   induction l with
   | nil=>decide
   | cons a l ih =>
    show max (bitN _ a) _<2
    have:=bitN_lt 18446744073709551615 a
    omega
  have:=this l
  omega
theorem lay_within (f:Nat) (hf:f<15) (u:Nat):layN f u &&& layM f=layN f u:=by
 have hlt:=layN_lt32 f hf u
 refine eq_bits (n:=32) (Nat.lt_of_le_of_lt Nat.and_le_left hlt) hlt fun q hq=>?_
 rw [and_bit,layM_bit f hf q hq]
 split
 ·rename_i h
  rw [← lay_eq f hf,layP,orP_bit,h];rfl
 ·have:=bitN_lt (layN f u) q
  omega
def partsX (x:Ins):List Nat:=[isN (x.op.toNat - 1),layN (fmtN x.op) (u64N x.m),x.a.toNat*2 ^ 7,x.b.toNat*2 ^ 15,x.c.toNat*2 ^ 20,x.s.toNat*2 ^ 20,if x.aq then 2 ^ 26 else 0,if x.rl then 2 ^ 25 else 0]
theorem encW_or (x:Ins):encW x=orL (partsX x):=by
 unfold encW partsX orL orL orL orL orL orL orL orL orL
 simp only [Nat.or_zero,Nat.or_assoc]
 cases x.aq <;> cases x.rl <;> simp [Nat.or_assoc]
theorem encS_sum (x:Ins):encS x=(partsX x).sum:=by
 have h7:x.a.toNat*2 ^ 7=128*x.a.toNat:=Nat.mul_comm _ _
 have h15:x.b.toNat*2 ^ 15=32768*x.b.toNat:=Nat.mul_comm _ _
 have h20:∀ n:Nat,n*2 ^ 20=1048576*n:=fun n=>Nat.mul_comm _ _
 have h26:(if x.aq=true then 2 ^ 26 else 0)=if x.aq=true then 67108864 else 0:=rfl
 have h25:(if x.rl=true then 2 ^ 25 else 0)=if x.rl=true then 33554432 else 0:=rfl
 unfold encS partsX
 rw [h7,h15,h20,h20,h26,h25]
 generalize isN (x.op.toNat - 1)=p0
 generalize layN (fmtN x.op) (u64N x.m)=p1
 generalize (if x.aq=true then 67108864 else 0)=p6
 generalize (if x.rl=true then 33554432 else 0)=p7
 simp only [List.sum_cons,List.sum_nil,Nat.add_zero,Nat.add_assoc]
theorem bad_fld {fl:List Bool} {a b c m s:Int} {aq rl:Bool} (h:¬ badF fl a b c m s aq rl) (h6:fl.length=6):(fl.getD 0 false=false→a=0)∧(fl.getD 1 false=false→b=0)∧(fl.getD 2 false=false→c=0)∧(fl.getD 3 false=false→m=0)∧(fl.getD 4 false=false→s=0)∧(fl.getD 5 false=false→aq=false∧rl=false):=by
 match fl,h6 with
 | [x0,x1,x2,x3,x4,x5],_ =>
  unfold badF at h
  simp only [List.getD_cons_zero,List.getD_cons_succ] at h ⊢
  refine ⟨fun e=>?_,fun e=>?_,fun e=>?_,fun e=>?_,fun e=>?_,fun e=>?_⟩
  ·by_cases hz:a=0
   ·exact hz
   ·exact absurd (.inl ⟨e,hz⟩) h
  ·by_cases hz:b=0
   ·exact hz
   ·exact absurd (.inr (.inl ⟨e,hz⟩)) h
  ·by_cases hz:c=0
   ·exact hz
   ·exact absurd (.inr (.inr (.inl ⟨e,hz⟩))) h
  ·by_cases hz:m=0
   ·exact hz
   ·exact absurd (.inr (.inr (.inr (.inl ⟨e,hz⟩)))) h
  ·by_cases hz:s=0
   ·exact hz
   ·exact absurd (.inr (.inr (.inr (.inr (.inl ⟨e,hz⟩))))) h
  ·cases haq:aq with
   | true=>exact absurd (.inr (.inr (.inr (.inr (.inr ⟨e,.inl haq⟩))))) h
   | false =>
    cases hrl:rl with
    | true=>exact absurd (.inr (.inr (.inr (.inr (.inr ⟨e,.inr hrl⟩))))) h
    | false=>exact ⟨rfl,rfl⟩
theorem flds_len:∀ f:Nat,f<15→(fieldsL.getD f []).length=6:=by decide
theorem is_within:∀ i:Nat,i<98→isN i &&& maskN i=isN i:=by decide +kernel
theorem if_mask {b:Bool} {v m:Nat} (h:b=false→v=0) (h2:v &&& m=v):v &&& (if b then m else 0)=v:=by
 cases b with
 | true=>exact h2
 | false=>rw [h rfl];simp
theorem parts_within {x:Ins} (h:x.chk=0) {i:Nat} (hi:x.op=((i+1:Nat):Int)) (hil:i<98):within (partsX x) (masks i):=by
 obtain ⟨_,_,_,ha,hb,hc,hs,_,hbad⟩:=chk_ok h
 have hf15:=fmtN_lt x.op
 obtain ⟨z0,z1,z2,_,z4,z5⟩:=bad_fld hbad (flds_len _ hf15)
 have hfl:flds i=fieldsL.getD (fmtN x.op) []:=by unfold flds;rw [hi]
 rw [← hfl] at z0 z1 z2 z4 z5
 unfold partsX masks
 rw [← hi,show x.op.toNat - 1=i by omega]
 refine ⟨is_within i hil,lay_within _ hf15 _,if_mask (fun e=>by rw [z0 e];rfl) (mask_part (s:=5) (by omega)),if_mask (fun e=>by rw [z1 e];rfl) (mask_part (s:=5) (by omega)),if_mask (fun e=>by rw [z2 e];rfl) (mask_part (s:=5) (by omega)),if_mask (fun e=>by rw [z4 e];rfl) (mask_part (s:=12) (by omega)),if_mask (fun e=>by rw [(z5 e).1];rfl) ?_,if_mask (fun e=>by rw [(z5 e).2];rfl) ?_,trivial⟩
 ·cases x.aq <;> decide
 ·cases x.rl <;> decide
theorem enc_eq {x:Ins} (h:x.chk=0):encS x=encW x:=by
 obtain ⟨o1,o2,_⟩:=chk_ok h
 obtain ⟨i,hi⟩:∃ i:Nat,x.op=((i+1:Nat):Int):=⟨x.op.toNat - 1,by omega⟩
 have hil:i<98:=by omega
 rw [encS_sum,encW_or]
 exact sum_or (parts_within h hi hil) (masks_ok i hil).1
theorem orL_lt:∀ {l ms:List Nat},within l ms→orL ms=4294967295→orL l<2 ^ 32:=fun {l ms} h e=>by
 have:=within_or h
 rw [e] at this
 have h2:orL l &&& 4294967295≤4294967295:=Nat.and_le_right
 omega
theorem enc_lt {x:Ins} (h:x.chk=0):encW x<2 ^ 32:=by
 obtain ⟨o1,o2,_⟩:=chk_ok h
 obtain ⟨i,hi⟩:∃ i:Nat,x.op=((i+1:Nat):Int):=⟨x.op.toNat - 1,by omega⟩
 have hil:i<98:=by omega
 rw [encW_or]
 exact orL_lt (parts_within h hi hil) (masks_ok i hil).2
end Go.Proofs.YtdhkjcdneidgaaaGreatDoor
namespace Go.Proofs.YtdhkjcdneidgaaaGreatDoor
open Go Go.Mid Go.RowKit
def lineA (t:Str):Str:=t.takeWhile (· != 10)
theorem lineA_no (t:Str):(10:UInt8) ∉ lineA t:=by
 intro h
 have:=List.all_takeWhile (p:=(· != (10:UInt8))) (l:=t)
 rw [List.all_eq_true] at this
 have:=this 10 h
 simp at this
theorem lineA_split {t:Str} (h:(10:UInt8) ∈ t):t=lineA t++10 :: t.drop ((lineA t).length+1):=by
 induction t with
 | nil=>cases h
 | cons c r ih =>
  by_cases hc:c=10
  ·subst hc
   have:lineA ((10:UInt8) :: r)=[]:=by unfold lineA;rw [List.takeWhile_cons,if_neg (by simp)]
   rw [this];rfl
  ·have hr:(10:UInt8) ∈ r:=by
    rcases List.mem_cons.1 h with h | h
    ·exact absurd h.symm hc
    ·exact h
   have e:lineA (c :: r)=c :: lineA r:=by unfold lineA;rw [List.takeWhile_cons,if_pos (by simpa using hc)]
   rw [e]
   show c :: r=c :: (lineA r++10 :: r.drop ((lineA r).length+1))
   rw [← ih hr]
theorem cutA_yes {t:Str} (h:(10:UInt8) ∈ t):Lib.cut t [10]=(lineA t,t.drop ((lineA t).length+1),true):=by
 have e:Lib.index t [10]=((lineA t).length:Nat):=by
  conv=>lhs;rw [lineA_split h]
  exact idx_byte (lineA_no t)
 unfold Lib.cut
 rw [if_pos (by rw [e];omega),e,Int.toNat_natCast]
 congr 1
 have e2:=congrArg (List.take (lineA t).length) (lineA_split h)
 rw [List.take_left] at e2
 exact e2
theorem cutA_no {t:Str} (h:(10:UInt8) ∉ t):Lib.cut t [10]=(t,[],false):=by
 unfold Lib.cut
 rw [if_neg (by rw [idx_no h];decide)]
def linesA (t:Str):List Str:=if (sp [10] t).getLast? = some [] then (sp [10] t).dropLast else sp [10] t
theorem linesA_nil:linesA []=[]:=by
 unfold linesA
 rw [sp_end (by simp)]
 rfl
theorem linesA_one {w:Str} (h:(10:UInt8) ∉ w) (h0:w≠[]):linesA w=[w]:=by
 unfold linesA
 rw [sp_end h,if_neg (by simpa using h0)]
theorem linesA_cons {w r:Str} (h:(10:UInt8) ∉ w):linesA (w++10 :: r)=w :: linesA r:=by
 unfold linesA
 rw [sp_one h]
 have hne:=sp_ne [10] r
 have e:(w :: sp [10] r).getLast? = (sp [10] r).getLast? := by
  cases hs:sp [10] r with
  | nil=>exact absurd hs hne
  | cons a l=>rw [List.getLast?_cons_cons]
 rw [e]
 split
 ·cases hs:sp [10] r with
  | nil=>exact absurd hs hne
  | cons a l=>rw [List.dropLast_cons_cons]
 ·rfl
theorem linesA_step {t:Str} (h:t≠[]):linesA t=(Lib.cut t [10]).1 :: linesA (Lib.cut t [10]).2.1∧(Lib.cut t [10]).2.1.length<t.length∧(Lib.cut t [10]).1.length≤t.length:=by
 by_cases hn:(10:UInt8) ∈ t
 ·rw [cutA_yes hn]
  have e:=lineA_split hn
  refine ⟨?_,?_,?_⟩
  ·conv=>lhs;rw [e]
   exact linesA_cons (lineA_no t)
  ·have:=congrArg List.length e
   simp only [List.length_append,List.length_cons] at this
   show (t.drop ((lineA t).length+1)).length<t.length
   omega
  ·have:=congrArg List.length e
   simp only [List.length_append,List.length_cons] at this
   show (lineA t).length≤t.length
   omega
 ·rw [cutA_no hn]
  refine ⟨?_,?_,Nat.le_refl _⟩
  ·show linesA t=t :: linesA []
   rw [linesA_nil];exact linesA_one hn h
  ·exact List.length_pos_iff.2 h
end Go.Proofs.YtdhkjcdneidgaaaGreatDoor
namespace Go.Proofs.YtdhkjcdneidgaaaGreatDoor
open Go Go.Mid Go.RowKit Go.Bits
attribute [local irreducible] mid
structure Pc where
 line:Int
 at_:Nat
 n:Nat
 num:Int
 x:Ins
 nm:Str
structure Bd where
 place:Nat
 pcs:List Pc
 lbs:List (Str×Nat)
 T:Option Tb
def bd0:Bd:=⟨2147483648,[],[],none⟩
def isLo (c:UInt8):Bool:=decide (97≤c.toNat∧c.toNat≤122)
def isNm (c:UInt8):Bool:=isLo c || decide (48≤c.toNat∧c.toNat≤57) || decide (c.toNat=95)
def nameB:Str→Bool
 | []=>false
 | c :: r=>decide (r.length<16) && isLo c && (c :: r).all isNm
def numsI:List Str→Option (List Nat)
 | []=>some []
 | w :: r=>match numA w with
  | none=>none
  | some k=>if k<0 then none else (numsI r).map fun l=>k.toNat :: l
def layPc (b:Bd) (ln:Int) (n:Nat) (num:Int) (x:Ins) (nm:Str):Bd:={ b with pcs:=b.pcs++[⟨ln,b.place,n,num,x,nm⟩],place:=(b.place+n) % 2 ^ 64 }
def findL (l:List (Str×Nat)) (w:Str):Option Nat:=match l with
 | []=>none
 | p :: r=>if p.1=w then some p.2 else findL r w
def labelP (b:Bd) (w:Str):Except Int Bd:=if nameB w=true then (match findL b.lbs w with | some _=>.error 8 | none=>.ok { b with lbs:=b.lbs++[(w,b.place)] }) else .error 9
def dataP (b:Bd) (ln:Int) (n:Nat):List Str→Except Int Bd
 | [w]=>if w[0]? = some 64 then (if nameB (w.drop 1)=true then .ok (layPc b ln n 0 in0 (w.drop 1)) else .error 2) else match numA w with
  | none=>.error 2
  | some k=>if n=8∨(-2147483648≤k∧k<4294967296) then .ok (layPc b ln n k in0 []) else .error 3
 | _=>.error 2
def orgP (b:Bd) (r:List Str):Except Int Bd:=match numsI r with
 | some [k]=>.ok { b with place:=k }
 | _=>.error 2
def rootP (b:Bd) (r:List Str):Except Int Bd:=match numsI r with
 | some [k]=>match b.T with
  | some _=>.error 8
  | none=>if k % 4096=0 then .ok { b with T:=some ⟨k,1,[]⟩ } else .error 1
 | _=>.error 2
def pageP (b:Bd) (r:List Str):Except Int Bd:=match numsI r with
 | some [va,pa,l,fl]=>match b.T with
  | none=>.error 8
  | some t=>match mapP t va pa l fl with
   | .error e=>.error e
   | .ok u=>.ok { b with T:=some u }
 | _=>.error 2
def insP (b:Bd) (ln:Int) (t last:Str):Except Int Bd :=
 if last[0]? = some 64 then
  if nameB (last.drop 1)=true then match parseA (t.take (t.length - last.length)++[48]) with
   | .error e=>.error e
   | .ok x=>if fmtN x.op=4∨fmtN x.op=6 then .ok (layPc b ln 4 0 x (last.drop 1)) else .error 2
  else .error 9
 else match parseA t with
  | .error e=>.error e
  | .ok x=>.ok (layPc b ln 4 0 x [])
abbrev sOrg:Str:=[111,114,103]
abbrev sWord:Str:=[119,111,114,100]
abbrev sDword:Str:=[100,119,111,114,100]
abbrev sRoot:Str:=[114,111,111,116]
abbrev sPage:Str:=[112,97,103,101]
def oneP (b:Bd) (ln:Int) (t:Str):Except Int Bd :=
 if 200<t.length then .error 4 else if (sp [32] t).any (·.isEmpty) then .error 2 else match sp [32] t with
  | []=>.error 2
  | w :: r=>if r=[]∧t.getLast? = some 58 then labelP b t.dropLast
   else if w=sOrg then orgP b r else if w=sWord then dataP b ln 4 r else if w=sDword then dataP b ln 8 r else if w=sRoot then rootP b r else if w=sPage then pageP b r
   else insP b ln t ((w :: r).getLastD [])
def readP:Bd→Nat→List Str→Except (Int×Int) Bd
 | b,_,[]=>.ok b
 | b,n,t :: r=>if t=[]∨t[0]? = some 35 then readP b (n+1) r else match oneP b (n+1:Nat) t with
  | .error e=>.error ((n+1:Nat),e)
  | .ok c=>readP c (n+1) r
def rawP (l:List (Str×Nat)) (p:Pc):Except Int Str :=
 match (if p.nm=[] then some 0 else findL l p.nm) with
 | none=>.error 6
 | some k=>if p.x.op=0 then .ok (eightN (if p.nm=[] then u64N p.num else k) p.n) else
  let y:Ins:=if p.nm=[] then p.x else { p.x with m:=i64N ((k+2 ^ 64 - p.at_) % 2 ^ 64) }
  if y.chk=0 then .ok (eightN (encW y) 4) else .error 3
def pushP (out:List (Nat×Str)) (at_:Nat) (x:UInt8):List (Nat×Str):=match out.getLast? with
 | some p=>if p.2.length<256∧(p.1+p.2.length) % 2 ^ 64=at_ then out.dropLast++[(p.1,p.2++[x])] else out++[(at_,[x])]
 | none=>[(at_,[x])]
def pushL:List (Nat×Str)→Nat→Str→List (Nat×Str)
 | out,_,[]=>out
 | out,a,x :: r=>pushL (pushP out a x) ((a+1) % 2 ^ 64) r
def gathP (l:List (Str×Nat)):List (Nat×Str)→List Pc→Except (Int×Int) (List (Nat×Str))
 | out,[]=>.ok out
 | out,p :: r=>match rawP l p with
  | .error e=>.error (p.line,e)
  | .ok b=>gathP l (pushL out p.at_ b) r
def entP (t:Option Tb):List (Nat×Str):=match t with
 | none=>[]
 | some t=>(entsL t).map fun e=>(atE t.root e,eightN e.p 8)
def satpP (t:Option Tb):Nat:=match t with
 | none=>0
 | some t=>9223372036854775808+t.root / 4096
def buildP (s:Str):Except (Int×Int) (List (Nat×Str)×List (Str×Nat)×Nat):=match readP bd0 0 (linesA s) with
 | .error e=>.error e
 | .ok b=>match gathP b.lbs [] b.pcs with
  | .error e=>.error e
  | .ok out=>if 256<(out++entP b.T).length then .error (0,4) else .ok (out++entP b.T,b.lbs,satpP b.T)
end Go.Proofs.YtdhkjcdneidgaaaGreatDoor
