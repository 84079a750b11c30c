/-
  Instructions as words: what is encoded is decoded, and what is decoded is encoded; the program's words are the document's: plain laws.
-/
import Derived.Test.YtdhkjcdneidgaaaGreatDoorLib0
import Derived.Test.YtdhkjcdneidgaaaGreatDoorTrK
import Derived.Test.YtdhkjcdneidgaaaGreatDoorBitX
import Derived.Test.YtdhkjcdneidgaaaGreatDoorPgB
import Derived.Test.YtdhkjcdneidgaaaGreatDoorInsDe
import Derived.Test.YtdhkjcdneidgaaaGreatDoorAsI
namespace Go.Proofs.YtdhkjcdneidgaaaGreatDoor
set_option linter.unusedSimpArgs false
set_option linter.unusedVariables false
set_option linter.unusedSimpArgs false
set_option linter.unusedVariables false
open Go Go.Mid Go.RowKit Go.Bits
attribute [local irreducible] mid
abbrev uv (n:Nat):Value:=.int .u64 n
section
set_option maxHeartbeats 8000000
set_option maxRecDepth 10000
variable {h:Hp} {K:Value→Hp→Prop}
theorem aggU64:isAggT Tryz.prog 25=some false:=by kernel_rfl
theorem infU64:Tryz.prog.info? 25=some Tryz.prog.types[25]:=by kernel_rfl
theorem rbit_x (w:Nat) (i:Int) (hw:w<2 ^ 64) (hi:i≤63) (hk:K (uv (if 0≤i then bitN w i.toNat else 0)) h):X Tryz.prog 68 #[uv w,.int .i64 i] h K:=by
 by_cases h0:0≤i
 ·rw [if_pos h0] at hk
  refine fnv (args:=_) mixed [] [] [] Tryz.func68 rfl (by kernel_rfl) ?_;conv=>whnf
  refine bsel_false (by simp;omega) ?_;conv=>whnf
  refine bsel_false (by simp;omega) ?_;conv=>whnf
  refine loop_at [5,0] [] (fun r vs _ h'=>h=h'∧∃ k:Nat,k≤i.toNat∧r=i.toNat - k∧vs=[.v (.int .i64 k),.v (uv (w / 2 ^ k))]) i.toNat ⟨rfl,0,by omega,by omega,by rw [show w / 2 ^ 0=w by simp];rfl⟩ ?_
  rintro r vs cs mm bx _ ⟨rfl,k,hk1,rfl,rfl⟩
  conv=>whnf
  have hwk2:w / 2 ^ k≤w:=Nat.div_le_self _ _
  have hwk4:w / 2 ^ (k+1)≤w:=Nat.div_le_self _ _
  refine bsel_intro (fun h1=>?_) (fun h1=>?_) <;> try simp only [bsL] at h1
  ·conv=>whnf
   have e1:((w / 2 ^ k:Nat):Int).tdiv 2=((w / 2 ^ (k+1):Nat):Int):=by rw [Int.tdiv_eq_ediv_of_nonneg (Int.natCast_nonneg _),Nat.pow_succ,← Nat.div_div_eq_div_mul];rfl
   rw [e1]
   generalize hq:w / 2 ^ (k+1)=q at *
   have hq2:q<18446744073709551616:=by omega
   refine ov_u64 (by omega) ?_;conv=>whnf
   (first | refine ov_c (by simp only [loK,hiK];omega) ?_ | refine ov_c (by decide) ?_);conv=>whnf
   exact ⟨i.toNat - (k+1),by omega,rfl,k+1,by omega,rfl,by rw [hq];rfl⟩
  ·conv=>whnf
   obtain rfl:k=i.toNat:=by omega
   exact kq hk (iI (by rw [Int.tmod_eq_emod_of_nonneg (Int.natCast_nonneg _)];rfl))
 ·rw [if_neg h0] at hk
  refine fnv (args:=_) mixed [] [] [] Tryz.func68 rfl (by kernel_rfl) ?_;conv=>whnf
  refine bsel_true (by simp;omega) ?_;conv=>whnf
  exact hk
theorem rof_x {k:Hp} {s:Value} {l:List Nat} (hO:Owns k h 25 1 s l.length (l.map uv)) (hl:l.length≤64) (h1:∀ x ∈ l,x<2) (hk:K (uv (ofL l)) h):X Tryz.prog 102 #[s] h K:=by
 rcases Nat.eq_zero_or_pos l.length with h0 | h0
 ·obtain rfl:l=[]:=List.eq_nil_of_length_eq_zero h0
  obtain ⟨sa,sc,rfl⟩:=hO.shape
  refine fnv (args:=_) mixed [] [] [] Tryz.func102 rfl (by kernel_rfl) ?_;conv=>whnf
  refine ov_i64 (by simp) ?_;conv=>whnf
  refine loop_step ?_;conv=>whnf
  exact hk
 ·obtain ⟨b,cap,rest,rfl,hc,hb,_⟩:=hO.row h0
  refine fnv (args:=_) mixed [] [] [] Tryz.func102 rfl (by kernel_rfl) ?_;conv=>whnf
  (first | refine ov_c (by simp only [loK,hiK];omega) ?_ | refine ov_c (by decide) ?_);conv=>whnf
  refine loop_at [4,3] [] (fun r vs _ h'=>h=h'∧r≤l.length∧vs=[.v (.int .i64 ((r:Int) - 1)),.v (uv (ofL (l.drop r)))]) l.length ⟨rfl,Nat.le_refl _,by rw [List.drop_length];rfl⟩ ?_
  rintro r vs cs mm bx _ ⟨rfl,hr,rfl⟩
  conv=>whnf
  refine bsel_intro (fun q1=>?_) (fun q1=>?_) <;> try simp only [bsL] at q1
  ·obtain ⟨j,rfl⟩:∃ j,r=j+1:=⟨r - 1,by omega⟩
   have hj:j<l.length:=by omega
   obtain ⟨x,hx⟩:∃ x,l[j]? = some x:=⟨_,List.getElem?_eq_getElem hj⟩
   have hx2:=h1 x (List.mem_of_getElem? hx)
   have hcell:(l.map uv++rest)[j]? = some (uv x):=by
    rw [List.getElem?_append_left (by simpa using hj),List.getElem?_map,hx];rfl
   have hd:l.drop j=x :: l.drop (j+1):=by
    rw [List.drop_eq_getElem_cons hj]
    congr 1
    exact (List.getElem?_eq_some_iff.1 hx).2
   have hlt:=ofL_lt (l.drop (j+1)) (fun y hy=>h1 y (List.mem_of_mem_drop hy))
   have hle:2 ^ (l.drop (j+1)).length≤2 ^ 63:=Nat.pow_le_pow_right (by decide) (by rw [List.length_drop];omega)
   have hlt2:ofL (l.drop (j+1))<9223372036854775808:=Nat.lt_of_lt_of_le hlt hle
   conv=>whnf
   refine bsel_true (by simp;omega) ?_;conv=>whnf
   refine ov_u64 (by omega) ?_;conv=>whnf
   (first | refine need_intro (⟨by omega,by omega⟩) ?_ | refine must.mk (⟨by omega,by omega⟩) ?_);conv=>whnf
   refine ⟨_,loadI aggU64 hb (j:=j) (by omega) hcell,?_⟩;conv=>whnf
   refine ov_u64 (by omega) ?_;conv=>whnf
   (first | refine ov_c (by simp only [loK,hiK];omega) ?_ | refine ov_c (by decide) ?_);conv=>whnf
   refine ⟨j,by omega,rfl,by omega,?_⟩
   rw [hd]
   show [MV.v _,MV.v _]=_
   rw [show ((j+1:Nat):Int) - 1 - 1=(j:Int) - 1 by omega]
   rfl
  ·obtain rfl:r=0:=by omega
   conv=>whnf
   exact hk
theorem rin_x (a s b:Nat) (ha:a≤64) (hs:s≤64) (hb:b≤64) (hk:K (.tuple #[.int .i64 (if a≤b∧b<a+s then b - a else 0:Nat),.bool (decide (a≤b∧b<a+s))]) h):X Tryz.prog 101 #[.int .i64 a,.int .i64 s,.int .i64 b] h K:=by
 by_cases hc:a≤b∧b<a+s
 ·rw [if_pos hc,decide_eq_true hc] at hk
  refine fnv (args:=_) mixed [] [] [] Tryz.func101 rfl (by kernel_rfl) ?_;conv=>whnf
  refine bsel_false (by simp;omega) ?_;conv=>whnf
  refine bsel_false (by simp;omega) ?_;conv=>whnf
  (first | refine ov_c (by simp only [loK,hiK];omega) ?_ | refine ov_c (by decide) ?_);conv=>whnf
  (first | refine ov_c (by simp only [loK,hiK];omega) ?_ | refine ov_c (by decide) ?_);conv=>whnf
  (first | refine ov_c (by simp only [loK,hiK];omega) ?_ | refine ov_c (by decide) ?_);conv=>whnf
  (first | refine ov_c (by simp only [loK,hiK];omega) ?_ | refine ov_c (by decide) ?_);conv=>whnf
  refine bsel_false (by simp;omega) ?_;conv=>whnf
  refine bsel_false (by simp;omega) ?_;conv=>whnf
  (first | refine ov_c (by simp only [loK,hiK];omega) ?_ | refine ov_c (by decide) ?_);conv=>whnf
  exact kq hk (by rw [show ((b:Int) - a)=((b - a:Nat):Int) by omega];rfl)
 ·rw [if_neg hc,decide_eq_false hc] at hk
  refine fnv (args:=_) mixed [] [] [] Tryz.func101 rfl (by kernel_rfl) ?_;conv=>whnf
  refine bsel_intro (fun q1=>?_) (fun q1=>?_) <;> try simp only [bsL] at q1
  ·conv=>whnf
   exact hk
  ·conv=>whnf
   refine bsel_intro (fun q2=>?_) (fun q2=>?_) <;> try simp only [bsL] at q2
   ·conv=>whnf
    exact hk
   ·conv=>whnf
    (first | refine ov_c (by simp only [loK,hiK];omega) ?_ | refine ov_c (by decide) ?_);conv=>whnf
    (first | refine ov_c (by simp only [loK,hiK];omega) ?_ | refine ov_c (by decide) ?_);conv=>whnf
    (first | refine ov_c (by simp only [loK,hiK];omega) ?_ | refine ov_c (by decide) ?_);conv=>whnf
    (first | refine ov_c (by simp only [loK,hiK];omega) ?_ | refine ov_c (by decide) ?_);conv=>whnf
    refine bsel_true (by simp;omega) ?_;conv=>whnf
    exact hk
def upto (f:Nat→Nat) (i:Nat):List Value:=((List.range i).map f).map uv
theorem upto_succ (f:Nat→Nat) (i:Nat):upto f (i+1)=upto f i++[uv (f i)]:=by
 unfold upto;rw [List.range_succ,List.map_append,List.map_append];rfl
theorem rofU_x {k h:Hp} {s:Value} {f:Nat→Nat} (hO:Owns k h 25 1 s 64 (upto f 64)) (hf:∀ i,f i<2) (hk:K (uv (bitsOf 64 f)) h):X Tryz.prog 102 #[s] h K:=by
 have hl:((List.range 64).map f).length=64:=by simp
 refine rof_x (l:=(List.range 64).map f) (by rw [hl];exact hO) (by rw [hl];exact Nat.le_refl _) (fun x hx=>?_) hk
 obtain ⟨i,_,rfl⟩:=List.mem_map.1 hx
 exact hf i
theorem rput_x (w a s n:Nat) (hw:w<2 ^ 64) (hn:n<2 ^ 64) (ha:a≤63) (hs:s≤64) (hk:K (uv (putN w a s n)) h):X Tryz.prog 72 #[uv w,.int .i64 a,.int .i64 s,uv n] h K:=by
 refine X.forget ?_
 have hf:∀ i,(if a≤i∧i<a+s then bitN n (i - a) else bitN w i)<2:=fun i=>by split <;> exact bitN_lt _ _
 refine fnv (args:=_) mixed [] [] [] Tryz.func72 rfl (by kernel_rfl) ?_;conv=>whnf
 refine loop_at [10,9] [] (fun r vs _ h'=>∃ (i:Nat) (sl:Value),i≤64∧r=64 - i∧vs=[.v (.int .i64 i),.v sl]∧Owns h h' 25 1 sl i (upto (fun i=>if a≤i∧i<a+s then bitN n (i - a) else bitN w i) i)) 64
  ⟨0,.slice none 0 0,by omega,rfl,rfl,Owns.nil (Hp.le_refl _)⟩ ?_
 rintro r vs cs mm bx h1 ⟨i,sl,hi,rfl,rfl,hO⟩
 obtain ⟨sa,sc,rfl⟩:=hO.shape
 conv=>whnf
 refine bsel_intro (fun q1=>?_) (fun q1=>?_) <;> try simp only [bsL] at q1
 ·conv=>whnf
  refine rin_x a s i (by omega) hs (by omega) ?_
  by_cases hc:a≤i∧i<a+s
  ·rw [if_pos hc,decide_eq_true hc]
   conv=>whnf
   refine rbit_x n (i - a:Nat) hn (by omega) ?_
   rw [if_pos (by omega)]
   conv=>whnf
   refine new_intro (o:=rowO 25 [uv (bitN n (i - a))]) (fun y h2 n_y le_y at_y ot_y=>?_);conv=>whnf
   refine Owns.app1 (z:=.int .u64 0) (by kernel_rfl) infU64 (by kernel_rfl) (by kernel_rfl) (by kernel_rfl) rfl (bytes:=8) (by decide) rfl rfl rfl (hO.up le_y) at_y rfl rfl (by omega) fun s3 h3 hO3=>?_
   conv=>whnf
   (first | refine ov_c (by simp only [loK,hiK];omega) ?_ | refine ov_c (by decide) ?_);conv=>whnf
   refine ⟨64 - (i+1),by omega,i+1,s3,by omega,rfl,rfl,?_⟩
   rw [upto_succ]
   simp only [if_pos hc]
   exact hO3
  ·rw [if_neg hc,decide_eq_false hc]
   conv=>whnf
   refine rbit_x w i hw (by omega) ?_
   rw [if_pos (by omega)]
   conv=>whnf
   refine new_intro (o:=rowO 25 [uv (bitN w i)]) (fun y h2 n_y le_y at_y ot_y=>?_);conv=>whnf
   refine Owns.app1 (z:=.int .u64 0) (by kernel_rfl) infU64 (by kernel_rfl) (by kernel_rfl) (by kernel_rfl) rfl (bytes:=8) (by decide) rfl rfl rfl (hO.up le_y) at_y rfl rfl (by omega) fun s3 h3 hO3=>?_
   conv=>whnf
   (first | refine ov_c (by simp only [loK,hiK];omega) ?_ | refine ov_c (by decide) ?_);conv=>whnf
   refine ⟨64 - (i+1),by omega,i+1,s3,by omega,rfl,rfl,?_⟩
   rw [upto_succ]
   simp only [if_neg hc]
   exact hO3
 ·obtain rfl:i=64:=by omega
  conv=>whnf
  refine rofU_x hO hf ?_
  conv=>whnf
  exact ⟨h,hO.le,hk⟩
end
end Go.Proofs.YtdhkjcdneidgaaaGreatDoor

namespace Go.Proofs.YtdhkjcdneidgaaaGreatDoor
set_option linter.unusedSimpArgs false
set_option linter.unusedVariables false
set_option linter.unusedSimpArgs false
set_option linter.unusedVariables false
open Go Go.Mid Go.RowKit
attribute [local irreducible] mid
section
set_option maxHeartbeats 8000000
set_option maxRecDepth 10000
variable {h:Hp} {K:Value→Hp→Prop}
theorem dig10:∀ n:Nat,n<10→(([48,49,50,51,52,53,54,55,56,57]:Str).take ((n:Int)+1).toNat).drop (n:Int).toNat=[UInt8.ofNat (48+n)]:=by decide +kernel
theorem rplain_x (u:Nat) (hu:u<18446744073709551616) (hk:K (.string (bs (Lib.decDigits u))) h):X Tryz.prog 156 #[.int .u64 u] h K:=by
 have hlen:=dec_len hu
 have step:∀ (n:Nat) (s:Str),Lib.decDigits u=(if n<10 then [] else Lib.decDigits (n / 10))++s→9<n→Lib.decDigits u=(if n / 10<10 then [] else Lib.decDigits (n / 10 / 10))++(UInt8.ofNat (48+n / 10 % 10) :: s):=fun n s e hn=>by
  rw [if_neg (by omega)] at e
  rw [e,Lib.decDigits]
  by_cases h2:n / 10<10
  ·rw [dif_pos h2,if_pos h2,Nat.mod_eq_of_lt h2];rfl
  ·rw [dif_neg h2,if_neg h2,List.append_assoc];rfl
 have first:Lib.decDigits u=(if u<10 then [] else Lib.decDigits (u / 10))++[UInt8.ofNat (48+u % 10)]:=by
  rw [Lib.decDigits]
  by_cases h2:u<10
  ·rw [dif_pos h2,if_pos h2,Nat.mod_eq_of_lt h2];rfl
  ·rw [dif_neg h2,if_neg h2]
 have dgt:∀ n:Nat,(([48,49,50,51,52,53,54,55,56,57]:Str).take ((n:Int).tmod 10+1).toNat).drop ((n:Int).tmod 10).toNat=[UInt8.ofNat (48+n % 10)]:=fun n=>dig10 (n % 10) (Nat.mod_lt _ (by decide))
 have tm:∀ n:Nat,(n:Int).tmod 10=((n % 10:Nat):Int):=fun n=>rfl
 have td:∀ n:Nat,(n:Int).tdiv 10=((n / 10:Nat):Int):=fun n=>rfl
 refine fnv (args:=_) mixed [] [] [] Tryz.func156 rfl (by kernel_rfl) ?_;conv=>whnf
 refine ov_u64 (by rw [tm];omega) ?_;conv=>whnf
 (first | refine need_intro (⟨by rw [tm];omega,by rw [tm];show _≤((10:Nat):Int);omega⟩) ?_ | refine must.mk (⟨by rw [tm];omega,by rw [tm];show _≤((10:Nat):Int);omega⟩) ?_);conv=>whnf
 (first | refine need_intro (⟨by rw [tm];omega,by rw [tm];omega⟩) ?_ | refine must.mk (⟨by rw [tm];omega,by rw [tm];omega⟩) ?_);conv=>whnf
 refine sub_by (dgt u) ?_
 conv=>whnf
 refine loop_at [0,4] [] (fun r vs _ h'=>h=h'∧∃ (n:Nat) (s:Str),n≤u∧r=n∧vs=[.v (.int .u64 n),.v (.string (bs s))]∧Lib.decDigits u=(if n<10 then [] else Lib.decDigits (n / 10))++s) u ⟨rfl,u,_,Nat.le_refl _,rfl,rfl,first⟩ ?_
 rintro n vs cs mm bx _ ⟨rfl,_,s,hnu,rfl,rfl,hs⟩
 have hls:s.length≤20:=by rw [hs,List.length_append] at hlen;omega
 conv=>whnf
 refine bsel_intro (fun q1=>?_) (fun q1=>?_) <;> try simp only [bsL] at q1
 ·have hn:9<n:=by omega
  conv=>whnf
  rw [td]
  refine ov_u64 (by omega) ?_;conv=>whnf
  refine ov_u64 (by rw [tm];omega) ?_;conv=>whnf
  (first | refine need_intro (⟨by rw [tm];omega,by rw [tm];show _≤((10:Nat):Int);omega⟩) ?_ | refine must.mk (⟨by rw [tm];omega,by rw [tm];show _≤((10:Nat):Int);omega⟩) ?_);conv=>whnf
  (first | refine need_intro (⟨by rw [tm];omega,by rw [tm];omega⟩) ?_ | refine must.mk (⟨by rw [tm];omega,by rw [tm];omega⟩) ?_);conv=>whnf
  refine sub_by (dgt (n / 10)) ?_
  conv=>whnf
  refine cat_intro (by simp;omega) ?_;conv=>whnf
  refine ⟨n / 10,by omega,rfl,n / 10,_,by omega,rfl,rfl,?_⟩
  exact step n s hs hn
 ·have hn:n<10:=by omega
  rw [if_pos hn,List.nil_append] at hs
  rw [hs] at hk
  conv=>whnf
  exact hk
end
end Go.Proofs.YtdhkjcdneidgaaaGreatDoor

namespace Go.Proofs.YtdhkjcdneidgaaaGreatDoor
set_option linter.unusedSimpArgs false
set_option linter.unusedVariables false
set_option linter.unusedSimpArgs false
set_option linter.unusedVariables false
open Go Go.Mid Go.RowKit
attribute [local irreducible] mid
section
set_option maxHeartbeats 8000000
set_option maxRecDepth 10000
variable {h:Hp} {K:Value→Hp→Prop}
theorem wrap_u64 (x:Int):IntKind.u64.wrap x=x % 18446744073709551616:=by
 unfold IntKind.wrap
 simp [IntKind.signed,IntKind.bits]
theorem rDigits_x (n:Int) (h0 : -9223372036854775808≤n) (h1:n≤9223372036854775807) (hk:K (.string (bs (Lib.itoa n))) h):X Tryz.prog 116 #[.int .i64 n] h K:=by
 unfold Lib.itoa at hk
 have hl:=dec_len (u:=n.natAbs) (by omega)
 refine fnv (args:=_) mixed [] [] [] Tryz.func116 rfl (by kernel_rfl) ?_;conv=>whnf
 refine bsel_intro (fun q1=>?_) (fun q1=>?_) <;> try simp only [bsL] at q1
 ·rw [if_pos q1] at hk
  conv=>whnf
  refine ov_by (y:=n+18446744073709551616) (by rw [wrap_u64];omega) ?_
  conv=>whnf
  refine ov_by (y:=(n.natAbs:Int)) (by rw [wrap_u64];omega) ?_
  conv=>whnf
  refine rplain_x n.natAbs (by omega) ?_
  conv=>whnf
  refine cat_intro (by simp;omega) ?_;conv=>whnf
  exact hk
 ·rw [if_neg (by omega)] at hk
  conv=>whnf
  refine ov_by (y:=(n.toNat:Int)) (by rw [wrap_u64];omega) ?_
  conv=>whnf
  refine rplain_x n.toNat (by omega) ?_
  conv=>whnf
  exact hk
end
end Go.Proofs.YtdhkjcdneidgaaaGreatDoor

namespace Go.Proofs.YtdhkjcdneidgaaaGreatDoor
set_option linter.unusedSimpArgs false
set_option linter.unusedVariables false
set_option linter.unusedSimpArgs false
set_option linter.unusedVariables false
open Go Go.Mid Go.RowKit Go.Bits
attribute [local irreducible] mid
theorem Owns.lit {k h:Hp} {el n b:Nat} {cs:List Value} (hle:k.le h) (hk:k b=none) (hb:h b=some (rowO el cs)) (hl:cs.length=n):Owns k h el 1 (.slice (some ⟨b,0,none⟩) n n) n cs :=
 ⟨some b,⟨by omega,.inr ⟨b,n,[],rfl,rfl,Nat.le_refl _,by simp,by rw [List.append_nil];exact hb⟩⟩,hle,fun c e=>by cases e;exact hk⟩
abbrev jv (n:Int):Value:=.int .i64 n
theorem fits_eq (f:Nat) (n:Int):fitsN f n=Go.Bits.fits f n:=by
 match f with
 | 0 | 1 | 2 | 3 | 4 | 5 | 6 | 7 | 8=>rfl
 | f+9=>rfl
section
set_option maxHeartbeats 8000000
set_option maxRecDepth 10000
variable {h:Hp} {K:Value→Hp→Prop}
theorem u64N_lt (n:Int):u64N n<2 ^ 64:=by unfold u64N;omega
end
end Go.Proofs.YtdhkjcdneidgaaaGreatDoor

namespace Go.Proofs.YtdhkjcdneidgaaaGreatDoor
set_option linter.unusedSimpArgs false
set_option linter.unusedVariables false
set_option linter.unusedSimpArgs false
set_option linter.unusedVariables false
open Go Go.Mid Go.RowKit Go.Bits
attribute [local irreducible] mid
section
set_option maxHeartbeats 8000000
set_option maxRecDepth 10000
variable {h:Hp} {K:Value→Hp→Prop}
theorem rcut_x (w a s:Nat) (hw:w<2 ^ 64) (ha:a≤63) (hs:s≤64) (hk:K (uv (w / 2 ^ a % 2 ^ s)) h):X Tryz.prog 70 #[uv w,.int .i64 a,.int .i64 s] h K:=by
 rw [← cut_eq hw] at hk
 refine X.forget ?_
 have hf:∀ k,(if k<s∧a+k<64 then bitN w (a+k) else 0)<2:=fun i=>by split <;> first | exact bitN_lt _ _ | decide
 refine fnv (args:=_) mixed [] [] [] Tryz.func70 rfl (by kernel_rfl) ?_;conv=>whnf
 refine loop_at [8,7] [] (fun r vs _ h'=>∃ (k:Nat) (sl:Value),k≤64∧r=64 - k∧vs=[.v (.int .i64 k),.v sl]∧Owns h h' 25 1 sl k (upto (fun k=>if k<s∧a+k<64 then bitN w (a+k) else 0) k)) 64
  ⟨0,.slice none 0 0,by omega,rfl,rfl,Owns.nil (Hp.le_refl _)⟩ ?_
 rintro r vs cs mm bx h1 ⟨k,sl,hi,rfl,rfl,hO⟩
 obtain ⟨sa,sc,rfl⟩:=hO.shape
 conv=>whnf
 refine bsel_intro (fun q1=>?_) (fun q1=>?_) <;> try simp only [bsL] at q1
 ·conv=>whnf
  refine bsel_intro (fun q2=>?_) (fun q2=>?_) <;> try simp only [bsL] at q2
  ·conv=>whnf
   refine loop_at [10,9] [] (fun r vs _ h'=>h1=h'∧∃ i:Nat,i≤64∧r=64 - i∧vs=[.v (.int .i64 i),.v (uv (if a+k<i then bitN w (a+k) else 0))]) 64 ⟨rfl,0,by omega,rfl,by rw [if_neg (by omega)];rfl⟩ ?_
   rintro r vs cs mm2 bx2 _ ⟨rfl,i,hi2,rfl,rfl⟩
   conv=>whnf
   refine bsel_intro (fun q3=>?_) (fun q3=>?_) <;> try simp only [bsL] at q3
   ·conv=>whnf
    refine rin_x a s i (by omega) hs (by omega) ?_
    by_cases hc:a≤i∧i<a+s
    ·rw [if_pos hc,decide_eq_true hc]
     conv=>whnf
     by_cases he:i - a=k
     ·have hik:i=a+k:=by omega
      refine bsel_true (by simp;omega) ?_;conv=>whnf
      refine rbit_x w i hw (by omega) ?_
      rw [if_pos (by omega),Int.toNat_natCast]
      conv=>whnf
      (first | refine ov_c (by simp only [loK,hiK];omega) ?_ | refine ov_c (by decide) ?_);conv=>whnf
      exact ⟨64 - (i+1),by omega,rfl,i+1,by omega,rfl,by rw [show (if a+k<i+1 then bitN w (a+k) else 0)=bitN w i by rw [if_pos (by omega),← hik]];rfl⟩
     ·refine bsel_false (by simp;omega) ?_;conv=>whnf
      (first | refine ov_c (by simp only [loK,hiK];omega) ?_ | refine ov_c (by decide) ?_);conv=>whnf
      refine ⟨64 - (i+1),by omega,rfl,i+1,by omega,rfl,?_⟩
      rw [show (if a+k<i+1 then bitN w (a+k) else 0)=(if a+k<i then bitN w (a+k) else 0) by
       by_cases h9:a+k<i
       ·rw [if_pos h9,if_pos (by omega)]
       ·rw [if_neg h9,if_neg (by omega)]]
      rfl
    ·rw [if_neg hc,decide_eq_false hc]
     conv=>whnf
     (first | refine ov_c (by simp only [loK,hiK];omega) ?_ | refine ov_c (by decide) ?_);conv=>whnf
     refine ⟨64 - (i+1),by omega,rfl,i+1,by omega,rfl,?_⟩
     rw [show (if a+k<i+1 then bitN w (a+k) else 0)=(if a+k<i then bitN w (a+k) else 0) by
      by_cases h9:a+k<i
      ·rw [if_pos h9,if_pos (by omega)]
      ·rw [if_neg h9,if_neg (by omega)]]
     rfl
   ·obtain rfl:i=64:=by omega
    conv=>whnf
    refine new_intro (o:=rowO 25 [uv (if a+k<64 then bitN w (a+k) else 0)]) (fun y h2 n_y le_y at_y ot_y=>?_);conv=>whnf
    refine Owns.app1 (z:=.int .u64 0) (by kernel_rfl) infU64 (by kernel_rfl) (by kernel_rfl) (by kernel_rfl) rfl (bytes:=8) (by decide) rfl rfl rfl (hO.up le_y) at_y rfl rfl (by omega) fun s3 h3 hO3=>?_
    conv=>whnf
    (first | refine ov_c (by simp only [loK,hiK];omega) ?_ | refine ov_c (by decide) ?_);conv=>whnf
    refine ⟨64 - (k+1),by omega,k+1,s3,by omega,rfl,rfl,?_⟩
    rw [upto_succ]
    rw [show (if k<s∧a+k<64 then bitN w (a+k) else 0)=(if a+k<64 then bitN w (a+k) else 0) by
     by_cases h9:a+k<64
     ·rw [if_pos h9,if_pos ⟨by omega,h9⟩]
     ·rw [if_neg h9,if_neg (fun h=>h9 h.2)]]
    exact hO3
  ·conv=>whnf
   refine new_intro (o:=rowO 25 [uv 0]) (fun y h2 n_y le_y at_y ot_y=>?_);conv=>whnf
   refine Owns.app1 (z:=.int .u64 0) (by kernel_rfl) infU64 (by kernel_rfl) (by kernel_rfl) (by kernel_rfl) rfl (bytes:=8) (by decide) rfl rfl rfl (hO.up le_y) at_y rfl rfl (by omega) fun s3 h3 hO3=>?_
   conv=>whnf
   (first | refine ov_c (by simp only [loK,hiK];omega) ?_ | refine ov_c (by decide) ?_);conv=>whnf
   refine ⟨64 - (k+1),by omega,k+1,s3,by omega,rfl,rfl,?_⟩
   rw [upto_succ]
   rw [if_neg (fun h=>by omega)]
   exact hO3
 ·obtain rfl:k=64:=by omega
  conv=>whnf
  refine rofU_x hO hf ?_
  conv=>whnf
  exact ⟨h,hO.le,hk⟩
end
end Go.Proofs.YtdhkjcdneidgaaaGreatDoor

namespace Go.Proofs.YtdhkjcdneidgaaaGreatDoor
set_option linter.unusedSimpArgs false
set_option linter.unusedVariables false
set_option linter.unusedSimpArgs false
set_option linter.unusedVariables false
open Go Go.Mid Go.RowKit Go.Bits
def layM (f:Nat):Nat:=layP f 18446744073709551615
def flds (i:Nat):List Bool:=fieldsL.getD (fmtN ((i+1:Nat):Int)) []
def masks (i:Nat):List Nat:=[maskN i,layM (fmtN ((i+1:Nat):Int)),if (flds i).getD 0 false then 31*2 ^ 7 else 0,if (flds i).getD 1 false then 31*2 ^ 15 else 0,if (flds i).getD 2 false then 31*2 ^ 20 else 0,if (flds i).getD 4 false then 4095*2 ^ 20 else 0,if (flds i).getD 5 false then 2 ^ 26 else 0,if (flds i).getD 5 false then 2 ^ 25 else 0]
def orL:List Nat→Nat
 | []=>0
 | a :: l=>a ||| orL l
def apartL:List Nat→Bool
 | []=>true
 | a :: l=>decide (a &&& orL l=0) && apartL l
theorem masks_ok:∀ i:Nat,i<98→apartL (masks i)=true∧orL (masks i)=4294967295:=by decide +kernel
def within:List Nat→List Nat→Prop
 | [],[]=>True
 | a :: l,m :: ms=>a &&& m=a∧within l ms
 | _,_=>False
theorem within_or:∀ {l ms:List Nat},within l ms→orL l &&& orL ms=orL l
 | [],[],_=>rfl
 | a :: l,m :: ms,h=>by
  obtain ⟨h1,h2⟩:=h
  have ih:=within_or h2
  show (a ||| orL l) &&& (m ||| orL ms)=a ||| orL l
  refine Nat.eq_of_testBit_eq fun q=>?_
  have e1:=congrArg (fun x=>x.testBit q) h1
  have e2:=congrArg (fun x=>x.testBit q) ih
  simp only [Nat.testBit_and,Nat.testBit_or] at e1 e2 ⊢
  revert e1 e2
  cases a.testBit q <;> cases m.testBit q <;> cases (orL l).testBit q <;> cases (orL ms).testBit q <;> simp
 | [],_ :: _,h=>h.elim
 | _ :: _,[],h=>h.elim
theorem mask_part {v s a:Nat} (h:v<2 ^ s):v*2 ^ a &&& (2 ^ s - 1)*2 ^ a=v*2 ^ a:=by
 rw [← Nat.shiftLeft_eq,← Nat.shiftLeft_eq,← Nat.shiftLeft_and_distrib,Nat.and_two_pow_sub_one_eq_mod,Nat.mod_eq_of_lt h]
theorem ones_bit (j:Nat) (h:j<64):bitN 18446744073709551615 j=1:=by
 rw [show (18446744073709551615:Nat)=2 ^ 64 - 1 from rfl,bit_eq,Nat.testBit_two_pow_sub_one,decide_eq_true h];rfl
theorem lay_src:∀ f:Nat,f<15→∀ q:Nat,q<32→∀ j ∈ (layL f).filterMap (covers q),j<64:=by decide
theorem layM_bit (f:Nat) (hf:f<15) (q:Nat) (hq:q<32):bitN (layM f) q=if (layL f).filterMap (covers q)=[] then 0 else 1:=by
 unfold layM layP
 rw [orP_bit]
 have hs:=lay_src f hf q hq
 cases hl:(layL f).filterMap (covers q) with
 | nil=>rfl
 | cons j l =>
  rw [if_neg (by simp)]
  show max (bitN _ j) _=1
  rw [ones_bit j (hs j (by rw [hl];simp))]
  have:∀ l:List Nat,mx 18446744073709551615 l<2:=fun l=>by
   induction l with
   | nil=>decide
   | cons a l ih =>
    show max (bitN _ a) _<2
    have:=bitN_lt 18446744073709551615 a
    omega
  have:=this l
  omega
theorem lay_within (f:Nat) (hf:f<15) (u:Nat):layN f u &&& layM f=layN f u:=by
 have hlt:=layN_lt32 f hf u
 refine eq_bits (n:=32) (Nat.lt_of_le_of_lt Nat.and_le_left hlt) hlt fun q hq=>?_
 rw [and_bit,layM_bit f hf q hq]
 split
 ·rename_i h
  rw [← lay_eq f hf,layP,orP_bit,h];rfl
 ·have:=bitN_lt (layN f u) q
  omega
def partsX (x:Ins):List Nat:=[isN (x.op.toNat - 1),layN (fmtN x.op) (u64N x.m),x.a.toNat*2 ^ 7,x.b.toNat*2 ^ 15,x.c.toNat*2 ^ 20,x.s.toNat*2 ^ 20,if x.aq then 2 ^ 26 else 0,if x.rl then 2 ^ 25 else 0]
theorem encW_or (x:Ins):encW x=orL (partsX x):=by
 unfold encW partsX orL orL orL orL orL orL orL orL orL
 simp only [Nat.or_zero,Nat.or_assoc]
 cases x.aq <;> cases x.rl <;> simp [Nat.or_assoc]
theorem bad_fld {fl:List Bool} {a b c m s:Int} {aq rl:Bool} (h:¬ badF fl a b c m s aq rl) (h6:fl.length=6):(fl.getD 0 false=false→a=0)∧(fl.getD 1 false=false→b=0)∧(fl.getD 2 false=false→c=0)∧(fl.getD 3 false=false→m=0)∧(fl.getD 4 false=false→s=0)∧(fl.getD 5 false=false→aq=false∧rl=false):=by
 match fl,h6 with
 | [x0,x1,x2,x3,x4,x5],_ =>
  unfold badF at h
  simp only [List.getD_cons_zero,List.getD_cons_succ] at h ⊢
  refine ⟨fun e=>?_,fun e=>?_,fun e=>?_,fun e=>?_,fun e=>?_,fun e=>?_⟩
  ·by_cases hz:a=0
   ·exact hz
   ·exact absurd (.inl ⟨e,hz⟩) h
  ·by_cases hz:b=0
   ·exact hz
   ·exact absurd (.inr (.inl ⟨e,hz⟩)) h
  ·by_cases hz:c=0
   ·exact hz
   ·exact absurd (.inr (.inr (.inl ⟨e,hz⟩))) h
  ·by_cases hz:m=0
   ·exact hz
   ·exact absurd (.inr (.inr (.inr (.inl ⟨e,hz⟩)))) h
  ·by_cases hz:s=0
   ·exact hz
   ·exact absurd (.inr (.inr (.inr (.inr (.inl ⟨e,hz⟩))))) h
  ·cases haq:aq with
   | true=>exact absurd (.inr (.inr (.inr (.inr (.inr ⟨e,.inl haq⟩))))) h
   | false =>
    cases hrl:rl with
    | true=>exact absurd (.inr (.inr (.inr (.inr (.inr ⟨e,.inr hrl⟩))))) h
    | false=>exact ⟨rfl,rfl⟩
theorem flds_len:∀ f:Nat,f<15→(fieldsL.getD f []).length=6:=by decide
theorem is_within:∀ i:Nat,i<98→isN i &&& maskN i=isN i:=by decide +kernel
theorem if_mask {b:Bool} {v m:Nat} (h:b=false→v=0) (h2:v &&& m=v):v &&& (if b then m else 0)=v:=by
 cases b with
 | true=>exact h2
 | false=>rw [h rfl];simp
theorem parts_within {x:Ins} (h:x.chk=0) {i:Nat} (hi:x.op=((i+1:Nat):Int)) (hil:i<98):within (partsX x) (masks i):=by
 obtain ⟨_,_,_,ha,hb,hc,hs,_,hbad⟩:=chk_ok h
 have hf15:=fmtN_lt x.op
 obtain ⟨z0,z1,z2,_,z4,z5⟩:=bad_fld hbad (flds_len _ hf15)
 have hfl:flds i=fieldsL.getD (fmtN x.op) []:=by unfold flds;rw [hi]
 rw [← hfl] at z0 z1 z2 z4 z5
 unfold partsX masks
 rw [← hi,show x.op.toNat - 1=i by omega]
 refine ⟨is_within i hil,lay_within _ hf15 _,if_mask (fun e=>by rw [z0 e];rfl) (mask_part (s:=5) (by omega)),if_mask (fun e=>by rw [z1 e];rfl) (mask_part (s:=5) (by omega)),if_mask (fun e=>by rw [z2 e];rfl) (mask_part (s:=5) (by omega)),if_mask (fun e=>by rw [z4 e];rfl) (mask_part (s:=12) (by omega)),if_mask (fun e=>by rw [(z5 e).1];rfl) ?_,if_mask (fun e=>by rw [(z5 e).2];rfl) ?_,trivial⟩
 ·cases x.aq <;> decide
 ·cases x.rl <;> decide
theorem orL_lt:∀ {l ms:List Nat},within l ms→orL ms=4294967295→orL l<2 ^ 32:=fun {l ms} h e=>by
 have:=within_or h
 rw [e] at this
 have h2:orL l &&& 4294967295≤4294967295:=Nat.and_le_right
 omega
theorem enc_lt {x:Ins} (h:x.chk=0):encW x<2 ^ 32:=by
 obtain ⟨o1,o2,_⟩:=chk_ok h
 obtain ⟨i,hi⟩:∃ i:Nat,x.op=((i+1:Nat):Int):=⟨x.op.toNat - 1,by omega⟩
 have hil:i<98:=by omega
 rw [encW_or]
 exact orL_lt (parts_within h hi hil) (masks_ok i hil).2
end Go.Proofs.YtdhkjcdneidgaaaGreatDoor
