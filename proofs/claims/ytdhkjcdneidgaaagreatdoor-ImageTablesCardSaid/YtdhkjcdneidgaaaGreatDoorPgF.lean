/-
  Pages: entries and addresses, the document's.
-/
import Derived.Test.YtdhkjcdneidgaaaGreatDoorPgE
import Derived.Test.YtdhkjcdneidgaaaGreatDoorInsF
namespace Go.Proofs.YtdhkjcdneidgaaaGreatDoor
set_option linter.unusedSimpArgs false
set_option linter.unusedVariables false
set_option linter.unusedSimpArgs false
set_option linter.unusedVariables false
open Go Go.Mid Go.RowKit Go.Bits
attribute [local irreducible] mid
theorem put_make (n fl:Nat):putN (fl % 2 ^ 10) 10 44 n=makeN n fl:=by
 refine eq_bits (n:=64) (put_lt _ _ _ _) (Nat.lt_of_lt_of_le (make_lt _ _) (by decide)) fun i hi=>?_
 rw [put_bit,if_pos hi]
 have e:makeN n fl=n % 2 ^ 44*2 ^ 10 ||| fl % 2 ^ 10:=(or_low (Nat.mod_lt _ (by decide))).symm
 rw [e,bit_or,bit_mul,bit_mod,bit_mod]
 by_cases h1:10≤i
 ·rw [if_pos h1,if_neg (show ¬ i<10 by omega),Nat.max_eq_left (Nat.zero_le _)]
  by_cases h2:i<54
  ·rw [if_pos ⟨h1,by omega⟩,if_pos (by omega)]
  ·rw [if_neg (by omega),if_neg (by omega)]
 ·rw [if_neg h1,if_neg (by omega),if_pos (by omega),Nat.max_eq_right (Nat.zero_le _)]
theorem may_bits {va:Nat} (hv:va<2 ^ 64):mayN va↔∀ i,39≤i→i<64→bitN va i=bitN va 38:=by
 unfold mayN
 constructor
 ·intro h i h1 h2
  conv=>lhs;rw [← h]
  rw [sign_bit,if_pos h2,if_neg (by omega),bit_mod,if_pos (by decide)]
 ·intro h
  refine eq_bits (n:=64) (sign_lt _ _) hv fun i hi=>?_
  rw [sign_bit,if_pos hi]
  by_cases h1:i<39
  ·rw [if_pos h1,bit_mod,if_pos h1]
  ·rw [if_neg h1,bit_mod,if_pos (by decide),h i (by omega) hi]
def bitW:Str:=[86,82,87,88,85,71,65,68]
section
set_option maxHeartbeats 8000000
set_option maxRecDepth 10000
variable {h:Hp} {K:Value→Hp→Prop}
theorem rlev_x (l:Int) (hk:K (.bool (decide (0≤l∧l≤2))) h):X Tryz.prog 67 #[.int .i64 l] h K:=by
 refine fnv (args:=_) mixed [] [] [] Tryz.func67 rfl (by kernel_rfl) ?_;conv=>whnf
 refine bsel_intro (fun q1=>?_) (fun q1=>?_) <;> try simp only [bsL] at q1
 ·conv=>whnf
  exact kq hk (bI (by rw [Bool.eq_iff_iff];simp;omega))
 conv=>whnf
 refine bsel_intro (fun q2=>?_) (fun q2=>?_) <;> try simp only [bsL] at q2
 ·conv=>whnf
  exact kq hk (bI (by rw [Bool.eq_iff_iff];simp;omega))
 conv=>whnf
 exact kq hk (bI (by rw [Bool.eq_iff_iff];simp;omega))
theorem rplace_x (va l:Nat) (hv:va<2 ^ 64) (hl:l≤2) (hk:K (.int .i64 (placeN va l)) h):X Tryz.prog 43 #[ux va,.int .i64 l] h K:=by
 have hp:=place_lt va l
 refine fnv (args:=_) mixed [] [] [] Tryz.func43 rfl (by kernel_rfl) ?_;conv=>whnf
 refine rlev_x l ?_
 rw [decide_eq_true (show 0≤(l:Int)∧(l:Int)≤2 by omega)]
 conv=>whnf
 (first | refine ov_c (by simp only [loK,hiK];omega) ?_ | refine ov_c (by decide) ?_);conv=>whnf
 (first | refine ov_c (by simp only [loK,hiK];omega) ?_ | refine ov_c (by decide) ?_);conv=>whnf
 rw [show (12:Int)+9*(l:Int)=((12+9*l:Nat):Int) by omega]
 refine rcut_x va (12+9*l) 9 hv (by omega) (by decide) ?_
 have e:va / 2 ^ (12+9*l) % 2 ^ 9=placeN va l:=rfl
 rw [e]
 conv=>whnf
 (first | refine ov_c (by simp only [loK,hiK];omega) ?_ | refine ov_c (by decide) ?_);conv=>whnf
 exact hk
theorem rsize_x (l:Int) (hk:K (ux (if 0≤l∧l≤2 then sizeN l.toNat else 0)) h):X Tryz.prog 38 #[.int .i64 l] h K:=by
 refine fnv (args:=_) mixed [] [] [] Tryz.func38 rfl (by kernel_rfl) ?_;conv=>whnf
 refine rlev_x l ?_
 by_cases hl:0≤l∧l≤2
 rotate_left
 ·rw [decide_eq_false hl]
  rw [if_neg hl] at hk
  conv=>whnf
  exact hk
 rw [decide_eq_true hl]
 rw [if_pos hl] at hk
 obtain ⟨k,rfl⟩:∃ k:Nat,l=k:=⟨l.toNat,by omega⟩
 rw [Int.toNat_natCast] at hk
 conv=>whnf
 refine loop_at [4,3] [] (fun q vs _ h'=>h=h'∧∃ i:Nat,i≤k∧q=k - i∧vs=[.v (.int .i64 i),.v (ux (sizeN i))]) k ⟨rfl,0,by omega,by omega,rfl⟩ ?_
 rintro q vs cs mm bx _ ⟨rfl,i,hi,rfl,rfl⟩
 conv=>whnf
 refine bsel_intro (fun q1=>?_) (fun q1=>?_) <;> try simp only [bsL] at q1
 ·have hlt:sizeN i*512<2 ^ 64:=by
   unfold sizeN
   have:2 ^ (12+9*i)≤2 ^ 30:=Nat.pow_le_pow_right (by decide) (by omega)
   omega
  have e:sizeN (i+1)=sizeN i*512:=by
   unfold sizeN
   rw [show 12+9*(i+1)=(12+9*i)+9 by omega,Nat.pow_add]
  conv=>whnf
  refine ov_u64 (by omega) ?_;conv=>whnf
  (first | refine ov_c (by simp only [loK,hiK];omega) ?_ | refine ov_c (by decide) ?_);conv=>whnf
  refine ⟨k - (i+1),by omega,rfl,i+1,by omega,rfl,?_⟩
  rw [e]
  rfl
 ·obtain rfl:i=k:=by omega
  exact hk
theorem rmay_x (va:Nat) (hv:va<2 ^ 64) (hk:K (.bool (decide (mayN va))) h):X Tryz.prog 39 #[ux va] h K:=by
 have hb:=may_bits hv
 refine fnv (args:=_) mixed [] [] [] Tryz.func39 rfl (by kernel_rfl) ?_;conv=>whnf
 refine loop_at [3] [] (fun q vs _ h'=>h=h'∧∃ i:Nat,39≤i∧i≤64∧q=64 - i∧vs=[.v (.int .i64 i)]∧∀ j,39≤j→j<i→bitN va j=bitN va 38) 25 ⟨rfl,39,by omega,by omega,rfl,rfl,fun j h1 h2=>by omega⟩ ?_
 rintro q vs cs mm bx _ ⟨rfl,i,hi,hi2,rfl,rfl,hno⟩
 conv=>whnf
 refine bsel_intro (fun q1=>?_) (fun q1=>?_) <;> try simp only [bsL] at q1
 ·conv=>whnf
  refine rbit_x va i hv (by omega) ?_
  rw [if_pos (by omega),Int.toNat_natCast]
  conv=>whnf
  refine rbit_x va 38 hv (by decide) ?_
  rw [if_pos (by decide),show (38:Int).toNat=38 from rfl]
  generalize hx:bitN va i=x
  generalize hy:bitN va 38=y
  conv=>whnf
  refine bsel_intro (fun q2=>?_) (fun q2=>?_) <;> try simp only [bsL] at q2
  ·have:¬ mayN va:=fun hm=>by have:=hb.1 hm i hi (by omega);omega
   rw [decide_eq_false this] at hk
   exact hk
  ·conv=>whnf
   (first | refine ov_c (by simp only [loK,hiK];omega) ?_ | refine ov_c (by decide) ?_);conv=>whnf
   refine ⟨64 - (i+1),by omega,rfl,i+1,by omega,by omega,rfl,rfl,fun j h1 h2=>?_⟩
   by_cases e:j=i
   ·subst e;omega
   ·rw [← hy];exact hno j h1 (by omega)
 ·rw [decide_eq_true (hb.2 fun j h1 h2=>hno j h1 (by omega))] at hk
  exact hk
theorem rppn_x (p:Nat) (hp:p<2 ^ 64) (hk:K (ux (ppnN p)) h):X Tryz.prog 71 #[ux p] h K:=by
 refine fnv (args:=_) mixed [] [] [] Tryz.func71 rfl (by kernel_rfl) ?_;conv=>whnf
 exact rcut_x p 10 44 hp (by decide) (by decide) hk
theorem rpte_x (n fl:Nat) (hn:n<2 ^ 64) (hf:fl<2 ^ 64) (hk:K (ux (makeN n fl)) h):X Tryz.prog 41 #[ux n,ux fl] h K:=by
 refine fnv (args:=_) mixed [] [] [] Tryz.func41 rfl (by kernel_rfl) ?_;conv=>whnf
 refine rcut_x fl 0 10 hf (by decide) (by decide) ?_
 rw [Nat.pow_zero,Nat.div_one]
 conv=>whnf
 refine rput_x (fl % 2 ^ 10) 10 44 n (Nat.lt_of_lt_of_le (Nat.mod_lt _ (by decide)) (by decide)) hn (by decide) (by decide) ?_
 rw [put_make]
 exact hk
theorem rbitc_x (p:Nat) (hp:p<2 ^ 64) (i:Nat) (c:UInt8) (hc:bitW[i]? = some c) (hf:∀ j,j<i→bitW[j]? ≠ some c) (hk:K (.bool (decide (bitN p i=1))) h):X Tryz.prog 69 #[ux p,byV c] h K:=by
 have hi8:i<8:=(List.getElem?_eq_some_iff.1 hc).1
 refine fnv (args:=_) mixed [] [] [] Tryz.func69 rfl (by kernel_rfl) ?_;conv=>whnf
 refine loop_at [6] [] (fun q vs _ h'=>h=h'∧∃ j:Nat,j≤i∧q=8 - j∧vs=[.v (.int .i64 j)]) 8 ⟨rfl,0,by omega,rfl,rfl⟩ ?_
 rintro q vs cs mm bx _ ⟨rfl,j,hj,rfl,rfl⟩
 conv=>whnf
 refine bsel_true (by simp;omega) ?_;conv=>whnf
 obtain ⟨d,hd⟩:∃ d,bitW[j]? = some d:=⟨_,List.getElem?_eq_getElem (show j<8 by omega)⟩
 refine ch_intro (l:=bitW) d (by omega) (by rw [Int.toNat_natCast];exact hd) ?_
 conv=>whnf
 refine bsel_intro (fun q1=>?_) (fun q1=>?_) <;> try simp only [bsL] at q1
 ·have e:d=c:=UInt8.toNat_inj.1 (by omega)
  have hji:j=i:=by
   rcases Nat.lt_or_ge j i with h1 | h1
   ·exact absurd (e ▸ hd) (hf j h1)
   ·omega
  subst hji
  conv=>whnf
  refine rbit_x p j hp (by omega) ?_
  rw [if_pos (by omega),Int.toNat_natCast]
  conv=>whnf
  exact kq hk (bI (by rw [Bool.eq_iff_iff];simp;omega))
 ·have hji:j≠i:=fun e=>by subst e;rw [hc] at hd;cases hd;exact q1 rfl
  conv=>whnf
  (first | refine ov_c (by simp only [loK,hiK];omega) ?_ | refine ov_c (by decide) ?_);conv=>whnf
  exact ⟨8 - (j+1),by omega,rfl,j+1,by omega,rfl,rfl⟩
end
end Go.Proofs.YtdhkjcdneidgaaaGreatDoor
