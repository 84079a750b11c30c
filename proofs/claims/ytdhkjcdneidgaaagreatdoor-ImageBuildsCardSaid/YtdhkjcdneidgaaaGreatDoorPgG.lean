/-
  Pages: tables, the document's.
-/
import Derived.Test.YtdhkjcdneidgaaaGreatDoorPgE
import Derived.Test.YtdhkjcdneidgaaaGreatDoorImA
set_option linter.unusedSimpArgs false
set_option linter.unusedVariables false
set_option maxHeartbeats 8000000
set_option maxRecDepth 10000
set_option linter.unusedSimpArgs false
set_option linter.unusedVariables false
namespace Go.Proofs.YtdhkjcdneidgaaaGreatDoor
open Go Go.Mid Go.RowKit Go.Bits
attribute [local irreducible] mid
theorem put_make (n fl:Nat):putN (fl % 2 ^ 10) 10 44 n=makeN n fl:=by
 refine eq_bits (n:=64) (put_lt _ _ _ _) (Nat.lt_of_lt_of_le (make_lt _ _) (by decide)) fun i hi=>?_
 rw [put_bit,if_pos hi]
 have e:makeN n fl=n % 2 ^ 44*2 ^ 10 ||| fl % 2 ^ 10:=(or_low (Nat.mod_lt _ (by decide))).symm
 rw [e,bit_or,bit_mul,bit_mod,bit_mod]
 by_cases h1:10≤i
 ·rw [if_pos h1,if_neg (show ¬ i<10 by omega),Nat.max_eq_left (Nat.zero_le _)]
  by_cases h2:i<54
  ·rw [if_pos ⟨h1,by omega⟩,if_pos (by omega)]
  ·rw [if_neg (by omega),if_neg (by omega)]
 ·rw [if_neg h1,if_neg (by omega),if_pos (by omega),Nat.max_eq_right (Nat.zero_le _)]
theorem may_bits {va:Nat} (hv:va<2 ^ 64):mayN va↔∀ i,39≤i→i<64→bitN va i=bitN va 38:=by
 unfold mayN
 constructor
 ·intro h i h1 h2
  conv=>lhs;rw [← h]
  rw [sign_bit,if_pos h2,if_neg (by omega),bit_mod,if_pos (by decide)]
 ·intro h
  refine eq_bits (n:=64) (sign_lt _ _) hv fun i hi=>?_
  rw [sign_bit,if_pos hi]
  by_cases h1:i<39
  ·rw [if_pos h1,bit_mod,if_pos h1]
  ·rw [if_neg h1,bit_mod,if_pos (by decide),h i (by omega) hi]
def bitW:Str:=[86,82,87,88,85,71,65,68]
section
variable {h:Hp} {K:Value→Hp→Prop}
theorem rlev_x (l:Int) (hk:K (.bool (decide (0≤l∧l≤2))) h):X Tryz.prog 67 #[.int .i64 l] h K:=by
 refine fnv (args:=_) mixed [] [] [] Tryz.func67 rfl (by kernel_rfl) (cw_ ?_)
 refine br_ (fun q1=>?_) fun q1=>?_
 ·conv=>whnf
  exact kq hk (bI (by rw [Bool.eq_iff_iff];simp;omega))
 conv=>whnf
 refine br_ (fun q2=>?_) fun q2=>?_
 ·conv=>whnf
  exact kq hk (bI (by rw [Bool.eq_iff_iff];simp;omega))
 conv=>whnf
 exact kq hk (bI (by rw [Bool.eq_iff_iff];simp;omega))
theorem rplace_x (va l:Nat) (hv:va<2 ^ 64) (hl:l≤2) (hk:K (.int .i64 (placeN va l)) h):X Tryz.prog 43 #[ux va,.int .i64 l] h K:=by
 have hp:=place_lt va l
 refine fnv (args:=_) mixed [] [] [] Tryz.func43 rfl (by kernel_rfl) (cw_ ?_)
 refine rlev_x l ?_
 rw [decide_eq_true (show 0≤(l:Int)∧(l:Int)≤2 by omega)]
 conv=>whnf
 refine n_ ?_
 refine n_ ?_
 rw [show (12:Int)+9*(l:Int)=((12+9*l:Nat):Int) by omega]
 refine rcut_x va (12+9*l) 9 hv (by omega) (by decide) ?_
 have e:va / 2 ^ (12+9*l) % 2 ^ 9=placeN va l:=rfl
 rw [e]
 conv=>whnf
 refine n_ ?_
 exact hk
theorem rsize_x (l:Int) (hk:K (ux (if 0≤l∧l≤2 then sizeN l.toNat else 0)) h):X Tryz.prog 38 #[.int .i64 l] h K:=by
 refine fnv (args:=_) mixed [] [] [] Tryz.func38 rfl (by kernel_rfl) (cw_ ?_)
 refine rlev_x l ?_
 by_cases hl:0≤l∧l≤2
 rotate_left
 ·rw [decide_eq_false hl]
  rw [if_neg hl] at hk
  conv=>whnf
  exact hk
 rw [decide_eq_true hl]
 rw [if_pos hl] at hk
 obtain ⟨k,rfl⟩:∃ k:Nat,l=k:=⟨l.toNat,by omega⟩
 rw [Int.toNat_natCast] at hk
 conv=>whnf
 refine loop_at [4,3] [] (fun q vs _ h'=>h=h'∧∃ i:Nat,i≤k∧q=k - i∧vs=[.v (.int .i64 i),.v (ux (sizeN i))]) k ⟨rfl,0,by omega,by omega,rfl⟩ ?_
 rintro q vs cs mm bx _ ⟨rfl,i,hi,rfl,rfl⟩
 conv=>whnf
 refine br_ (fun q1=>?_) fun q1=>?_
 ·have hlt:sizeN i*512<2 ^ 64:=by
   unfold sizeN
   have:2 ^ (12+9*i)≤2 ^ 30:=Nat.pow_le_pow_right (by decide) (by omega)
   omega
  have e:sizeN (i+1)=sizeN i*512:=by
   unfold sizeN
   rw [show 12+9*(i+1)=(12+9*i)+9 by omega,Nat.pow_add]
  conv=>whnf
  refine ov_u64 (by omega) (cw_ ?_)
  refine n_ ?_
  refine ⟨k - (i+1),by omega,rfl,i+1,by omega,rfl,?_⟩
  rw [e]
  rfl
 ·obtain rfl:i=k:=by omega
  exact hk
theorem rmay_x (va:Nat) (hv:va<2 ^ 64) (hk:K (.bool (decide (mayN va))) h):X Tryz.prog 39 #[ux va] h K:=by
 have hb:=may_bits hv
 refine fnv (args:=_) mixed [] [] [] Tryz.func39 rfl (by kernel_rfl) (cw_ ?_)
 refine loop_at [3] [] (fun q vs _ h'=>h=h'∧∃ i:Nat,39≤i∧i≤64∧q=64 - i∧vs=[.v (.int .i64 i)]∧∀ j,39≤j→j<i→bitN va j=bitN va 38) 25 ⟨rfl,39,by omega,by omega,rfl,rfl,fun j h1 h2=>by omega⟩ ?_
 rintro q vs cs mm bx _ ⟨rfl,i,hi,hi2,rfl,rfl,hno⟩
 conv=>whnf
 refine br_ (fun q1=>?_) fun q1=>?_
 ·conv=>whnf
  refine rbit_x va i hv (by omega) ?_
  rw [if_pos (by omega),Int.toNat_natCast]
  conv=>whnf
  refine rbit_x va 38 hv (by decide) ?_
  rw [if_pos (by decide),show (38:Int).toNat=38 from rfl]
  generalize hx:bitN va i=x
  generalize hy:bitN va 38=y
  conv=>whnf
  refine br_ (fun q2=>?_) fun q2=>?_
  ·have:¬ mayN va:=fun hm=>by have:=hb.1 hm i hi (by omega);omega
   rw [decide_eq_false this] at hk
   exact hk
  ·conv=>whnf
   refine n_ ?_
   refine ⟨64 - (i+1),by omega,rfl,i+1,by omega,by omega,rfl,rfl,fun j h1 h2=>?_⟩
   by_cases e:j=i
   ·subst e;omega
   ·rw [← hy];exact hno j h1 (by omega)
 ·rw [decide_eq_true (hb.2 fun j h1 h2=>hno j h1 (by omega))] at hk
  exact hk
theorem rppn_x (p:Nat) (hp:p<2 ^ 64) (hk:K (ux (ppnN p)) h):X Tryz.prog 71 #[ux p] h K:=by
 refine fnv (args:=_) mixed [] [] [] Tryz.func71 rfl (by kernel_rfl) (cw_ ?_)
 exact rcut_x p 10 44 hp (by decide) (by decide) hk
theorem rpte_x (n fl:Nat) (hn:n<2 ^ 64) (hf:fl<2 ^ 64) (hk:K (ux (makeN n fl)) h):X Tryz.prog 41 #[ux n,ux fl] h K:=by
 refine fnv (args:=_) mixed [] [] [] Tryz.func41 rfl (by kernel_rfl) (cw_ ?_)
 refine rcut_x fl 0 10 hf (by decide) (by decide) ?_
 rw [Nat.pow_zero,Nat.div_one]
 conv=>whnf
 refine rput_x (fl % 2 ^ 10) 10 44 n (Nat.lt_of_lt_of_le (Nat.mod_lt _ (by decide)) (by decide)) hn (by decide) (by decide) ?_
 rw [put_make]
 exact hk
theorem rbitc_x (p:Nat) (hp:p<2 ^ 64) (i:Nat) (c:UInt8) (hc:bitW[i]? = some c) (hf:∀ j,j<i→bitW[j]? ≠ some c) (hk:K (.bool (decide (bitN p i=1))) h):X Tryz.prog 69 #[ux p,byV c] h K:=by
 have hi8:i<8:=(List.getElem?_eq_some_iff.1 hc).1
 refine fnv (args:=_) mixed [] [] [] Tryz.func69 rfl (by kernel_rfl) (cw_ ?_)
 refine loop_at [6] [] (fun q vs _ h'=>h=h'∧∃ j:Nat,j≤i∧q=8 - j∧vs=[.v (.int .i64 j)]) 8 ⟨rfl,0,by omega,rfl,rfl⟩ ?_
 rintro q vs cs mm bx _ ⟨rfl,j,hj,rfl,rfl⟩
 conv=>whnf
 refine bt_ ?_
 obtain ⟨d,hd⟩:∃ d,bitW[j]? = some d:=⟨_,List.getElem?_eq_getElem (show j<8 by omega)⟩
 refine ch_intro (l:=bitW) d (by omega) (by rw [Int.toNat_natCast];exact hd) (cw_ ?_)
 refine br_ (fun q1=>?_) fun q1=>?_
 ·have e:d=c:=UInt8.toNat_inj.1 (by omega)
  have hji:j=i:=by
   rcases Nat.lt_or_ge j i with h1 | h1
   ·exact absurd (e ▸ hd) (hf j h1)
   ·omega
  subst hji
  conv=>whnf
  refine rbit_x p j hp (by omega) ?_
  rw [if_pos (by omega),Int.toNat_natCast]
  conv=>whnf
  exact kq hk (bI (by rw [Bool.eq_iff_iff];simp;omega))
 ·have hji:j≠i:=fun e=>by subst e;rw [hc] at hd;cases hd;exact q1 rfl
  conv=>whnf
  refine n_ ?_
  exact ⟨8 - (j+1),by omega,rfl,j+1,by omega,rfl,rfl⟩
end
end Go.Proofs.YtdhkjcdneidgaaaGreatDoor
namespace Go.Proofs.YtdhkjcdneidgaaaGreatDoor
open Go Go.Mid Go.RowKit Go.Bits
attribute [local irreducible] mid
def toI (k:Option Nat):Int:=match k with
 | none => -1
 | some k=>k
def TE.cs (e:TE):List Value:=[.int .i64 e.frame,.int .i64 e.place,ux e.p,.int .i64 (toI e.to)]
abbrev TE.v (e:TE):Value:=.agg #[.int .i64 e.frame,.int .i64 e.place,ux e.p,.int .i64 (toI e.to)]
abbrev rtV (is:Bool) (t:Tb) (s:Value):Value:=.agg #[.bool is,ux t.root,.int .i64 t.frames,s]
abbrev enT:TypeId:=108
def idxE:List TE→Nat→Nat→Option Nat
 | [],_,_=>none
 | e :: L,f,q=>if e.frame=f∧e.place=q then some 0 else (idxE L f q).map (·+1)
theorem idxE_find:∀ (L:List TE) (f q:Nat),findE L f q=(idxE L f q).bind fun i=>L[i]?
 | [],_,_=>rfl
 | e :: L,f,q=>by
  unfold findE idxE
  split
  ·rfl
  ·rw [idxE_find L f q]
   cases idxE L f q <;> rfl
theorem idxE_at:∀ (L:List TE) (f q i:Nat) (e:TE),L[i]? = some e→(e.frame=f∧e.place=q)→(∀ (j:Nat) (x:TE),j<i→L[j]? = some x→¬ (x.frame=f∧x.place=q))→idxE L f q=some i
 | [],_,_,_,_,h,_,_=>by simp at h
 | x :: L,f,q,0,e,h,he,_=>by
  simp at h;subst h
  unfold idxE;rw [if_pos he]
 | x :: L,f,q,i+1,e,h,he,hno=>by
  unfold idxE
  rw [if_neg (hno 0 x (by omega) rfl),idxE_at L f q i e (by simpa using h) he fun j y hj hy=>hno (j+1) y (by omega) (by simpa using hy)]
  rfl
theorem idxE_none:∀ (L:List TE) (f q:Nat),(∀ (j:Nat) (x:TE),L[j]? = some x→¬ (x.frame=f∧x.place=q))→idxE L f q=none
 | [],_,_,_=>rfl
 | x :: L,f,q,hno=>by
  unfold idxE
  rw [if_neg (hno 0 x rfl),idxE_none L f q fun j y hy=>hno (j+1) y (by simpa using hy)]
  rfl
section
variable {h:Hp} {K:Value→Hp→Prop}
theorem aggEn:isAggT Tryz.prog 108=some true:=by kernel_rfl
theorem sizEn:sizeT Tryz.prog 108=some 4:=by kernel_rfl
theorem rpgkind_x (p l:Nat) (hp:p<2 ^ 64) (hl:l≤2) (hk:K (.int .i64 (kindN p l)) h):X Tryz.prog 40 #[ux p,.int .i64 l] h K:=by
 have hpp:ppnN p<2 ^ 64:=Nat.lt_of_lt_of_le (Nat.mod_lt _ (by decide)) (by decide)
 have b2:∀ i,¬ bitN p i=1→bitN p i=0:=fun i hn=>by have:=bitN_lt p i;omega
 have B0:∀ {K:Value→Hp→Prop},K (.bool (decide (bitN p 0=1))) h→X Tryz.prog 69 #[ux p,.int .u8 86] h K:=fun hk=>rbitc_x p hp 0 86 rfl (fun j hj=>by omega) hk
 have B1:∀ {K:Value→Hp→Prop},K (.bool (decide (bitN p 1=1))) h→X Tryz.prog 69 #[ux p,.int .u8 82] h K:=fun hk=>rbitc_x p hp 1 82 rfl (fun j hj=>by match j,hj with | 0,_=>decide) hk
 have B2:∀ {K:Value→Hp→Prop},K (.bool (decide (bitN p 2=1))) h→X Tryz.prog 69 #[ux p,.int .u8 87] h K:=fun hk=>rbitc_x p hp 2 87 rfl (fun j hj=>by match j,hj with | 0,_=>decide | 1,_=>decide) hk
 have B3:∀ {K:Value→Hp→Prop},K (.bool (decide (bitN p 3=1))) h→X Tryz.prog 69 #[ux p,.int .u8 88] h K:=fun hk=>rbitc_x p hp 3 88 rfl (fun j hj=>by match j,hj with | 0,_=>decide | 1,_=>decide | 2,_=>decide) hk
 have B4:∀ {K:Value→Hp→Prop},K (.bool (decide (bitN p 4=1))) h→X Tryz.prog 69 #[ux p,.int .u8 85] h K:=fun hk=>rbitc_x p hp 4 85 rfl (fun j hj=>by match j,hj with | 0,_=>decide | 1,_=>decide | 2,_=>decide | 3,_=>decide) hk
 have B6:∀ {K:Value→Hp→Prop},K (.bool (decide (bitN p 6=1))) h→X Tryz.prog 69 #[ux p,.int .u8 65] h K:=fun hk=>rbitc_x p hp 6 65 rfl (fun j hj=>by match j,hj with | 0,_=>decide | 1,_=>decide | 2,_=>decide | 3,_=>decide | 4,_=>decide | 5,_=>decide) hk
 have B7:∀ {K:Value→Hp→Prop},K (.bool (decide (bitN p 7=1))) h→X Tryz.prog 69 #[ux p,.int .u8 68] h K:=fun hk=>rbitc_x p hp 7 68 rfl (fun j hj=>by match j,hj with | 0,_=>decide | 1,_=>decide | 2,_=>decide | 3,_=>decide | 4,_=>decide | 5,_=>decide | 6,_=>decide) hk
 refine fnv (args:=_) mixed [] [] [] Tryz.func40 rfl (by kernel_rfl) (cw_ ?_)
 refine bf_ ?_
 refine B0 ?_
 by_cases c0:bitN p 0=1
 rotate_left
 ·rw [decide_eq_false c0]
  conv=>whnf
  have Z:bitN p 0=0∨(bitN p 2=1∧bitN p 1=0)∨p / 2 ^ 54≠0:=.inl (b2 _ c0)
  rw [show kindN p l=0 by unfold kindN;rw [if_pos Z]] at hk
  exact hk
 rw [decide_eq_true c0]
 conv=>whnf
 refine B2 ?_
 by_cases c2:bitN p 2=1
 ·rw [decide_eq_true c2]
  conv=>whnf
  refine B1 ?_
  by_cases c1:bitN p 1=1
  ·rw [decide_eq_true c1]
   have NW:¬ (bitN p 2=1∧bitN p 1=0):=fun hh=>by omega
   conv=>whnf
   refine rcut_x p 54 10 hp (by decide) (by decide) ?_
   rw [Nat.mod_eq_of_lt (show p / 2 ^ 54<2 ^ 10 by omega)]
   conv=>whnf
   refine br_ (fun q1=>?_) fun q1=>?_
   ·have Z:bitN p 0=0∨(bitN p 2=1∧bitN p 1=0)∨p / 2 ^ 54≠0:=.inr (.inr (by omega))
    conv=>whnf
    rw [show kindN p l=0 by unfold kindN;rw [if_pos Z]] at hk
    exact hk
   have NZ:¬ (bitN p 0=0∨(bitN p 2=1∧bitN p 1=0)∨p / 2 ^ 54≠0):=by
    rintro (e | e | e)
    ·omega
    ·exact NW e
    ·omega
   conv=>whnf
   refine B1 ?_
   by_cases c1:bitN p 1=1
   ·rw [decide_eq_true c1]
    have C13:bitN p 1=1∨bitN p 3=1:=.inl c1
    rw [show kindN p l=(if ppnN p % 2 ^ (9*l)≠0 then 0 else 2) by unfold kindN;rw [if_neg NZ,if_pos C13]] at hk
    conv=>whnf
    refine rppn_x p hp (cw_ ?_)
    refine n_ ?_
    rw [show (9:Int)*(l:Int)=((9*l:Nat):Int) by omega]
    refine rcut_x (ppnN p) 0 (9*l) hpp (by decide) (by omega) ?_
    rw [Nat.pow_zero,Nat.div_one]
    conv=>whnf
    refine br_ (fun q2=>?_) fun q2=>?_
    ·rw [if_pos (by omega)] at hk
     exact hk
    ·rw [if_neg (by omega)] at hk
     exact hk
   rw [decide_eq_false c1]
   conv=>whnf
   refine B3 ?_
   by_cases c3:bitN p 3=1
   ·rw [decide_eq_true c3]
    have C13:bitN p 1=1∨bitN p 3=1:=.inr c3
    rw [show kindN p l=(if ppnN p % 2 ^ (9*l)≠0 then 0 else 2) by unfold kindN;rw [if_neg NZ,if_pos C13]] at hk
    conv=>whnf
    refine rppn_x p hp (cw_ ?_)
    refine n_ ?_
    rw [show (9:Int)*(l:Int)=((9*l:Nat):Int) by omega]
    refine rcut_x (ppnN p) 0 (9*l) hpp (by decide) (by omega) ?_
    rw [Nat.pow_zero,Nat.div_one]
    conv=>whnf
    refine br_ (fun q2=>?_) fun q2=>?_
    ·rw [if_pos (by omega)] at hk
     exact hk
    ·rw [if_neg (by omega)] at hk
     exact hk
   rw [decide_eq_false c3]
   have C13:¬ (bitN p 1=1∨bitN p 3=1):=fun hh=>hh.elim c1 c3
   rw [show kindN p l=(if l=0∨bitN p 4=1∨bitN p 6=1∨bitN p 7=1 then 0 else 1) by unfold kindN;rw [if_neg NZ,if_neg C13]] at hk
   conv=>whnf
   refine br_ (fun q3=>?_) fun q3=>?_
   rotate_left
   ·rw [if_pos (.inl (by omega))] at hk
    conv=>whnf
    exact hk
   conv=>whnf
   refine B4 ?_
   by_cases c4:bitN p 4=1
   ·rw [if_pos (.inr (.inl c4))] at hk
    rw [decide_eq_true c4]
    conv=>whnf
    exact hk
   rw [decide_eq_false c4]
   conv=>whnf
   refine B6 ?_
   by_cases c6:bitN p 6=1
   ·rw [if_pos (.inr (.inr (.inl c6)))] at hk
    rw [decide_eq_true c6]
    conv=>whnf
    exact hk
   rw [decide_eq_false c6]
   conv=>whnf
   refine B7 ?_
   by_cases c7:bitN p 7=1
   ·rw [if_pos (.inr (.inr (.inr c7)))] at hk
    rw [decide_eq_true c7]
    conv=>whnf
    exact hk
   rw [decide_eq_false c7]
   rw [if_neg (fun hh=>hh.elim (fun h1=>by omega) fun hh=>hh.elim c4 fun hh=>hh.elim c6 c7)] at hk
   conv=>whnf
   exact hk
  ·rw [decide_eq_false c1]
   conv=>whnf
   have Z:bitN p 0=0∨(bitN p 2=1∧bitN p 1=0)∨p / 2 ^ 54≠0:=.inr (.inl ⟨c2,b2 _ c1⟩)
   rw [show kindN p l=0 by unfold kindN;rw [if_pos Z]] at hk
   exact hk
 ·rw [decide_eq_false c2]
  have NW:¬ (bitN p 2=1∧bitN p 1=0):=fun hh=>c2 hh.1
  conv=>whnf
  refine rcut_x p 54 10 hp (by decide) (by decide) ?_
  rw [Nat.mod_eq_of_lt (show p / 2 ^ 54<2 ^ 10 by omega)]
  conv=>whnf
  refine br_ (fun q1=>?_) fun q1=>?_
  ·have Z:bitN p 0=0∨(bitN p 2=1∧bitN p 1=0)∨p / 2 ^ 54≠0:=.inr (.inr (by omega))
   conv=>whnf
   rw [show kindN p l=0 by unfold kindN;rw [if_pos Z]] at hk
   exact hk
  have NZ:¬ (bitN p 0=0∨(bitN p 2=1∧bitN p 1=0)∨p / 2 ^ 54≠0):=by
   rintro (e | e | e)
   ·omega
   ·exact NW e
   ·omega
  conv=>whnf
  refine B1 ?_
  by_cases c1:bitN p 1=1
  ·rw [decide_eq_true c1]
   have C13:bitN p 1=1∨bitN p 3=1:=.inl c1
   rw [show kindN p l=(if ppnN p % 2 ^ (9*l)≠0 then 0 else 2) by unfold kindN;rw [if_neg NZ,if_pos C13]] at hk
   conv=>whnf
   refine rppn_x p hp (cw_ ?_)
   refine n_ ?_
   rw [show (9:Int)*(l:Int)=((9*l:Nat):Int) by omega]
   refine rcut_x (ppnN p) 0 (9*l) hpp (by decide) (by omega) ?_
   rw [Nat.pow_zero,Nat.div_one]
   conv=>whnf
   refine br_ (fun q2=>?_) fun q2=>?_
   ·rw [if_pos (by omega)] at hk
    exact hk
   ·rw [if_neg (by omega)] at hk
    exact hk
  rw [decide_eq_false c1]
  conv=>whnf
  refine B3 ?_
  by_cases c3:bitN p 3=1
  ·rw [decide_eq_true c3]
   have C13:bitN p 1=1∨bitN p 3=1:=.inr c3
   rw [show kindN p l=(if ppnN p % 2 ^ (9*l)≠0 then 0 else 2) by unfold kindN;rw [if_neg NZ,if_pos C13]] at hk
   conv=>whnf
   refine rppn_x p hp (cw_ ?_)
   refine n_ ?_
   rw [show (9:Int)*(l:Int)=((9*l:Nat):Int) by omega]
   refine rcut_x (ppnN p) 0 (9*l) hpp (by decide) (by omega) ?_
   rw [Nat.pow_zero,Nat.div_one]
   conv=>whnf
   refine br_ (fun q2=>?_) fun q2=>?_
   ·rw [if_pos (by omega)] at hk
    exact hk
   ·rw [if_neg (by omega)] at hk
    exact hk
  rw [decide_eq_false c3]
  have C13:¬ (bitN p 1=1∨bitN p 3=1):=fun hh=>hh.elim c1 c3
  rw [show kindN p l=(if l=0∨bitN p 4=1∨bitN p 6=1∨bitN p 7=1 then 0 else 1) by unfold kindN;rw [if_neg NZ,if_neg C13]] at hk
  conv=>whnf
  refine br_ (fun q3=>?_) fun q3=>?_
  rotate_left
  ·rw [if_pos (.inl (by omega))] at hk
   conv=>whnf
   exact hk
  conv=>whnf
  refine B4 ?_
  by_cases c4:bitN p 4=1
  ·rw [if_pos (.inr (.inl c4))] at hk
   rw [decide_eq_true c4]
   conv=>whnf
   exact hk
  rw [decide_eq_false c4]
  conv=>whnf
  refine B6 ?_
  by_cases c6:bitN p 6=1
  ·rw [if_pos (.inr (.inr (.inl c6)))] at hk
   rw [decide_eq_true c6]
   conv=>whnf
   exact hk
  rw [decide_eq_false c6]
  conv=>whnf
  refine B7 ?_
  by_cases c7:bitN p 7=1
  ·rw [if_pos (.inr (.inr (.inr c7)))] at hk
   rw [decide_eq_true c7]
   conv=>whnf
   exact hk
  rw [decide_eq_false c7]
  rw [if_neg (fun hh=>hh.elim (fun h1=>by omega) fun hh=>hh.elim c4 fun hh=>hh.elim c6 c7)] at hk
  conv=>whnf
  exact hk
theorem rat_x (is:Bool) (t:Tb) (s:Value) (hr:t.root<2 ^ 64) (e:TE) (h1:e.frame<2 ^ 40) (h2:e.place<2 ^ 40) (hsl:∃ a n c,s=.slice a n c) (hk:K (ux (atE t.root e)) h):X Tryz.prog 44 #[rtV is t s,e.v] h K:=by
 obtain ⟨a,n,c,rfl⟩:=hsl
 refine fnv (args:=_) mixed [(2,2),(5,2),(3,3),(7,3),(10,3)] [] [] Tryz.func44 rfl (by kernel_rfl) (cw_ ?_)
 refine n_ ?_
 refine n_ ?_
 refine n_ ?_
 refine ov_by (show IntKind.u64.wrap (4096*(e.frame:Int)+8*(e.place:Int))=((4096*e.frame+8*e.place:Nat):Int) by rw [show (4096*(e.frame:Int)+8*(e.place:Int))=((4096*e.frame+8*e.place:Nat):Int) by omega];exact w64 (by omega)) ?_
 conv=>whnf
 refine ov_by (show IntKind.u64.wrap ((t.root:Int)+((4096*e.frame+8*e.place:Nat):Int))=((atE t.root e:Nat):Int) by rw [toU64];unfold atE;omega) ?_
 exact hk
theorem reight_x (w n:Nat) (hw:w<2 ^ 64) (hn:n≤100) (hk:∀ s h',Owns h h' 5 1 s n ((eightN w n).map byV)→K s h'):X Tryz.prog 19 #[ux w,.int .i64 n] h K:=by
 refine fnv (args:=_) mixed [] [] [] Tryz.func19 rfl (by kernel_rfl) (cw_ ?_)
 refine loop_at [6,5,0] [] (fun q vs _ h'=>∃ (i:Nat) (s:Value),i≤n∧q=n - i∧vs=[.v (.int .i64 i),.v s,.v (ux (w / 2 ^ (8*i)))]∧Owns h h' 5 1 s i ((eightN w i).map byV)) n ⟨0,.slice none 0 0,by omega,by omega,by rw [Nat.mul_zero,Nat.pow_zero,Nat.div_one];rfl,Owns.nil (Hp.le_refl _)⟩ ?_
 rintro q vs cs mm bx h1 ⟨i,s,hi,rfl,rfl,hO⟩
 obtain ⟨sa,sc,rfl⟩:=hO.shape
 have hlt:w / 2 ^ (8*i)<2 ^ 64:=Nat.lt_of_le_of_lt (Nat.div_le_self _ _) hw
 conv=>whnf
 refine br_ (fun q1=>?_) fun q1=>?_
 ·have e:w / 2 ^ (8*(i+1))=w / 2 ^ (8*i) / 256:=by rw [show 8*(i+1)=8*i+8 by omega,Nat.pow_add,← Nat.div_div_eq_div_mul]
  generalize hv:w / 2 ^ (8*i)=v at hlt e ⊢
  have h8:(UInt8.ofNat (v % 256)).toNat=v % 256:=by rw [UInt8.toNat_ofNat'];exact Nat.mod_eq_of_lt (by omega)
  conv=>whnf
  refine ov_by (show IntKind.u8.wrap ((v:Int).tmod 256)=((v % 256:Nat):Int) from w8 (show v % 256<2 ^ 8 by omega)) (cw_ ?_)
  refine new_intro (o:=rowO 5 [.int .u8 ((v % 256:Nat):Int)]) (fun z h2 n_z le_z at_z ot_z=>cw_ ?_)
  have at_z:h2 z=some (rowO 5 [byV (UInt8.ofNat (v % 256))]):=by
   show h2 z=some (rowO 5 [.int .u8 ((UInt8.ofNat (v % 256)).toNat:Int)])
   rw [h8];exact at_z
  refine Owns.app1 (z:=.int .u8 0) (by kernel_rfl) (show Tryz.prog.info? 5=some Tryz.prog.types[5] by kernel_rfl) (by kernel_rfl) (by kernel_rfl) (by kernel_rfl) rfl (bytes:=1) (by decide) rfl rfl rfl (hO.up le_z) at_z rfl rfl (by omega) fun s7 h4 hO4=>?_
  have hO4:Owns h h4 5 1 s7 (i+1) ((eightN w (i+1)).map byV):=by rw [eight_succ,hv,List.map_append];exact hO4
  obtain ⟨sa4,sc4,rfl⟩:=hO4.shape
  conv=>whnf
  refine ov_by (show IntKind.u64.wrap ((v:Int).tdiv 256)=((v / 256:Nat):Int) from w64 (show v / 256<2 ^ 64 by omega)) (cw_ ?_)
  refine n_ ?_
  exact ⟨n - (i+1),by omega,i+1,_,by omega,rfl,by rw [e];rfl,hO4⟩
 ·obtain rfl:i=n:=by omega
  exact hk _ h1 hO
theorem ent_load {s:Value} {L:List TE} (hr:Rd Tryz.prog enT 4 h s (L.map TE.v)):∃ base cap,s=.slice base L.length cap∧∀ i e,L[i]? = some e→∃ a,base=some a∧∀ k v,e.cs[k]? = some v→h.cell? ((a.add (i*4)).add k)=some v:=by
 obtain ⟨base,cap,e,f⟩:=hr
 refine ⟨base,cap,by rw [e];simp,fun i x hx=>?_⟩
 obtain ⟨a,ea,hl⟩:=f i x.v (by rw [List.getElem?_map,hx];rfl)
 exact ⟨a,ea,fun k v hv=>loadH_cellOf aggEn sizEn hl (show (#[.int .i64 x.frame,.int .i64 x.place,ux x.p,.int .i64 (toI x.to)]:Array Value)[k]? = some v by simpa [TE.cs] using hv)⟩
theorem rpgfind_x (is:Bool) (t:Tb) (s:Value) (hr:Rd Tryz.prog enT 4 h s (t.L.map TE.v)) (hl:t.L.length≤2 ^ 30) (f q:Nat) (hf:f<2 ^ 62) (hq:q<2 ^ 62) (hk:K (.int .i64 (toI (idxE t.L f q))) h):X Tryz.prog 42 #[rtV is t s,.int .i64 f,.int .i64 q] h K:=by
 obtain ⟨base,cap,rfl,fE⟩:=ent_load hr
 refine fnv (args:=_) mixed [(3,3),(9,3),(15,3),(24,3)] [] [] Tryz.func42 rfl (by kernel_rfl) (cw_ ?_)
 refine loop_at [7] [3] (fun r vs cs h'=>h=h'∧cs=[some [.bool is,ux t.root,.int .i64 t.frames,.slice base t.L.length cap]]∧∃ i:Nat,i≤t.L.length∧r=t.L.length - i∧vs=[.v (.int .i64 i)]∧∀ j x,j<i→t.L[j]? = some x→¬ (x.frame=f∧x.place=q)) t.L.length ⟨rfl,rfl,0,by omega,by omega,rfl,fun j x hj=>by omega⟩ ?_
 rintro r vs cs mm bx _ ⟨rfl,rfl,i,hi,rfl,rfl,hno⟩
 conv=>whnf
 refine br_ (fun q1=>?_) fun q1=>?_
 ·have hiL:i<t.L.length:=by omega
  obtain ⟨e,he⟩:∃ e,t.L[i]? = some e:=⟨_,List.getElem?_eq_getElem hiL⟩
  obtain ⟨a,rfl,ce⟩:=fE i e he
  have c0:h.cell? ((a.add (((i:Int)).toNat*4)).add 0)=some (.int .i64 e.frame):=by rw [Int.toNat_natCast];exact ce 0 _ rfl
  have c1:h.cell? ((a.add (((i:Int)).toNat*4)).add 1)=some (.int .i64 e.place):=by rw [Int.toNat_natCast];exact ce 1 _ rfl
  conv=>whnf
  refine n_ ?_
  refine ⟨_,(loadH_cell aggIn _ _).trans c0,cw_ ?_⟩
  refine br_ (fun q2=>?_) fun q2=>?_
  ·conv=>whnf
   refine n_ ?_
   refine ⟨_,(loadH_cell aggIn _ _).trans c1,cw_ ?_⟩
   refine br_ (fun q3=>?_) fun q3=>?_
   ·have e1:=idxE_at t.L f q i e he ⟨by omega,by omega⟩ hno
    rw [e1] at hk
    exact hk
   ·have NE:¬ (e.frame=f∧e.place=q):=fun hh=>by omega
    conv=>whnf
    refine n_ ?_
    refine ⟨t.L.length - (i+1),by omega,rfl,rfl,i+1,by omega,rfl,rfl,fun j x hj hx=>?_⟩
    by_cases ej:j=i
    ·subst ej;rw [he] at hx;cases hx;exact NE
    ·exact hno j x (by omega) hx
  ·have NE:¬ (e.frame=f∧e.place=q):=fun hh=>by omega
   conv=>whnf
   refine n_ ?_
   refine ⟨t.L.length - (i+1),by omega,rfl,rfl,i+1,by omega,rfl,rfl,fun j x hj hx=>?_⟩
   by_cases ej:j=i
   ·subst ej;rw [he] at hx;cases hx;exact NE
   ·exact hno j x (by omega) hx
 ·have e1:=idxE_none t.L f q fun j x hx=>hno j x (by have:=(List.getElem?_eq_some_iff.1 hx).1;omega) hx
  rw [e1] at hk
  exact hk
theorem rpgNew_x (r:Nat) (hk:K (rtV true ⟨r,1,[]⟩ (.slice none 0 0)) h):X Tryz.prog 14 #[ux r] h K:=by
 refine fnv (args:=_) mixed [(2,2)] [] [] Tryz.func14 rfl (by kernel_rfl) (cw_ ?_)
 exact hk
end
end Go.Proofs.YtdhkjcdneidgaaaGreatDoor
