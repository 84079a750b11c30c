/-
  Instructions as words: decoded and encoded, the program's.
-/
import Derived.Test.YtdhkjcdneidgaaaGreatDoorLinS
import Derived.Test.YtdhkjcdneidgaaaGreatDoorImmP
set_option linter.unusedSimpArgs false
set_option linter.unusedVariables false
set_option maxHeartbeats 8000000
set_option maxRecDepth 10000
set_option linter.unusedSimpArgs false
set_option linter.unusedVariables false
namespace Go.Proofs.YtdhkjcdneidgaaaGreatDoor
open Go Go.Mid Go.RowKit Go.Bits
attribute [local irreducible] mid
abbrev ux (n:Nat):Value:=.int .u64 n
abbrev wx (n:Nat):Value:=.int .u32 n
theorem ov_is {x y:Int} {K:Int→Prop} (e:x=y) (h : -9223372036854775808≤y∧y≤9223372036854775807) (hk:K y):ovK .i64 x K:=by
 subst e;exact ov_i64 h hk
theorem wrapI64N (w:Nat) (hw:w<2 ^ 64):IntKind.i64.wrap (w:Int)=i64N w:=by
 unfold i64N
 rw [IntKind.wrap_i64]
 split <;> omega
theorem wrapU64N (n:Int):IntKind.u64.wrap n=(u64N n:Nat):=by
 unfold u64N
 exact toU64 n
section
variable {h:Hp} {K:Value→Hp→Prop}
theorem bspan_x (a s:Nat) (ha:a≤63) (hs:1≤s∧a+s≤64) (hk:K (.tuple #[.int .i64 a,.int .i64 (a+s:Nat)]) h):X Tryz.prog 124 #[.int .i64 a,.int .i64 s] h K:=by
 refine fnv (args:=_) mixed [] [] [] Tryz.func124 rfl (by kernel_rfl) (cw_ ?_)
 refine bf_ ?_
 refine bf_ ?_
 refine n_ ?_
 have e:(a:Int)+(if (64 - (a:Int))<(s:Int) then (64 - (a:Int)) else (s:Int))=((a+s:Nat):Int):=by split <;> omega
 refine ov_is e (by omega) (cw_ ?_)
 exact hk
theorem ones_eq (s:Nat) (hs:1≤s∧s≤64):18446744073709551615 / 2 ^ (64 - s)=2 ^ s - 1:=by
 have e:2 ^ s*2 ^ (64 - s)=18446744073709551616:=by rw [← Nat.pow_add,show s+(64 - s)=64 by omega]
 have hp:0<2 ^ (64 - s):=Nat.pow_pos (by decide)
 have h1:1≤2 ^ s:=Nat.pow_pos (by decide)
 rw [Nat.div_eq_iff hp]
 have e2:(2 ^ s - 1)*2 ^ (64 - s)=18446744073709551616 - 2 ^ (64 - s):=by rw [Nat.sub_mul,e,Nat.one_mul]
 omega
theorem bones_x (a s:Nat) (ha:a≤63) (hs:1≤s∧a+s≤64) (hk:K (ux ((2 ^ s - 1)*2 ^ a)) h):X Tryz.prog 90 #[.int .i64 a,.int .i64 s] h K:=by
 have hlt:(2 ^ s - 1)*2 ^ a<18446744073709551616:=by
  have e:2 ^ s*2 ^ a≤2 ^ 64:=by rw [← Nat.pow_add];exact Nat.pow_le_pow_right (by decide) (by omega)
  have h1:1≤2 ^ s:=Nat.pow_pos (by decide)
  have h2:1≤2 ^ a:=Nat.pow_pos (by decide)
  rw [Nat.sub_mul]
  omega
 refine fnv (args:=_) mixed [] [] [] Tryz.func90 rfl (by kernel_rfl) (cw_ ?_)
 refine bspan_x a s ha hs (cw_ ?_)
 refine bf_ ?_
 refine ov_is (y:=s) (by omega) (by omega) (cw_ ?_)
 refine ov_is (y:=(64 - s:Nat)) (by omega) (by omega) (cw_ ?_)
 refine ov_u64 (by omega) (cw_ ?_)
 refine val_by (shr64 18446744073709551615 (64 - s) (by omega)) (cw_ ?_)
 rw [ones_eq s (by omega)]
 refine ov_u64 (by omega) (cw_ ?_)
 refine ov_by (shl64 (2 ^ s - 1) a (by omega)) ?_
 rw [Nat.mod_eq_of_lt hlt]
 conv=>whnf
 exact hk
theorem bdown_x (w k:Nat) (hw:w<2 ^ 64) (hkk:k≤63) (hk:K (ux (w / 2 ^ k)) h):X Tryz.prog 89 #[ux w,.int .i64 (-(k:Int))] h K:=by
 rcases Nat.eq_zero_or_pos k with rfl | h0
 ·refine fnv (args:=_) mixed [] [] [] Tryz.func89 rfl (by kernel_rfl) (cw_ ?_)
  refine ov_by (y:=((0:Nat):Int)) (by decide) (cw_ ?_)
  refine ov_by (shl64 w 0 (by decide)) ?_
  rw [Nat.pow_zero,Nat.mul_one,Nat.mod_eq_of_lt hw]
  rw [Nat.pow_zero,Nat.div_one] at hk
  conv=>whnf
  exact hk
 ·refine fnv (args:=_) mixed [] [] [] Tryz.func89 rfl (by kernel_rfl) (cw_ ?_)
  refine bf_ ?_
  refine bf_ ?_
  refine bt_ ?_
  rw [show IntKind.i64.wrap (0 - -(k:Int))=(k:Int) by rw [IntWalk.i64_in _ (by omega)];omega]
  refine ov_u64 (by omega) (cw_ ?_)
  refine val_by (shr64 w k (by omega)) (cw_ ?_)
  exact hk
theorem bcut_x (w a s:Nat) (hw:w<2 ^ 64) (ha:a≤63) (hs:1≤s∧s≤64) (hk:K (ux (w / 2 ^ a % 2 ^ s)) h):X Tryz.prog 58 #[ux w,.int .i64 a,.int .i64 s] h K:=by
 have h1:w / 2 ^ a<2 ^ 64:=Nat.lt_of_le_of_lt (Nat.div_le_self _ _) hw
 have h2:(2 ^ s - 1)*2 ^ 0<2 ^ 64:=by
  have e:2 ^ s≤2 ^ 64:=Nat.pow_le_pow_right (by decide) hs.2
  have h1:1≤2 ^ s:=Nat.pow_pos (by decide)
  omega
 refine fnv (args:=_) mixed [] [] [] Tryz.func58 rfl (by kernel_rfl) (cw_ ?_)
 refine bf_ ?_
 refine bf_ ?_
 refine bf_ ?_
 rw [show IntKind.i64.wrap (0 - (a:Int)) = -(a:Int) by rw [IntWalk.i64_in _ (by omega)];omega]
 refine bdown_x w a hw ha (cw_ ?_)
 refine bones_x 0 s (by decide) (by omega) (cw_ ?_)
 refine val_by (and64 h1 h2) (cw_ ?_)
 rw [Nat.pow_zero,Nat.mul_one,Nat.and_two_pow_sub_one_eq_mod]
 exact hk
theorem sign_shift (w s:Nat) (hs:1≤s∧s≤63):IntKind.u64.wrap ((i64N (w*2 ^ (64 - s) % 18446744073709551616)).fdiv (2 ^ (64 - s)))=((signN (w % 2 ^ s) s:Nat):Int):=by
 have hm:w % 2 ^ s<2 ^ s:=Nat.mod_lt _ (Nat.pow_pos (by decide))
 rw [sign_eq hm hs.1 (by omega)]
 have e:2 ^ s*2 ^ (64 - s)=18446744073709551616:=by rw [← Nat.pow_add,show s+(64 - s)=64 by omega]
 have e2:2 ^ (s - 1)*2 ^ (64 - s)=9223372036854775808:=by rw [← Nat.pow_add,show s - 1+(64 - s)=63 by omega]
 have es:2 ^ s=2 ^ (s - 1)*2:=by rw [← Nat.pow_succ];congr 1;omega
 have hle:2 ^ s≤2 ^ 63:=Nat.pow_le_pow_right (by decide) hs.2
 have hp:0<2 ^ (64 - s):=Nat.pow_pos (by decide)
 have hmm:w*2 ^ (64 - s) % 18446744073709551616=w % 2 ^ s*2 ^ (64 - s):=by
  rw [← e,Nat.mul_mod_mul_right]
 rw [hmm]
 generalize w % 2 ^ s=m at hm ⊢
 have hc:((2:Int) ^ (64 - s))=((2 ^ (64 - s):Nat):Int):=by push_cast;rfl
 rw [hc,Int.fdiv_eq_ediv_of_nonneg _ (Int.natCast_nonneg _)]
 generalize 2 ^ (64 - s)=q at *
 generalize 2 ^ (s - 1)=r at *
 unfold i64N
 by_cases hlt:m<r
 ·have h1:m*q<9223372036854775808:=by rw [← e2];exact Nat.mul_lt_mul_of_pos_right hlt hp
  rw [if_pos h1,if_pos hlt]
  have:((m*q:Nat):Int) / (q:Int)=m:=by
   rw [Int.natCast_mul];exact Int.mul_ediv_cancel _ (by omega)
  rw [this,toU64]
  omega
 ·have h1:9223372036854775808≤m*q:=by rw [← e2];exact Nat.mul_le_mul_right _ (by omega)
  rw [if_neg (by omega),if_neg hlt]
  have:(((m*q:Nat):Int) - 18446744073709551616) / (q:Int)=(m:Int) - (2 ^ s:Nat):=by
   have e3:((m*q:Nat):Int) - 18446744073709551616=((m:Int) - ((2 ^ s:Nat):Int))*(q:Int):=by
    rw [Int.sub_mul,← Int.natCast_mul,← Int.natCast_mul,e];rfl
   rw [e3];exact Int.mul_ediv_cancel _ (by omega)
  rw [this,toU64]
  omega
theorem bsign_x (w s:Nat) (hw:w<2 ^ 64) (hs:1≤s∧s≤63) (hk:K (ux (signN (w % 2 ^ s) s)) h):X Tryz.prog 56 #[ux w,.int .i64 s] h K:=by
 have hlt:w*2 ^ (64 - s) % 18446744073709551616<2 ^ 64:=Nat.mod_lt _ (by decide)
 refine fnv (args:=_) mixed [] [] [] Tryz.func56 rfl (by kernel_rfl) (cw_ ?_)
 refine bf_ ?_
 refine bf_ ?_
 refine ov_is (y:=(64 - s:Nat)) (by omega) (by omega) (cw_ ?_)
 refine ov_u64 (by omega) (cw_ ?_)
 refine ov_by (shl64 w (64 - s) (by omega)) (cw_ ?_)
 refine ov_by (wrapI64N _ hlt) (cw_ ?_)
 refine val_by (y:=(i64N (w*2 ^ (64 - s) % 18446744073709551616)).fdiv (2 ^ (64 - s))) (by rw [Int.toNat_natCast,show min (64 - s) IntKind.i64.bits=64 - s from Nat.min_eq_left (by show 64 - s≤64;omega)]) (cw_ ?_)
 refine ov_by (sign_shift w s hs) (cw_ ?_)
 exact hk
end
end Go.Proofs.YtdhkjcdneidgaaaGreatDoor
namespace Go.Proofs.YtdhkjcdneidgaaaGreatDoor
open Go Go.Mid Go.RowKit Go.Bits
attribute [local irreducible] mid
def codeL:List (Nat×Nat×Nat):=[(55,0,0),(23,0,0),(111,0,0),(103,0,0),(99,0,0),(99,1,0),(99,4,0),(99,5,0),(99,6,0),(99,7,0),(3,0,0),(3,1,0),(3,2,0),(3,3,0),(3,4,0),(3,5,0),(3,6,0),(35,0,0),(35,1,0),(35,2,0),(35,3,0),(19,0,0),(19,2,0),(19,3,0),(19,4,0),(19,6,0),(19,7,0),(19,1,0),(19,5,0),(19,5,32),(51,0,0),(51,0,32),(51,1,0),(51,2,0),(51,3,0),(51,4,0),(51,5,0),(51,5,32),(51,6,0),(51,7,0),(27,0,0),(27,1,0),(27,5,0),(27,5,32),(59,0,0),(59,0,32),(59,1,0),(59,5,0),(59,5,32),(15,0,0),(15,1,0),(115,0,115),(115,0,1048691),(51,0,1),(51,1,1),(51,2,1),(51,3,1),(51,4,1),(51,5,1),(51,6,1),(51,7,1),(59,0,1),(59,4,1),(59,5,1),(59,6,1),(59,7,1),(47,2,8),(47,2,12),(47,2,4),(47,2,0),(47,2,16),(47,2,48),(47,2,32),(47,2,64),(47,2,80),(47,2,96),(47,2,112),(47,3,8),(47,3,12),(47,3,4),(47,3,0),(47,3,16),(47,3,48),(47,3,32),(47,3,64),(47,3,80),(47,3,96),(47,3,112),(115,1,0),(115,2,0),(115,3,0),(115,5,0),(115,6,0),(115,7,0),(115,0,807403635),(115,0,270532723),(115,0,273678451),(115,0,9)]
def codeN (i:Nat):Nat×Nat×Nat:=codeL.getD i (0,0,0)
def maskF:Nat→Nat
 | 5 | 6=>127
 | 2 | 3 | 4 | 9 | 10=>28799
 | 1 | 8=>4261441663
 | 7=>4227887231
 | 11=>4160778367
 | 12=>4193284223
 | 13=>4294967295
 | 14=>4261445631
 | _=>0
def maskN (i:Nat):Nat:=(rowsL.getD i ⟨0,[],0,0⟩).mask
def isN (i:Nat):Nat:=(rowsL.getD i ⟨0,[],0,0⟩).is
theorem fixed_eq:∀ i:Nat,i<98→maskF (fmtN ((i+1:Nat):Int))=maskN i∧(if fmtN ((i+1:Nat):Int)=13 then (codeN i).2.2 else ((codeN i).1 ||| (codeN i).2.1*2 ^ 12 % 4294967296) ||| (codeN i).2.2*2 ^ 25 % 4294967296)=isN i:=by decide +kernel
theorem code_lt:∀ i:Nat,i<98→(codeN i).1<2 ^ 32∧(codeN i).2.1<2 ^ 32∧(codeN i).2.2<2 ^ 32:=by decide +kernel
section
variable {h:Hp} {K:Value→Hp→Prop}
theorem code_plain (i:Nat) (h1:0≤i) (h2:i<28) (hk:K (.tuple #[wx (codeN i).1,wx (codeN i).2.1,wx (codeN i).2.2]) h):X Tryz.prog 153 #[.int .i64 ((i+1:Nat):Int)] h K:=by
 have:i=0∨i=1∨i=2∨i=3∨i=4∨i=5∨i=6∨i=7∨i=8∨i=9∨i=10∨i=11∨i=12∨i=13∨i=14∨i=15∨i=16∨i=17∨i=18∨i=19∨i=20∨i=21∨i=22∨i=23∨i=24∨i=25∨i=26∨i=27:=by omega
 rcases this with rfl | rfl | rfl | rfl | rfl | rfl | rfl | rfl | rfl | rfl | rfl | rfl | rfl | rfl | rfl | rfl | rfl | rfl | rfl | rfl | rfl | rfl | rfl | rfl | rfl | rfl | rfl | rfl <;>
 ·refine fnv (args:=_) mixed [] [] [] Tryz.func153 rfl (by kernel_rfl) (cw_ ?_)
  refine fnv (args:=_) mixed [] [] [] Tryz.func188 rfl (by kernel_rfl) (cw_ ?_)
  exact hk
theorem code_reg (i:Nat) (h1:28≤i) (h2:i<56) (hk:K (.tuple #[wx (codeN i).1,wx (codeN i).2.1,wx (codeN i).2.2]) h):X Tryz.prog 153 #[.int .i64 ((i+1:Nat):Int)] h K:=by
 have:i=28∨i=29∨i=30∨i=31∨i=32∨i=33∨i=34∨i=35∨i=36∨i=37∨i=38∨i=39∨i=40∨i=41∨i=42∨i=43∨i=44∨i=45∨i=46∨i=47∨i=48∨i=49∨i=50∨i=51∨i=52∨i=53∨i=54∨i=55:=by omega
 rcases this with rfl | rfl | rfl | rfl | rfl | rfl | rfl | rfl | rfl | rfl | rfl | rfl | rfl | rfl | rfl | rfl | rfl | rfl | rfl | rfl | rfl | rfl | rfl | rfl | rfl | rfl | rfl | rfl <;>
 ·refine fnv (args:=_) mixed [] [] [] Tryz.func153 rfl (by kernel_rfl) (cw_ ?_)
  refine fnv (args:=_) mixed [] [] [] Tryz.func189 rfl (by kernel_rfl) (cw_ ?_)
  exact hk
theorem code_more (i:Nat) (h1:56≤i) (h2:i<84) (hk:K (.tuple #[wx (codeN i).1,wx (codeN i).2.1,wx (codeN i).2.2]) h):X Tryz.prog 153 #[.int .i64 ((i+1:Nat):Int)] h K:=by
 have:i=56∨i=57∨i=58∨i=59∨i=60∨i=61∨i=62∨i=63∨i=64∨i=65∨i=66∨i=67∨i=68∨i=69∨i=70∨i=71∨i=72∨i=73∨i=74∨i=75∨i=76∨i=77∨i=78∨i=79∨i=80∨i=81∨i=82∨i=83:=by omega
 rcases this with rfl | rfl | rfl | rfl | rfl | rfl | rfl | rfl | rfl | rfl | rfl | rfl | rfl | rfl | rfl | rfl | rfl | rfl | rfl | rfl | rfl | rfl | rfl | rfl | rfl | rfl | rfl | rfl <;>
 ·refine fnv (args:=_) mixed [] [] [] Tryz.func153 rfl (by kernel_rfl) (cw_ ?_)
  refine fnv (args:=_) mixed [] [] [] Tryz.func190 rfl (by kernel_rfl) (cw_ ?_)
  exact hk
theorem code_last (i:Nat) (h1:84≤i) (h2:i<98) (hk:K (.tuple #[wx (codeN i).1,wx (codeN i).2.1,wx (codeN i).2.2]) h):X Tryz.prog 153 #[.int .i64 ((i+1:Nat):Int)] h K:=by
 have:i=84∨i=85∨i=86∨i=87∨i=88∨i=89∨i=90∨i=91∨i=92∨i=93∨i=94∨i=95∨i=96∨i=97:=by omega
 rcases this with rfl | rfl | rfl | rfl | rfl | rfl | rfl | rfl | rfl | rfl | rfl | rfl | rfl | rfl <;>
 ·refine fnv (args:=_) mixed [] [] [] Tryz.func153 rfl (by kernel_rfl) (cw_ ?_)
  refine fnv (args:=_) mixed [] [] [] Tryz.func191 rfl (by kernel_rfl) (cw_ ?_)
  exact hk
theorem code_x (i:Nat) (hi:i<98) (hk:K (.tuple #[wx (codeN i).1,wx (codeN i).2.1,wx (codeN i).2.2]) h):X Tryz.prog 153 #[.int .i64 ((i+1:Nat):Int)] h K:=by
 rcases Nat.lt_or_ge i 28 with h28 | h28
 ·exact code_plain i (by omega) h28 hk
 rcases Nat.lt_or_ge i 56 with h56 | h56
 ·exact code_reg i (by omega) h56 hk
 rcases Nat.lt_or_ge i 84 with h84 | h84
 ·exact code_more i (by omega) h84 hk
 exact code_last i (by omega) hi hk
theorem mask0_x (hk:K (wx (maskF 0)) h):X Tryz.prog 154 #[.int .i64 0] h K:=by
 refine fnv (args:=_) mixed [] [] [] Tryz.func154 rfl (by kernel_rfl) (cw_ ?_)
 exact hk
theorem mask1_x (hk:K (wx (maskF 1)) h):X Tryz.prog 154 #[.int .i64 1] h K:=by
 refine fnv (args:=_) mixed [] [] [] Tryz.func154 rfl (by kernel_rfl) (cw_ ?_)
 exact hk
theorem mask2_x (hk:K (wx (maskF 2)) h):X Tryz.prog 154 #[.int .i64 2] h K:=by
 refine fnv (args:=_) mixed [] [] [] Tryz.func154 rfl (by kernel_rfl) (cw_ ?_)
 exact hk
theorem mask3_x (hk:K (wx (maskF 3)) h):X Tryz.prog 154 #[.int .i64 3] h K:=by
 refine fnv (args:=_) mixed [] [] [] Tryz.func154 rfl (by kernel_rfl) (cw_ ?_)
 exact hk
theorem mask4_x (hk:K (wx (maskF 4)) h):X Tryz.prog 154 #[.int .i64 4] h K:=by
 refine fnv (args:=_) mixed [] [] [] Tryz.func154 rfl (by kernel_rfl) (cw_ ?_)
 exact hk
theorem mask5_x (hk:K (wx (maskF 5)) h):X Tryz.prog 154 #[.int .i64 5] h K:=by
 refine fnv (args:=_) mixed [] [] [] Tryz.func154 rfl (by kernel_rfl) (cw_ ?_)
 exact hk
theorem mask6_x (hk:K (wx (maskF 6)) h):X Tryz.prog 154 #[.int .i64 6] h K:=by
 refine fnv (args:=_) mixed [] [] [] Tryz.func154 rfl (by kernel_rfl) (cw_ ?_)
 exact hk
theorem mask7_x (hk:K (wx (maskF 7)) h):X Tryz.prog 154 #[.int .i64 7] h K:=by
 refine fnv (args:=_) mixed [] [] [] Tryz.func154 rfl (by kernel_rfl) (cw_ ?_)
 exact hk
theorem mask8_x (hk:K (wx (maskF 8)) h):X Tryz.prog 154 #[.int .i64 8] h K:=by
 refine fnv (args:=_) mixed [] [] [] Tryz.func154 rfl (by kernel_rfl) (cw_ ?_)
 exact hk
theorem mask9_x (hk:K (wx (maskF 9)) h):X Tryz.prog 154 #[.int .i64 9] h K:=by
 refine fnv (args:=_) mixed [] [] [] Tryz.func154 rfl (by kernel_rfl) (cw_ ?_)
 exact hk
theorem mask10_x (hk:K (wx (maskF 10)) h):X Tryz.prog 154 #[.int .i64 10] h K:=by
 refine fnv (args:=_) mixed [] [] [] Tryz.func154 rfl (by kernel_rfl) (cw_ ?_)
 exact hk
theorem mask11_x (hk:K (wx (maskF 11)) h):X Tryz.prog 154 #[.int .i64 11] h K:=by
 refine fnv (args:=_) mixed [] [] [] Tryz.func154 rfl (by kernel_rfl) (cw_ ?_)
 exact hk
theorem mask12_x (hk:K (wx (maskF 12)) h):X Tryz.prog 154 #[.int .i64 12] h K:=by
 refine fnv (args:=_) mixed [] [] [] Tryz.func154 rfl (by kernel_rfl) (cw_ ?_)
 exact hk
theorem mask13_x (hk:K (wx (maskF 13)) h):X Tryz.prog 154 #[.int .i64 13] h K:=by
 refine fnv (args:=_) mixed [] [] [] Tryz.func154 rfl (by kernel_rfl) (cw_ ?_)
 exact hk
theorem mask14_x (hk:K (wx (maskF 14)) h):X Tryz.prog 154 #[.int .i64 14] h K:=by
 refine fnv (args:=_) mixed [] [] [] Tryz.func154 rfl (by kernel_rfl) (cw_ ?_)
 exact hk
theorem mask_x (f:Nat) (hf:f<15) (hk:K (wx (maskF f)) h):X Tryz.prog 154 #[.int .i64 f] h K:=by
 match f,hf,hk with
 | 0,_,hk=>exact mask0_x hk
 | 1,_,hk=>exact mask1_x hk
 | 2,_,hk=>exact mask2_x hk
 | 3,_,hk=>exact mask3_x hk
 | 4,_,hk=>exact mask4_x hk
 | 5,_,hk=>exact mask5_x hk
 | 6,_,hk=>exact mask6_x hk
 | 7,_,hk=>exact mask7_x hk
 | 8,_,hk=>exact mask8_x hk
 | 9,_,hk=>exact mask9_x hk
 | 10,_,hk=>exact mask10_x hk
 | 11,_,hk=>exact mask11_x hk
 | 12,_,hk=>exact mask12_x hk
 | 13,_,hk=>exact mask13_x hk
 | 14,_,hk=>exact mask14_x hk
 | f+15,hf,_=>exact absurd hf (by omega)
theorem fixed_x (i:Nat) (hi:i<98) (hk:K (.tuple #[wx (maskN i),wx (isN i)]) h):X Tryz.prog 114 #[.int .i64 ((i+1:Nat):Int)] h K:=by
 obtain ⟨e1,e2⟩:=fixed_eq i hi
 obtain ⟨l1,l2,l3⟩:=code_lt i hi
 rw [← e1,← e2] at hk
 have hl:=fmtN_lt ((i+1:Nat):Int)
 refine fnv (args:=_) mixed [] [] [] Tryz.func114 rfl (by kernel_rfl) (cw_ ?_)
 refine code_x i hi (cw_ ?_)
 refine fmt_x _ ?_
 generalize fmtN ((i+1:Nat):Int)=f at hk hl ⊢
 generalize codeN i=t at hk l1 l2 l3 ⊢
 conv=>whnf
 refine br_ (fun q1=>?_) fun q1=>?_
 ·rw [if_pos (by omega)] at hk
  conv=>whnf
  refine mask_x f hl (cw_ ?_)
  exact hk
 ·rw [if_neg (by omega)] at hk
  conv=>whnf
  refine mask_x f hl (cw_ ?_)
  refine ov_by (shl32 t.2.1 12 (by decide)) (cw_ ?_)
  refine val_by (or32 l1 (Nat.mod_lt _ (by decide))) (cw_ ?_)
  refine ov_by (shl32 t.2.2 25 (by decide)) (cw_ ?_)
  refine val_by (or32 (Nat.or_lt_two_pow l1 (Nat.mod_lt _ (by decide))) (Nat.mod_lt _ (by decide))) (cw_ ?_)
  exact hk
end
end Go.Proofs.YtdhkjcdneidgaaaGreatDoor
namespace Go.Proofs.YtdhkjcdneidgaaaGreatDoor
open Go Go.Mid Go.RowKit Go.Bits
attribute [local irreducible] mid
theorem mask_lt:∀ i:Nat,i<98→maskN i<2 ^ 32∧isN i<2 ^ 32:=by decide +kernel
theorem and_bit (a b i:Nat):bitN (a &&& b) i=min (bitN a i) (bitN b i):=by
 rw [bit_eq,bit_eq,bit_eq,Nat.testBit_and]
 cases a.testBit i <;> cases b.testBit i <;> rfl
section
variable {h:Hp} {K:Value→Hp→Prop}
end
end Go.Proofs.YtdhkjcdneidgaaaGreatDoor
