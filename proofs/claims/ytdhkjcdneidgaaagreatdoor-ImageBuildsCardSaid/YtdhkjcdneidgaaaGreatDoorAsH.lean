/-
  Instructions as text: which fields a format has; which numbers fit (printed by a program).
-/
import Derived.Test.YtdhkjcdneidgaaaGreatDoorAsF
set_option linter.unusedSimpArgs false
set_option linter.unusedVariables false
set_option maxHeartbeats 8000000
set_option maxRecDepth 10000
set_option linter.unusedSimpArgs false
set_option linter.unusedVariables false
namespace Go.Proofs.YtdhkjcdneidgaaaGreatDoor
open Go Go.Mid Go.RowKit
attribute [local irreducible] mid
def fmtL:List Nat:=[0,5,5,6,2,4,4,4,4,4,4,2,2,2,2,2,2,2,3,3,3,3,2,2,2,2,2,2,7,7,7,1,1,1,1,1,1,1,1,1,1,2,8,8,8,1,1,1,1,1,2,2,13,13,1,1,1,1,1,1,1,1,1,1,1,1,1,12,11,11,11,11,11,11,11,11,11,11,12,11,11,11,11,11,11,11,11,11,11,9,9,9,10,10,10,13,13,13,14]
def fmtN (n:Int):Nat:=if 0≤n∧n<99 then fmtL.getD n.toNat 0 else 0
theorem fmt_lt:∀ f ∈ fmtL,f<15:=by decide
theorem fmtN_lt (n:Int):fmtN n<15:=by
 unfold fmtN
 split
 ·rw [List.getD_eq_getElem?_getD]
  cases h:fmtL[n.toNat]? with
  | none=>decide
  | some f=>exact fmt_lt f (List.mem_of_getElem? h)
 ·decide
section
variable {h:Hp} {K:Value→Hp→Prop} {E:List PanicEntry→Hp→Prop}
theorem fmtG0_x (n:Nat) (h1:0≤n) (h2:n<25) (hk:K (.int .i64 (fmtN n)) h):X Tryz.prog 112 #[.int .i64 n] h K:=by
 have:n=0∨n=1∨n=2∨n=3∨n=4∨n=5∨n=6∨n=7∨n=8∨n=9∨n=10∨n=11∨n=12∨n=13∨n=14∨n=15∨n=16∨n=17∨n=18∨n=19∨n=20∨n=21∨n=22∨n=23∨n=24:=by omega
 rcases this with rfl | rfl | rfl | rfl | rfl | rfl | rfl | rfl | rfl | rfl | rfl | rfl | rfl | rfl | rfl | rfl | rfl | rfl | rfl | rfl | rfl | rfl | rfl | rfl | rfl <;>
 ·refine fnv (args:=_) mixed [] [] [] Tryz.func112 rfl (by kernel_rfl) (cw_ ?_)
  exact hk
theorem fmtG25_x (n:Nat) (h1:25≤n) (h2:n<50) (hk:K (.int .i64 (fmtN n)) h):X Tryz.prog 112 #[.int .i64 n] h K:=by
 have:n=25∨n=26∨n=27∨n=28∨n=29∨n=30∨n=31∨n=32∨n=33∨n=34∨n=35∨n=36∨n=37∨n=38∨n=39∨n=40∨n=41∨n=42∨n=43∨n=44∨n=45∨n=46∨n=47∨n=48∨n=49:=by omega
 rcases this with rfl | rfl | rfl | rfl | rfl | rfl | rfl | rfl | rfl | rfl | rfl | rfl | rfl | rfl | rfl | rfl | rfl | rfl | rfl | rfl | rfl | rfl | rfl | rfl | rfl <;>
 ·refine fnv (args:=_) mixed [] [] [] Tryz.func112 rfl (by kernel_rfl) (cw_ ?_)
  exact hk
theorem fmtG50_x (n:Nat) (h1:50≤n) (h2:n<75) (hk:K (.int .i64 (fmtN n)) h):X Tryz.prog 112 #[.int .i64 n] h K:=by
 have:n=50∨n=51∨n=52∨n=53∨n=54∨n=55∨n=56∨n=57∨n=58∨n=59∨n=60∨n=61∨n=62∨n=63∨n=64∨n=65∨n=66∨n=67∨n=68∨n=69∨n=70∨n=71∨n=72∨n=73∨n=74:=by omega
 rcases this with rfl | rfl | rfl | rfl | rfl | rfl | rfl | rfl | rfl | rfl | rfl | rfl | rfl | rfl | rfl | rfl | rfl | rfl | rfl | rfl | rfl | rfl | rfl | rfl | rfl <;>
 ·refine fnv (args:=_) mixed [] [] [] Tryz.func112 rfl (by kernel_rfl) (cw_ ?_)
  exact hk
theorem fmtG75_x (n:Nat) (h1:75≤n) (h2:n<99) (hk:K (.int .i64 (fmtN n)) h):X Tryz.prog 112 #[.int .i64 n] h K:=by
 have:n=75∨n=76∨n=77∨n=78∨n=79∨n=80∨n=81∨n=82∨n=83∨n=84∨n=85∨n=86∨n=87∨n=88∨n=89∨n=90∨n=91∨n=92∨n=93∨n=94∨n=95∨n=96∨n=97∨n=98:=by omega
 rcases this with rfl | rfl | rfl | rfl | rfl | rfl | rfl | rfl | rfl | rfl | rfl | rfl | rfl | rfl | rfl | rfl | rfl | rfl | rfl | rfl | rfl | rfl | rfl | rfl <;>
 ·refine fnv (args:=_) mixed [] [] [] Tryz.func112 rfl (by kernel_rfl) (cw_ ?_)
  exact hk
theorem fmtO_x (n:Int) (hn:n<1∨98<n) (hk:K (.int .i64 0) h):X Tryz.prog 112 #[.int .i64 n] h K:=by
 refine fnv (args:=_) mixed [] [] [] Tryz.func112 rfl (by kernel_rfl) (cw_ ?_)
 iterate 98 (refine bsel_false (by simp;omega) ?_;conv=>whnf)
 exact hk
theorem fmt_x (n:Int) (hk:K (.int .i64 (fmtN n)) h):X Tryz.prog 112 #[.int .i64 n] h K:=by
 by_cases hn:n<1∨98<n
 ·refine fmtO_x n hn ?_
  have:fmtN n=0:=by
   unfold fmtN
   split
   ·rw [show n.toNat=0 by omega];rfl
   ·rfl
  rw [this] at hk
  exact hk
 ·obtain ⟨m,rfl⟩:∃ m:Nat,n=m:=⟨n.toNat,by omega⟩
  have hm:m<99:=by omega
  rcases Nat.lt_or_ge m 25 with h25 | h25
  ·exact fmtG0_x m (by omega) h25 hk
  rcases Nat.lt_or_ge m 50 with h50 | h50
  ·exact fmtG25_x m (by omega) h50 hk
  rcases Nat.lt_or_ge m 75 with h75 | h75
  ·exact fmtG50_x m (by omega) h75 hk
  exact fmtG75_x m (by omega) hm hk
end
end Go.Proofs.YtdhkjcdneidgaaaGreatDoor
namespace Go.Proofs.YtdhkjcdneidgaaaGreatDoor
open Go Go.Mid Go.RowKit
attribute [local irreducible] mid
theorem wrapI (n:Int) (h1 : -9223372036854775808≤n) (h2:n≤9223372036854775807):IntKind.i64.wrap n=n:=by
 simp [IntKind.wrap_i64];omega
theorem andI1 (n:Int):IntKind.i64.wrap ((BitVec.ofInt IntKind.i64.bits n &&& BitVec.ofInt IntKind.i64.bits 1).toNat:Int)=n % 2:=by
 have e:(BitVec.ofInt IntKind.i64.bits n &&& BitVec.ofInt IntKind.i64.bits 1).toNat=(n % 18446744073709551616).toNat % 2:=by
  show (BitVec.ofInt 64 n &&& BitVec.ofInt 64 1).toNat=_
  rw [BitVec.toNat_and,BitVec.toNat_ofInt,BitVec.toNat_ofInt]
  exact Nat.and_two_pow_sub_one_eq_mod (n % 18446744073709551616).toNat 1
 rw [e,wrapI _ (by omega) (by omega)]
 omega
theorem andI12 (n:Int):IntKind.i64.wrap ((BitVec.ofInt IntKind.i64.bits n &&& BitVec.ofInt IntKind.i64.bits 4095).toNat:Int)=n % 4096:=by
 have e:(BitVec.ofInt IntKind.i64.bits n &&& BitVec.ofInt IntKind.i64.bits 4095).toNat=(n % 18446744073709551616).toNat % 4096:=by
  show (BitVec.ofInt 64 n &&& BitVec.ofInt 64 4095).toNat=_
  rw [BitVec.toNat_and,BitVec.toNat_ofInt,BitVec.toNat_ofInt]
  exact Nat.and_two_pow_sub_one_eq_mod (n % 18446744073709551616).toNat 12
 rw [e,wrapI _ (by omega) (by omega)]
 omega
def fieldsL:List (List Bool):=[[false,false,false,false,false,false],[true,true,true,false,false,false],[true,true,false,true,false,false],[false,true,true,true,false,false],[false,true,true,true,false,false],[true,false,false,true,false,false],[true,false,false,true,false,false],[true,true,false,true,false,false],[true,true,false,true,false,false],[true,true,false,false,true,false],[true,true,false,false,true,false],[true,true,true,false,false,true],[true,true,false,false,false,true],[false,false,false,false,false,false],[false,true,true,false,false,false]]
def fieldsV (f:Nat):Value:=.tuple ((fieldsL.getD f []).map Value.bool).toArray
def fitsN (f:Nat) (n:Int):Bool:=match f with
 | 2 | 3=>decide (-2048≤n∧n≤2047)
 | 4=>decide (-4096≤n∧n≤4095∧n % 2=0)
 | 5=>decide (-2147483648≤n∧n≤2147483647∧n % 4096=0)
 | 6=>decide (-1048576≤n∧n<1048576∧n % 2=0)
 | 7=>decide (0≤n∧n≤63)
 | 8=>decide (0≤n∧n≤31)
 | _=>true
section
variable {h:Hp} {K:Value→Hp→Prop} {E:List PanicEntry→Hp→Prop}
theorem fields0_x (hk:K (.tuple #[.bool false,.bool false,.bool false,.bool false,.bool false,.bool false]) h):X Tryz.prog 151 #[.int .i64 0] h K:=by
 refine fnv (args:=_) mixed [] [] [] Tryz.func151 rfl (by kernel_rfl) (cw_ ?_)
 exact hk
theorem fields1_x (hk:K (.tuple #[.bool true,.bool true,.bool true,.bool false,.bool false,.bool false]) h):X Tryz.prog 151 #[.int .i64 1] h K:=by
 refine fnv (args:=_) mixed [] [] [] Tryz.func151 rfl (by kernel_rfl) (cw_ ?_)
 exact hk
theorem fields2_x (hk:K (.tuple #[.bool true,.bool true,.bool false,.bool true,.bool false,.bool false]) h):X Tryz.prog 151 #[.int .i64 2] h K:=by
 refine fnv (args:=_) mixed [] [] [] Tryz.func151 rfl (by kernel_rfl) (cw_ ?_)
 exact hk
theorem fields3_x (hk:K (.tuple #[.bool false,.bool true,.bool true,.bool true,.bool false,.bool false]) h):X Tryz.prog 151 #[.int .i64 3] h K:=by
 refine fnv (args:=_) mixed [] [] [] Tryz.func151 rfl (by kernel_rfl) (cw_ ?_)
 exact hk
theorem fields4_x (hk:K (.tuple #[.bool false,.bool true,.bool true,.bool true,.bool false,.bool false]) h):X Tryz.prog 151 #[.int .i64 4] h K:=by
 refine fnv (args:=_) mixed [] [] [] Tryz.func151 rfl (by kernel_rfl) (cw_ ?_)
 exact hk
theorem fields5_x (hk:K (.tuple #[.bool true,.bool false,.bool false,.bool true,.bool false,.bool false]) h):X Tryz.prog 151 #[.int .i64 5] h K:=by
 refine fnv (args:=_) mixed [] [] [] Tryz.func151 rfl (by kernel_rfl) (cw_ ?_)
 exact hk
theorem fields6_x (hk:K (.tuple #[.bool true,.bool false,.bool false,.bool true,.bool false,.bool false]) h):X Tryz.prog 151 #[.int .i64 6] h K:=by
 refine fnv (args:=_) mixed [] [] [] Tryz.func151 rfl (by kernel_rfl) (cw_ ?_)
 exact hk
theorem fields7_x (hk:K (.tuple #[.bool true,.bool true,.bool false,.bool true,.bool false,.bool false]) h):X Tryz.prog 151 #[.int .i64 7] h K:=by
 refine fnv (args:=_) mixed [] [] [] Tryz.func151 rfl (by kernel_rfl) (cw_ ?_)
 exact hk
theorem fields8_x (hk:K (.tuple #[.bool true,.bool true,.bool false,.bool true,.bool false,.bool false]) h):X Tryz.prog 151 #[.int .i64 8] h K:=by
 refine fnv (args:=_) mixed [] [] [] Tryz.func151 rfl (by kernel_rfl) (cw_ ?_)
 exact hk
theorem fields9_x (hk:K (.tuple #[.bool true,.bool true,.bool false,.bool false,.bool true,.bool false]) h):X Tryz.prog 151 #[.int .i64 9] h K:=by
 refine fnv (args:=_) mixed [] [] [] Tryz.func151 rfl (by kernel_rfl) (cw_ ?_)
 exact hk
theorem fields10_x (hk:K (.tuple #[.bool true,.bool true,.bool false,.bool false,.bool true,.bool false]) h):X Tryz.prog 151 #[.int .i64 10] h K:=by
 refine fnv (args:=_) mixed [] [] [] Tryz.func151 rfl (by kernel_rfl) (cw_ ?_)
 exact hk
theorem fields11_x (hk:K (.tuple #[.bool true,.bool true,.bool true,.bool false,.bool false,.bool true]) h):X Tryz.prog 151 #[.int .i64 11] h K:=by
 refine fnv (args:=_) mixed [] [] [] Tryz.func151 rfl (by kernel_rfl) (cw_ ?_)
 exact hk
theorem fields12_x (hk:K (.tuple #[.bool true,.bool true,.bool false,.bool false,.bool false,.bool true]) h):X Tryz.prog 151 #[.int .i64 12] h K:=by
 refine fnv (args:=_) mixed [] [] [] Tryz.func151 rfl (by kernel_rfl) (cw_ ?_)
 exact hk
theorem fields13_x (hk:K (.tuple #[.bool false,.bool false,.bool false,.bool false,.bool false,.bool false]) h):X Tryz.prog 151 #[.int .i64 13] h K:=by
 refine fnv (args:=_) mixed [] [] [] Tryz.func151 rfl (by kernel_rfl) (cw_ ?_)
 exact hk
theorem fields14_x (hk:K (.tuple #[.bool false,.bool true,.bool true,.bool false,.bool false,.bool false]) h):X Tryz.prog 151 #[.int .i64 14] h K:=by
 refine fnv (args:=_) mixed [] [] [] Tryz.func151 rfl (by kernel_rfl) (cw_ ?_)
 exact hk
theorem fields_x (f:Nat) (hf:f<15) (hk:K (fieldsV f) h):X Tryz.prog 151 #[.int .i64 f] h K:=by
 match f,hf,hk with
 | 0,_,hk=>exact fields0_x hk
 | 1,_,hk=>exact fields1_x hk
 | 2,_,hk=>exact fields2_x hk
 | 3,_,hk=>exact fields3_x hk
 | 4,_,hk=>exact fields4_x hk
 | 5,_,hk=>exact fields5_x hk
 | 6,_,hk=>exact fields6_x hk
 | 7,_,hk=>exact fields7_x hk
 | 8,_,hk=>exact fields8_x hk
 | 9,_,hk=>exact fields9_x hk
 | 10,_,hk=>exact fields10_x hk
 | 11,_,hk=>exact fields11_x hk
 | 12,_,hk=>exact fields12_x hk
 | 13,_,hk=>exact fields13_x hk
 | 14,_,hk=>exact fields14_x hk
 | f+15,hf,_=>exact absurd hf (by omega)
theorem fits0_x (n:Int) (h1 : -9223372036854775808≤n) (h2:n≤9223372036854775807) (hk:K (.bool (fitsN 0 n)) h):X Tryz.prog 152 #[.int .i64 0,.int .i64 n] h K:=by
 refine fnv (args:=_) mixed [] [] [] Tryz.func152 rfl (by kernel_rfl) (cw_ ?_)
 exact hk
theorem fits1_x (n:Int) (h1 : -9223372036854775808≤n) (h2:n≤9223372036854775807) (hk:K (.bool (fitsN 1 n)) h):X Tryz.prog 152 #[.int .i64 1,.int .i64 n] h K:=by
 refine fnv (args:=_) mixed [] [] [] Tryz.func152 rfl (by kernel_rfl) (cw_ ?_)
 exact hk
theorem fits2_x (n:Int) (h1 : -9223372036854775808≤n) (h2:n≤9223372036854775807) (hk:K (.bool (fitsN 2 n)) h):X Tryz.prog 152 #[.int .i64 2,.int .i64 n] h K:=by
 unfold fitsN at hk
 refine fnv (args:=_) mixed [] [] [] Tryz.func152 rfl (by kernel_rfl) (cw_ ?_)
 refine br_ (fun q1=>?_) fun q1=>?_
 ·conv=>whnf
  exact kq hk (bI (by rw [Bool.eq_iff_iff];simp;omega))
 ·conv=>whnf
  exact kq hk (bI (by rw [Bool.eq_iff_iff];simp;omega))
theorem fits3_x (n:Int) (h1 : -9223372036854775808≤n) (h2:n≤9223372036854775807) (hk:K (.bool (fitsN 3 n)) h):X Tryz.prog 152 #[.int .i64 3,.int .i64 n] h K:=by
 unfold fitsN at hk
 refine fnv (args:=_) mixed [] [] [] Tryz.func152 rfl (by kernel_rfl) (cw_ ?_)
 refine br_ (fun q1=>?_) fun q1=>?_
 ·conv=>whnf
  exact kq hk (bI (by rw [Bool.eq_iff_iff];simp;omega))
 ·conv=>whnf
  exact kq hk (bI (by rw [Bool.eq_iff_iff];simp;omega))
theorem fits4_x (n:Int) (h1 : -9223372036854775808≤n) (h2:n≤9223372036854775807) (hk:K (.bool (fitsN 4 n)) h):X Tryz.prog 152 #[.int .i64 4,.int .i64 n] h K:=by
 unfold fitsN at hk
 refine fnv (args:=_) mixed [] [] [] Tryz.func152 rfl (by kernel_rfl) (cw_ ?_)
 refine br_ (fun q1=>?_) fun q1=>?_
 ·conv=>whnf
  refine br_ (fun q2=>?_) fun q2=>?_
  ·conv=>whnf
   refine val_by (andI1 n) (cw_ ?_)
   exact kq hk (bI (by rw [Bool.eq_iff_iff];simp;omega))
  ·conv=>whnf
   exact kq hk (bI (by rw [Bool.eq_iff_iff];simp;omega))
 ·conv=>whnf
  exact kq hk (bI (by rw [Bool.eq_iff_iff];simp;omega))
theorem fits5_x (n:Int) (h1 : -9223372036854775808≤n) (h2:n≤9223372036854775807) (hk:K (.bool (fitsN 5 n)) h):X Tryz.prog 152 #[.int .i64 5,.int .i64 n] h K:=by
 unfold fitsN at hk
 have hw : -2147483648≤IntKind.i32.wrap n∧IntKind.i32.wrap n≤2147483647∧(IntKind.i32.wrap n=n ↔ -2147483648≤n∧n≤2147483647):=by
  simp [IntKind.wrap_i32];omega
 generalize hr:IntKind.i32.wrap n=r at hw
 refine fnv (args:=_) mixed [] [] [] Tryz.func152 rfl (by kernel_rfl) (cw_ ?_)
 refine ov_by hr (cw_ ?_)
 refine ov_i64 (by omega) (cw_ ?_)
 refine br_ (fun q1=>?_) fun q1=>?_
 ·conv=>whnf
  refine val_by (andI12 n) (cw_ ?_)
  exact kq hk (bI (by rw [Bool.eq_iff_iff];simp;omega))
 ·conv=>whnf
  exact kq hk (bI (by rw [Bool.eq_iff_iff];simp;omega))
theorem fits6_x (n:Int) (h1 : -9223372036854775808≤n) (h2:n≤9223372036854775807) (hk:K (.bool (fitsN 6 n)) h):X Tryz.prog 152 #[.int .i64 6,.int .i64 n] h K:=by
 unfold fitsN at hk
 refine fnv (args:=_) mixed [] [] [] Tryz.func152 rfl (by kernel_rfl) (cw_ ?_)
 refine br_ (fun q1=>?_) fun q1=>?_
 ·conv=>whnf
  refine br_ (fun q2=>?_) fun q2=>?_
  ·conv=>whnf
   refine val_by (andI1 n) (cw_ ?_)
   exact kq hk (bI (by rw [Bool.eq_iff_iff];simp;omega))
  ·conv=>whnf
   exact kq hk (bI (by rw [Bool.eq_iff_iff];simp;omega))
 ·conv=>whnf
  exact kq hk (bI (by rw [Bool.eq_iff_iff];simp;omega))
theorem fits7_x (n:Int) (h1 : -9223372036854775808≤n) (h2:n≤9223372036854775807) (hk:K (.bool (fitsN 7 n)) h):X Tryz.prog 152 #[.int .i64 7,.int .i64 n] h K:=by
 unfold fitsN at hk
 refine fnv (args:=_) mixed [] [] [] Tryz.func152 rfl (by kernel_rfl) (cw_ ?_)
 refine br_ (fun q1=>?_) fun q1=>?_
 ·conv=>whnf
  exact kq hk (bI (by rw [Bool.eq_iff_iff];simp;omega))
 ·conv=>whnf
  exact kq hk (bI (by rw [Bool.eq_iff_iff];simp;omega))
theorem fits8_x (n:Int) (h1 : -9223372036854775808≤n) (h2:n≤9223372036854775807) (hk:K (.bool (fitsN 8 n)) h):X Tryz.prog 152 #[.int .i64 8,.int .i64 n] h K:=by
 unfold fitsN at hk
 refine fnv (args:=_) mixed [] [] [] Tryz.func152 rfl (by kernel_rfl) (cw_ ?_)
 refine br_ (fun q1=>?_) fun q1=>?_
 ·conv=>whnf
  exact kq hk (bI (by rw [Bool.eq_iff_iff];simp;omega))
 ·conv=>whnf
  exact kq hk (bI (by rw [Bool.eq_iff_iff];simp;omega))
theorem fits9_x (n:Int) (h1 : -9223372036854775808≤n) (h2:n≤9223372036854775807) (hk:K (.bool (fitsN 9 n)) h):X Tryz.prog 152 #[.int .i64 9,.int .i64 n] h K:=by
 refine fnv (args:=_) mixed [] [] [] Tryz.func152 rfl (by kernel_rfl) (cw_ ?_)
 exact hk
theorem fits10_x (n:Int) (h1 : -9223372036854775808≤n) (h2:n≤9223372036854775807) (hk:K (.bool (fitsN 10 n)) h):X Tryz.prog 152 #[.int .i64 10,.int .i64 n] h K:=by
 refine fnv (args:=_) mixed [] [] [] Tryz.func152 rfl (by kernel_rfl) (cw_ ?_)
 exact hk
theorem fits11_x (n:Int) (h1 : -9223372036854775808≤n) (h2:n≤9223372036854775807) (hk:K (.bool (fitsN 11 n)) h):X Tryz.prog 152 #[.int .i64 11,.int .i64 n] h K:=by
 refine fnv (args:=_) mixed [] [] [] Tryz.func152 rfl (by kernel_rfl) (cw_ ?_)
 exact hk
theorem fits12_x (n:Int) (h1 : -9223372036854775808≤n) (h2:n≤9223372036854775807) (hk:K (.bool (fitsN 12 n)) h):X Tryz.prog 152 #[.int .i64 12,.int .i64 n] h K:=by
 refine fnv (args:=_) mixed [] [] [] Tryz.func152 rfl (by kernel_rfl) (cw_ ?_)
 exact hk
theorem fits13_x (n:Int) (h1 : -9223372036854775808≤n) (h2:n≤9223372036854775807) (hk:K (.bool (fitsN 13 n)) h):X Tryz.prog 152 #[.int .i64 13,.int .i64 n] h K:=by
 refine fnv (args:=_) mixed [] [] [] Tryz.func152 rfl (by kernel_rfl) (cw_ ?_)
 exact hk
theorem fits14_x (n:Int) (h1 : -9223372036854775808≤n) (h2:n≤9223372036854775807) (hk:K (.bool (fitsN 14 n)) h):X Tryz.prog 152 #[.int .i64 14,.int .i64 n] h K:=by
 refine fnv (args:=_) mixed [] [] [] Tryz.func152 rfl (by kernel_rfl) (cw_ ?_)
 exact hk
theorem fits_x (f:Nat) (hf:f<15) (n:Int) (h1 : -9223372036854775808≤n) (h2:n≤9223372036854775807) (hk:K (.bool (fitsN f n)) h):X Tryz.prog 152 #[.int .i64 f,.int .i64 n] h K:=by
 match f,hf,hk with
 | 0,_,hk=>exact fits0_x n h1 h2 hk
 | 1,_,hk=>exact fits1_x n h1 h2 hk
 | 2,_,hk=>exact fits2_x n h1 h2 hk
 | 3,_,hk=>exact fits3_x n h1 h2 hk
 | 4,_,hk=>exact fits4_x n h1 h2 hk
 | 5,_,hk=>exact fits5_x n h1 h2 hk
 | 6,_,hk=>exact fits6_x n h1 h2 hk
 | 7,_,hk=>exact fits7_x n h1 h2 hk
 | 8,_,hk=>exact fits8_x n h1 h2 hk
 | 9,_,hk=>exact fits9_x n h1 h2 hk
 | 10,_,hk=>exact fits10_x n h1 h2 hk
 | 11,_,hk=>exact fits11_x n h1 h2 hk
 | 12,_,hk=>exact fits12_x n h1 h2 hk
 | 13,_,hk=>exact fits13_x n h1 h2 hk
 | 14,_,hk=>exact fits14_x n h1 h2 hk
 | f+15,hf,_=>exact absurd hf (by omega)
end
end Go.Proofs.YtdhkjcdneidgaaaGreatDoor
