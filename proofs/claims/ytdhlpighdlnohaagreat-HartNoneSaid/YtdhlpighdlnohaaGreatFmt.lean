/-
  Instructions as text: the ops' formats (printed by a program).
-/
import Derived.Test.YtdhlpighdlnohaaGreatWdD
import Derived.Test.YtdhlpighdlnohaaGreatBitXg
import Derived.Test.YtdhlpighdlnohaaGreatBitP
import Derived.Test.YtdhlpighdlnohaaGreatEvD
set_option linter.unusedSimpArgs false
set_option linter.unusedVariables false
set_option maxHeartbeats 8000000
set_option maxRecDepth 10000
set_option linter.unusedSimpArgs false
set_option linter.unusedVariables false
namespace Go.Proofs.YtdhlpighdlnohaaGreat
open Go Go.Mid Go.RowKit Go.Bits
attribute [local irreducible] mid
macro "alu_if" : tactic => `(tactic| repeat (first | rw [if_pos (by decide)] | rw [if_neg (by decide)]))
section
variable {h:Hp} {K:Value→Hp→Prop}
theorem atruth_x (q:Bool) (hk:K (ux (if q=true then 1 else 0)) h):X Tryz.prog 356 #[.bool q] h K:=by
 cases q
 ·refine fnv (args:=_) mixed [] [] [] Tryz.func356 rfl (by kernel_rfl) (cw_ ?_)
  exact hk
 ·refine fnv (args:=_) mixed [] [] [] Tryz.func356 rfl (by kernel_rfl) (cw_ ?_)
  exact hk
theorem ite_dec {p:Prop} [Decidable p]:(if decide p=true then (1:Nat) else 0)=if p then 1 else 0:=by by_cases q:p <;> simp [q]
theorem ltI {a b:Nat}:(if ((a:Int)<(b:Int)) then (1:Nat) else 0)=if a<b then 1 else 0:=by simp
theorem wordN_mod (w:Nat):wordN (w % 18446744073709551616)=wordN w:=by unfold wordN;rw [show w % 18446744073709551616 % 4294967296=w % 4294967296 by omega]
theorem aplain_x (n:Int) (hn:22≤n∧n≤40) (a b:Nat) (ha:a<2 ^ 64) (hb:b<2 ^ 64) (hk:K (ux (aluN n a b)) h):X Tryz.prog 283 #[.int .i64 n,ux a,ux b] h K:=by
 have hc:n=22∨n=23∨n=24∨n=25∨n=26∨n=27∨n=28∨n=29∨n=30∨n=31∨n=32∨n=33∨n=34∨n=35∨n=36∨n=37∨n=38∨n=39∨n=40:=by omega
 rcases hc with rfl | rfl | rfl | rfl | rfl | rfl | rfl | rfl | rfl | rfl | rfl | rfl | rfl | rfl | rfl | rfl | rfl | rfl | rfl
 ·rw [show aluN 22 a b=((a+b) % 18446744073709551616) by unfold aluN;alu_if] at hk
  clear hn
  refine fnv (args:=_) mixed [] [] [] Tryz.func283 rfl (by kernel_rfl) (cw_ ?_)
  refine ov_by (addW a b) (cw_ ?_)
  exact hk
 ·rw [show aluN 23 a b=(if sgN a<sgN b then 1 else 0) by unfold aluN;alu_if] at hk
  clear hn
  refine fnv (args:=_) mixed [] [] [] Tryz.func283 rfl (by kernel_rfl) (cw_ ?_)
  refine bless_x a b ha hb (cw_ ?_)
  refine atruth_x _ (cw_ ?_)
  rw [ite_dec]
  exact hk
 ·rw [show aluN 24 a b=(if a<b then 1 else 0) by unfold aluN;alu_if] at hk
  clear hn
  refine fnv (args:=_) mixed [] [] [] Tryz.func283 rfl (by kernel_rfl) (cw_ ?_)
  refine atruth_x _ (cw_ ?_)
  rw [ite_dec,ltI]
  exact hk
 ·rw [show aluN 25 a b=(a ^^^ b) by unfold aluN;alu_if] at hk
  clear hn
  refine fnv (args:=_) mixed [] [] [] Tryz.func283 rfl (by kernel_rfl) (cw_ ?_)
  refine val_by (xor64 ha hb) (cw_ ?_)
  exact hk
 ·rw [show aluN 26 a b=(a ||| b) by unfold aluN;alu_if] at hk
  clear hn
  refine fnv (args:=_) mixed [] [] [] Tryz.func283 rfl (by kernel_rfl) (cw_ ?_)
  refine val_by (or64 ha hb) (cw_ ?_)
  exact hk
 ·rw [show aluN 27 a b=(a &&& b) by unfold aluN;alu_if] at hk
  clear hn
  refine fnv (args:=_) mixed [] [] [] Tryz.func283 rfl (by kernel_rfl) (cw_ ?_)
  refine val_by (and64 ha hb) (cw_ ?_)
  exact hk
 ·rw [show aluN 28 a b=(a*2 ^ (b % 64) % 18446744073709551616) by unfold aluN;alu_if] at hk
  clear hn
  refine fnv (args:=_) mixed [] [] [] Tryz.func283 rfl (by kernel_rfl) (cw_ ?_)
  refine bsll_x a b hb (cw_ ?_)
  exact hk
 ·rw [show aluN 29 a b=(a / 2 ^ (b % 64)) by unfold aluN;alu_if] at hk
  clear hn
  refine fnv (args:=_) mixed [] [] [] Tryz.func283 rfl (by kernel_rfl) (cw_ ?_)
  refine bsrl_x a b ha hb (cw_ ?_)
  exact hk
 ·rw [show aluN 30 a b=(ofI (sgN a / 2 ^ (b % 64))) by unfold aluN;alu_if] at hk
  clear hn
  refine fnv (args:=_) mixed [] [] [] Tryz.func283 rfl (by kernel_rfl) (cw_ ?_)
  refine bsra_x a b ha hb (cw_ ?_)
  exact hk
 ·rw [show aluN 31 a b=((a+b) % 18446744073709551616) by unfold aluN;alu_if] at hk
  clear hn
  refine fnv (args:=_) mixed [] [] [] Tryz.func283 rfl (by kernel_rfl) (cw_ ?_)
  refine ov_by (addW a b) (cw_ ?_)
  exact hk
 ·rw [show aluN 32 a b=((a+18446744073709551616 - b) % 18446744073709551616) by unfold aluN;alu_if] at hk
  clear hn
  refine fnv (args:=_) mixed [] [] [] Tryz.func283 rfl (by kernel_rfl) (cw_ ?_)
  refine ov_by (subW a (Nat.le_of_lt hb)) (cw_ ?_)
  exact hk
 ·rw [show aluN 33 a b=(a*2 ^ (b % 64) % 18446744073709551616) by unfold aluN;alu_if] at hk
  clear hn
  refine fnv (args:=_) mixed [] [] [] Tryz.func283 rfl (by kernel_rfl) (cw_ ?_)
  refine bsll_x a b hb (cw_ ?_)
  exact hk
 ·rw [show aluN 34 a b=(if sgN a<sgN b then 1 else 0) by unfold aluN;alu_if] at hk
  clear hn
  refine fnv (args:=_) mixed [] [] [] Tryz.func283 rfl (by kernel_rfl) (cw_ ?_)
  refine bless_x a b ha hb (cw_ ?_)
  refine atruth_x _ (cw_ ?_)
  rw [ite_dec]
  exact hk
 ·rw [show aluN 35 a b=(if a<b then 1 else 0) by unfold aluN;alu_if] at hk
  clear hn
  refine fnv (args:=_) mixed [] [] [] Tryz.func283 rfl (by kernel_rfl) (cw_ ?_)
  refine atruth_x _ (cw_ ?_)
  rw [ite_dec,ltI]
  exact hk
 ·rw [show aluN 36 a b=(a ^^^ b) by unfold aluN;alu_if] at hk
  clear hn
  refine fnv (args:=_) mixed [] [] [] Tryz.func283 rfl (by kernel_rfl) (cw_ ?_)
  refine val_by (xor64 ha hb) (cw_ ?_)
  exact hk
 ·rw [show aluN 37 a b=(a / 2 ^ (b % 64)) by unfold aluN;alu_if] at hk
  clear hn
  refine fnv (args:=_) mixed [] [] [] Tryz.func283 rfl (by kernel_rfl) (cw_ ?_)
  refine bsrl_x a b ha hb (cw_ ?_)
  exact hk
 ·rw [show aluN 38 a b=(ofI (sgN a / 2 ^ (b % 64))) by unfold aluN;alu_if] at hk
  clear hn
  refine fnv (args:=_) mixed [] [] [] Tryz.func283 rfl (by kernel_rfl) (cw_ ?_)
  refine bsra_x a b ha hb (cw_ ?_)
  exact hk
 ·rw [show aluN 39 a b=(a ||| b) by unfold aluN;alu_if] at hk
  clear hn
  refine fnv (args:=_) mixed [] [] [] Tryz.func283 rfl (by kernel_rfl) (cw_ ?_)
  refine val_by (or64 ha hb) (cw_ ?_)
  exact hk
 ·rw [show aluN 40 a b=(a &&& b) by unfold aluN;alu_if] at hk
  clear hn
  refine fnv (args:=_) mixed [] [] [] Tryz.func283 rfl (by kernel_rfl) (cw_ ?_)
  refine val_by (and64 ha hb) (cw_ ?_)
  exact hk
end
end Go.Proofs.YtdhlpighdlnohaaGreat
namespace Go.Proofs.YtdhlpighdlnohaaGreat
open Go Go.Mid Go.RowKit Go.Bits
attribute [local irreducible] mid
section
variable {h:Hp} {K:Value→Hp→Prop}
theorem anarrow_x (n:Int) (hn:41≤n∧n≤49) (a b:Nat) (ha:a<2 ^ 64) (hb:b<2 ^ 64) (hk:K (ux (aluN n a b)) h):X Tryz.prog 282 #[.int .i64 n,ux a,ux b] h K:=by
 have hc:n=41∨n=42∨n=43∨n=44∨n=45∨n=46∨n=47∨n=48∨n=49:=by omega
 rcases hc with rfl | rfl | rfl | rfl | rfl | rfl | rfl | rfl | rfl
 ·rw [show aluN 41 a b=(wordN (a+b)) by unfold aluN;alu_if] at hk
  clear hn
  refine fnv (args:=_) mixed [] [] [] Tryz.func282 rfl (by kernel_rfl) (cw_ ?_)
  refine ov_by (addW a b) (cw_ ?_)
  refine bword'_x _ (Nat.mod_lt _ (by decide)) (cw_ ?_)
  rw [wordN_mod]
  exact hk
 ·rw [show aluN 42 a b=(wordN (a % 4294967296*2 ^ (b % 32))) by unfold aluN;alu_if] at hk
  clear hn
  refine fnv (args:=_) mixed [] [] [] Tryz.func282 rfl (by kernel_rfl) (cw_ ?_)
  refine bsllw_x a b ha hb (cw_ ?_)
  exact hk
 ·rw [show aluN 43 a b=(wordN (a % 4294967296 / 2 ^ (b % 32))) by unfold aluN;alu_if] at hk
  clear hn
  refine fnv (args:=_) mixed [] [] [] Tryz.func282 rfl (by kernel_rfl) (cw_ ?_)
  refine bsrlw_x a b ha hb (cw_ ?_)
  exact hk
 ·rw [show aluN 44 a b=(ofI (sg32 (a % 4294967296) / 2 ^ (b % 32))) by unfold aluN;alu_if] at hk
  clear hn
  refine fnv (args:=_) mixed [] [] [] Tryz.func282 rfl (by kernel_rfl) (cw_ ?_)
  refine bsraw_x a b ha hb (cw_ ?_)
  exact hk
 ·rw [show aluN 45 a b=(wordN (a+b)) by unfold aluN;alu_if] at hk
  clear hn
  refine fnv (args:=_) mixed [] [] [] Tryz.func282 rfl (by kernel_rfl) (cw_ ?_)
  refine ov_by (addW a b) (cw_ ?_)
  refine bword'_x _ (Nat.mod_lt _ (by decide)) (cw_ ?_)
  rw [wordN_mod]
  exact hk
 ·rw [show aluN 46 a b=(wordN (a+18446744073709551616 - b)) by unfold aluN;alu_if] at hk
  clear hn
  refine fnv (args:=_) mixed [] [] [] Tryz.func282 rfl (by kernel_rfl) (cw_ ?_)
  refine ov_by (subW a (Nat.le_of_lt hb)) (cw_ ?_)
  refine bword'_x _ (Nat.mod_lt _ (by decide)) (cw_ ?_)
  rw [wordN_mod]
  exact hk
 ·rw [show aluN 47 a b=(wordN (a % 4294967296*2 ^ (b % 32))) by unfold aluN;alu_if] at hk
  clear hn
  refine fnv (args:=_) mixed [] [] [] Tryz.func282 rfl (by kernel_rfl) (cw_ ?_)
  refine bsllw_x a b ha hb (cw_ ?_)
  exact hk
 ·rw [show aluN 48 a b=(wordN (a % 4294967296 / 2 ^ (b % 32))) by unfold aluN;alu_if] at hk
  clear hn
  refine fnv (args:=_) mixed [] [] [] Tryz.func282 rfl (by kernel_rfl) (cw_ ?_)
  refine bsrlw_x a b ha hb (cw_ ?_)
  exact hk
 ·rw [show aluN 49 a b=(ofI (sg32 (a % 4294967296) / 2 ^ (b % 32))) by unfold aluN;alu_if] at hk
  clear hn
  refine fnv (args:=_) mixed [] [] [] Tryz.func282 rfl (by kernel_rfl) (cw_ ?_)
  refine bsraw_x a b ha hb (cw_ ?_)
  exact hk
theorem ashort_x (n:Int) (hn:62≤n∧n≤66) (a b:Nat) (ha:a<2 ^ 64) (hb:b<2 ^ 64) (hk:K (ux (aluN n a b)) h):X Tryz.prog 281 #[.int .i64 n,ux a,ux b] h K:=by
 have hc:n=62∨n=63∨n=64∨n=65∨n=66:=by omega
 rcases hc with rfl | rfl | rfl | rfl | rfl
 ·rw [show aluN 62 a b=(wordN (mulN (wordN a) (wordN b))) by unfold aluN;alu_if] at hk
  clear hn
  refine fnv (args:=_) mixed [] [] [] Tryz.func281 rfl (by kernel_rfl) (cw_ ?_)
  refine shortMul_x a b ha hb (cw_ ?_)
  exact hk
 ·rw [show aluN 63 a b=(wordN (divN (wordN a) (wordN b))) by unfold aluN;alu_if] at hk
  clear hn
  refine fnv (args:=_) mixed [] [] [] Tryz.func281 rfl (by kernel_rfl) (cw_ ?_)
  refine shortDiv_x a b ha hb (cw_ ?_)
  exact hk
 ·rw [show aluN 64 a b=(wordN (divuN (a % 4294967296) (b % 4294967296))) by unfold aluN;alu_if] at hk
  clear hn
  refine fnv (args:=_) mixed [] [] [] Tryz.func281 rfl (by kernel_rfl) (cw_ ?_)
  refine shortDivu_x a b ha hb (cw_ ?_)
  exact hk
 ·rw [show aluN 65 a b=(wordN (remN (wordN a) (wordN b))) by unfold aluN;alu_if] at hk
  clear hn
  refine fnv (args:=_) mixed [] [] [] Tryz.func281 rfl (by kernel_rfl) (cw_ ?_)
  refine shortRem_x a b ha hb (cw_ ?_)
  exact hk
 ·rw [show aluN 66 a b=(wordN (remuN (a % 4294967296) (b % 4294967296))) by unfold aluN;alu_if] at hk
  clear hn
  refine fnv (args:=_) mixed [] [] [] Tryz.func281 rfl (by kernel_rfl) (cw_ ?_)
  refine shortRemu_x a b ha hb (cw_ ?_)
  exact hk
end
end Go.Proofs.YtdhlpighdlnohaaGreat
namespace Go.Proofs.YtdhlpighdlnohaaGreat
open Go Go.Mid Go.RowKit Go.Bits
attribute [local irreducible] mid
theorem class_alu (n:Int):aluB n=true↔classN n=1:=by
 unfold aluB classN
 rw [decide_eq_true_iff]
 repeat' split
 all_goals omega
section
variable {h:Hp} {K:Value→Hp→Prop}
theorem product54_x (hk:K (.func (.func 341) #[] #[]) h):X Tryz.prog 280 #[.int .i64 54] h K:=by
 refine fnv (args:=_) mixed [] [] [] Tryz.func280 rfl (by kernel_rfl) (cw_ ?_)
 exact hk
theorem product55_x (hk:K (.func (.func 342) #[] #[]) h):X Tryz.prog 280 #[.int .i64 55] h K:=by
 refine fnv (args:=_) mixed [] [] [] Tryz.func280 rfl (by kernel_rfl) (cw_ ?_)
 exact hk
theorem product56_x (hk:K (.func (.func 343) #[] #[]) h):X Tryz.prog 280 #[.int .i64 56] h K:=by
 refine fnv (args:=_) mixed [] [] [] Tryz.func280 rfl (by kernel_rfl) (cw_ ?_)
 exact hk
theorem product57_x (hk:K (.func (.func 344) #[] #[]) h):X Tryz.prog 280 #[.int .i64 57] h K:=by
 refine fnv (args:=_) mixed [] [] [] Tryz.func280 rfl (by kernel_rfl) (cw_ ?_)
 exact hk
theorem product58_x (hk:K (.func (.func 345) #[] #[]) h):X Tryz.prog 280 #[.int .i64 58] h K:=by
 refine fnv (args:=_) mixed [] [] [] Tryz.func280 rfl (by kernel_rfl) (cw_ ?_)
 exact hk
theorem product59_x (hk:K (.func (.func 346) #[] #[]) h):X Tryz.prog 280 #[.int .i64 59] h K:=by
 refine fnv (args:=_) mixed [] [] [] Tryz.func280 rfl (by kernel_rfl) (cw_ ?_)
 exact hk
theorem product60_x (hk:K (.func (.func 347) #[] #[]) h):X Tryz.prog 280 #[.int .i64 60] h K:=by
 refine fnv (args:=_) mixed [] [] [] Tryz.func280 rfl (by kernel_rfl) (cw_ ?_)
 exact hk
theorem product61_x (hk:K (.func (.func 348) #[] #[]) h):X Tryz.prog 280 #[.int .i64 61] h K:=by
 refine fnv (args:=_) mixed [] [] [] Tryz.func280 rfl (by kernel_rfl) (cw_ ?_)
 exact hk
theorem ado_x (n:Int) (a b:Nat) (ha:a<2 ^ 64) (hb:b<2 ^ 64) (hk:K (.tuple #[ux (if aluB n=true then aluN n a b else 0),.bool (aluB n)]) h):X Tryz.prog 175 #[.int .i64 n,ux a,ux b] h K:=by
 by_cases hc:aluB n=true
 rotate_left
 ·rw [if_neg hc,Bool.eq_false_iff.2 hc] at hk
  have hc':classN n≠1:=fun e=>hc ((class_alu n).2 e)
  refine fnv (args:=_) mixed [] [] [] Tryz.func175 rfl (by kernel_rfl) (cw_ ?_)
  refine class_x n ?_
  generalize classN n=c at *
  conv=>whnf
  refine bt_ ?_ (by simpa using hc')
  exact hk
 rw [if_pos hc,hc] at hk
 have hc':=(class_alu n).1 hc
 have hr:(22≤n∧n≤49)∨(54≤n∧n≤66):=by simpa [aluB] using hc
 by_cases q1:54≤n∧n≤61
 ·have hcs:n=54∨n=55∨n=56∨n=57∨n=58∨n=59∨n=60∨n=61:=by omega
  clear hr q1 hc
  rcases hcs with rfl | rfl | rfl | rfl | rfl | rfl | rfl | rfl
  ·rw [show aluN 54 a b=(mulN a b) by unfold aluN;alu_if] at hk
   refine fnv (args:=_) mixed [] [] [] Tryz.func175 rfl (by kernel_rfl) (cw_ ?_)
   refine class_x 54 ?_
   rw [hc']
   conv=>whnf
   refine product54_x (cw_ ?_)
   refine wmul_x a b (cw_ ?_)
   exact hk
  ·rw [show aluN 55 a b=(ofI (sgN a*sgN b / 18446744073709551616)) by unfold aluN;alu_if] at hk
   refine fnv (args:=_) mixed [] [] [] Tryz.func175 rfl (by kernel_rfl) (cw_ ?_)
   refine class_x 55 ?_
   rw [hc']
   conv=>whnf
   refine product55_x (cw_ ?_)
   refine high_x a b ha hb (cw_ ?_)
   exact hk
  ·rw [show aluN 56 a b=(ofI (sgN a*b / 18446744073709551616)) by unfold aluN;alu_if] at hk
   refine fnv (args:=_) mixed [] [] [] Tryz.func175 rfl (by kernel_rfl) (cw_ ?_)
   refine class_x 56 ?_
   rw [hc']
   conv=>whnf
   refine product56_x (cw_ ?_)
   refine highMixed_x a b ha hb (cw_ ?_)
   exact hk
  ·rw [show aluN 57 a b=(a*b / 18446744073709551616) by unfold aluN;alu_if] at hk
   refine fnv (args:=_) mixed [] [] [] Tryz.func175 rfl (by kernel_rfl) (cw_ ?_)
   refine class_x 57 ?_
   rw [hc']
   conv=>whnf
   refine product57_x (cw_ ?_)
   refine highPlain_x a b ha hb (cw_ ?_)
   exact hk
  ·rw [show aluN 58 a b=(divN a b) by unfold aluN;alu_if] at hk
   refine fnv (args:=_) mixed [] [] [] Tryz.func175 rfl (by kernel_rfl) (cw_ ?_)
   refine class_x 58 ?_
   rw [hc']
   conv=>whnf
   refine product58_x (cw_ ?_)
   refine wdiv_x a b ha hb (cw_ ?_)
   exact hk
  ·rw [show aluN 59 a b=(divuN a b) by unfold aluN;alu_if] at hk
   refine fnv (args:=_) mixed [] [] [] Tryz.func175 rfl (by kernel_rfl) (cw_ ?_)
   refine class_x 59 ?_
   rw [hc']
   conv=>whnf
   refine product59_x (cw_ ?_)
   refine wdivu_x a b ha (cw_ ?_)
   exact hk
  ·rw [show aluN 60 a b=(remN a b) by unfold aluN;alu_if] at hk
   refine fnv (args:=_) mixed [] [] [] Tryz.func175 rfl (by kernel_rfl) (cw_ ?_)
   refine class_x 60 ?_
   rw [hc']
   conv=>whnf
   refine product60_x (cw_ ?_)
   refine wrem_x a b ha hb (cw_ ?_)
   exact hk
  ·rw [show aluN 61 a b=(remuN a b) by unfold aluN;alu_if] at hk
   refine fnv (args:=_) mixed [] [] [] Tryz.func175 rfl (by kernel_rfl) (cw_ ?_)
   refine class_x 61 ?_
   rw [hc']
   conv=>whnf
   refine product61_x (cw_ ?_)
   refine wremu_x a b ha hb (cw_ ?_)
   exact hk
 refine fnv (args:=_) mixed [] [] [] Tryz.func175 rfl (by kernel_rfl) (cw_ ?_)
 refine class_x n ?_
 rw [hc']
 conv=>whnf
 by_cases q2:62≤n
 ·rw [show decide (54≤n)=true by simpa using (show (54:Int)≤n by omega)]
  conv=>whnf
  rw [show decide (n≤61)=false by simpa using (show (61:Int)<n by omega)]
  conv=>whnf
  refine bt_ ?_ (by simpa using q2)
  refine ashort_x n (by omega) a b ha hb (cw_ ?_)
  exact hk
 ·rw [show decide (54≤n)=false by simpa using (show n<(54:Int) by omega)]
  conv=>whnf
  refine bf_ ?_ (by simpa using (show n<(62:Int) by omega))
  refine br_ (fun q3=>?_) fun q3=>?_
  ·conv=>whnf
   refine anarrow_x n (by omega) a b ha hb (cw_ ?_)
   exact hk
  ·conv=>whnf
   refine aplain_x n (by omega) a b ha hb (cw_ ?_)
   exact hk
theorem addI (a:Nat) (n:Int):IntKind.u64.wrap ((a:Int)+((ofI n:Nat):Int))=(((a+ofI n) % 18446744073709551616:Nat):Int):=addW a (ofI n)
theorem aup_x (n:Int) (hn:n=1∨n=2) (pc:Nat) (imm:Int) (hk:K (.tuple #[ux (upN n pc imm),.bool true]) h):X Tryz.prog 176 #[.int .i64 n,ux pc,.int .i64 imm] h K:=by
 rcases hn with rfl | rfl
 ·rw [show upN 1 pc imm=ofI imm by unfold upN;alu_if] at hk
  refine fnv (args:=_) mixed [] [] [] Tryz.func176 rfl (by kernel_rfl) (cw_ ?_)
  refine ov_by (u64ofI imm) ?_
  exact hk
 ·rw [show upN 2 pc imm=(pc+ofI imm) % 18446744073709551616 by unfold upN;alu_if] at hk
  refine fnv (args:=_) mixed [] [] [] Tryz.func176 rfl (by kernel_rfl) (cw_ ?_)
  refine ov_by (u64ofI imm) (cw_ ?_)
  refine ov_by (addI pc imm) ?_
  exact hk
theorem bJ {a b:Bool} {c:Value} (e:a=b):Value.tuple #[.bool a,c]=Value.tuple #[.bool b,c]:=by rw [e]
def takeB (n:Int):Bool:=decide (5≤n∧n≤10)
theorem ataken_x (n:Int) (a b:Nat) (ha:a<2 ^ 64) (hb:b<2 ^ 64) (hk:K (.tuple #[.bool (takenB n a b),.bool (takeB n)]) h):X Tryz.prog 284 #[.int .i64 n,ux a,ux b] h K:=by
 by_cases hn:5≤n∧n≤10
 ·have hcs:n=5∨n=6∨n=7∨n=8∨n=9∨n=10:=by omega
  clear hn
  rcases hcs with rfl | rfl | rfl | rfl | rfl | rfl
  ·rw [show takenB 5 a b=decide (a=b) by unfold takenB;alu_if] at hk
   refine fnv (args:=_) mixed [] [] [] Tryz.func284 rfl (by kernel_rfl) (cw_ ?_)
   exact kq hk (bJ (by rw [Bool.eq_iff_iff];simp;omega))
  ·rw [show takenB 6 a b=decide (a≠b) by unfold takenB;alu_if] at hk
   refine fnv (args:=_) mixed [] [] [] Tryz.func284 rfl (by kernel_rfl) (cw_ ?_)
   exact kq hk (bJ (by rw [Bool.eq_iff_iff];simp;omega))
  ·rw [show takenB 7 a b=decide (sgN a<sgN b) by unfold takenB;alu_if] at hk
   refine fnv (args:=_) mixed [] [] [] Tryz.func284 rfl (by kernel_rfl) (cw_ ?_)
   refine bless_x a b ha hb (cw_ ?_)
   exact hk
  ·rw [show takenB 8 a b=decide (sgN b≤sgN a) by unfold takenB;alu_if] at hk
   refine fnv (args:=_) mixed [] [] [] Tryz.func284 rfl (by kernel_rfl) (cw_ ?_)
   refine bless_x a b ha hb (cw_ ?_)
   exact kq hk (bJ (by rw [Bool.eq_iff_iff];simp))
  ·rw [show takenB 9 a b=decide (a<b) by unfold takenB;alu_if] at hk
   refine fnv (args:=_) mixed [] [] [] Tryz.func284 rfl (by kernel_rfl) (cw_ ?_)
   exact kq hk (bJ (by simp))
  ·rw [show takenB 10 a b=decide (b≤a) by unfold takenB;alu_if] at hk
   refine fnv (args:=_) mixed [] [] [] Tryz.func284 rfl (by kernel_rfl) (cw_ ?_)
   exact kq hk (bJ (by simp))
 ·rw [show takenB n a b=false by unfold takenB;repeat (rw [if_neg (by omega)])] at hk
  rw [show takeB n=false by simpa [takeB] using (show 5≤n→10<n by omega)] at hk
  refine fnv (args:=_) mixed [] [] [] Tryz.func284 rfl (by kernel_rfl) (cw_ ?_)
  refine bf_ ?_
  refine bf_ ?_
  refine bf_ ?_
  refine bf_ ?_
  refine bf_ ?_
  refine bf_ ?_
  exact hk
theorem andN1 (t:Nat) (ht:t<2 ^ 64):andN t 1=t / 2*2:=by
 have hlt:t / 2*2<2 ^ 64:=Nat.lt_of_le_of_lt (Nat.div_mul_le_self _ _) ht
 refine eq_bits (andN_lt _ _) hlt fun i hi=>?_
 rw [andN_bit,if_pos hi,show t / 2*2=t / 2 ^ 1*2 ^ 1 from rfl,bit_mul]
 by_cases h1:1≤i
 ·have:bitN 1 i=0:=bit_high (show 1<2 ^ 1 by decide) h1
  rw [this,if_neg (by decide),if_pos h1,bit_div]
  congr 1;omega
 ·have h0:i=0:=by omega
  subst h0
  rw [if_pos (by decide),if_neg h1]
theorem atarget_x (n:Int) (pc base:Nat) (imm:Int) (hk:K (.tuple #[ux (if 3≤n∧n≤10 then targetN n pc base imm else 0),.bool (decide (3≤n∧n≤10))]) h):X Tryz.prog 285 #[.int .i64 n,ux pc,ux base,.int .i64 imm] h K:=by
 refine fnv (args:=_) mixed [] [] [] Tryz.func285 rfl (by kernel_rfl) (cw_ ?_)
 refine class_x n ?_
 have c4:classN n=4↔5≤n∧n≤10:=by unfold classN;repeat' split <;> omega
 have c3:classN n=3↔3≤n∧n≤4:=by unfold classN;repeat' split <;> omega
 generalize classN n=c at *
 unfold targetN at hk
 conv=>whnf
 refine br_ (fun q1=>?_) fun q1=>?_
 ·rw [if_pos (by omega),if_neg (by omega),decide_eq_true (by omega)] at hk
  conv=>whnf
  refine ov_by (u64ofI imm) (cw_ ?_)
  refine ov_by (addI pc imm) ?_
  exact hk
 ·conv=>whnf
  refine br_ (fun q2=>?_) fun q2=>?_
  ·rw [if_pos (by omega),decide_eq_true (by omega)] at hk
   conv=>whnf
   refine br_ (fun q3=>?_) fun q3=>?_
   ·rw [if_neg (by omega)] at hk
    conv=>whnf
    refine ov_by (u64ofI imm) (cw_ ?_)
    refine ov_by (addI pc imm) ?_
    exact hk
   ·rw [if_pos (by omega)] at hk
    conv=>whnf
    refine ov_by (u64ofI imm) (cw_ ?_)
    refine ov_by (addI base imm) ?_
    have hl:(base+ofI imm) % 18446744073709551616<2 ^ 64:=Nat.mod_lt _ (by decide)
    generalize (base+ofI imm) % 18446744073709551616=w at *
    conv=>whnf
    refine val_by (andNot64 hl (show 1<2 ^ 64 by decide)) (cw_ ?_)
    rw [andN1 w hl]
    exact hk
  ·rw [if_neg (by omega),decide_eq_false (by omega)] at hk
   exact hk
end
end Go.Proofs.YtdhlpighdlnohaaGreat
namespace Go.Proofs.YtdhlpighdlnohaaGreat
open Go Go.Mid Go.RowKit Go.Bits
attribute [local irreducible] mid
def sufB (s p:Str):Bool:=decide (p.length≤s.length∧s.drop (s.length - p.length)=p)
theorem suf_op:∀ i:Fin 22,sufB (opNames.getD (66+i.val) []) [46,100]=decide (11≤i.val):=by decide +kernel
theorem len_op:∀ i:Fin 98,(opNames.getD i.val []).length≤16:=by decide +kernel
theorem suf_name {n:Int} (hn:67≤n∧n≤88):sufB (opName n) [46,100]=decide (78≤n):=by
 unfold opName
 have e:=suf_op ⟨(n - 67).toNat,by omega⟩
 rw [if_pos (by omega),show n.toNat - 1=66+(n - 67).toNat by omega,e]
 rw [Bool.eq_iff_iff,decide_eq_true_iff,decide_eq_true_iff]
 show 11≤(n - 67).toNat↔_
 omega
theorem len_name (n:Int):(opName n).length≤16:=by
 unfold opName
 split
 ·exact len_op ⟨n.toNat - 1,by omega⟩
 ·decide
theorem class5 {n:Int}:classN n=5↔11≤n∧n≤17:=by unfold classN;repeat' split <;> omega
theorem class6 {n:Int}:classN n=6↔18≤n∧n≤21:=by unfold classN;repeat' split <;> omega
theorem class7 {n:Int}:classN n=7↔67≤n∧n≤88:=by unfold classN;repeat' split <;> omega
section
variable {h:Hp} {K:Value→Hp→Prop}
theorem isuf_x (s p:Str) (hs:s.length≤2 ^ 40) (hp:p.length≤2 ^ 40) (hk:K (.bool (sufB s p)) h):X Tryz.prog 358 #[sv s,sv p] h K:=by
 refine fnv (args:=_) mixed [] [] [] Tryz.func358 rfl (by kernel_rfl) (cw_ ?_)
 refine br_ (fun q1=>?_) fun q1=>?_
 ·conv=>whnf
  rw [bs_size,bs_size]
  refine n_ ?_
  rw [show (s.length:Int) - (p.length:Int)=((s.length - p.length:Nat):Int) by omega]
  conv=>whnf
  refine bt_ ?_ (by rw [bs_size];simp)
  refine sub_from (l:=s) (i:=s.length - p.length) rfl (cw_ ?_)
  refine seq_intro ?_
  rw [show sufB s p=decide (s.drop (s.length - p.length)=p) by unfold sufB;rw [Bool.eq_iff_iff];simp;omega] at hk
  conv=>whnf
  exact hk
 ·rw [show sufB s p=false from decide_eq_false fun hh=>by have:=hh.1;omega] at hk
  conv=>whnf
  exact hk
theorem hsuf_x (s p:Str) (hs:s.length≤2 ^ 40) (hp:p.length≤2 ^ 40) (hk:K (.bool (sufB s p)) h):X Tryz.prog 287 #[sv s,sv p] h K:=by
 refine fnv (args:=_) mixed [] [] [] Tryz.func287 rfl (by kernel_rfl) (cw_ ?_)
 exact isuf_x s p hs hp hk
theorem ksize_x (n:Int) (hk:K (.int .i64 (opSize n)) h):X Tryz.prog 178 #[.int .i64 n] h K:=by
 by_cases q5:11≤n∧n≤17
 ·have hcs:n=11∨n=12∨n=13∨n=14∨n=15∨n=16∨n=17:=by omega
  have hc:=class5.2 q5
  clear q5
  rcases hcs with rfl | rfl | rfl | rfl | rfl | rfl | rfl
  ·rw [show opSize 11=1 by decide] at hk
   refine fnv (args:=_) mixed [] [] [] Tryz.func178 rfl (by kernel_rfl) (cw_ ?_)
   refine class_x 11 ?_
   rw [hc]
   conv=>whnf
   refine ov_by (y:=0) (by decide) (cw_ ?_)
   refine ov_by (y:=0) (by decide) (cw_ ?_)
   refine val_by (y:=0) (by decide) (cw_ ?_)
   refine ov_by (y:=1) (by decide) ?_
   exact hk
  ·rw [show opSize 12=2 by decide] at hk
   refine fnv (args:=_) mixed [] [] [] Tryz.func178 rfl (by kernel_rfl) (cw_ ?_)
   refine class_x 12 ?_
   rw [hc]
   conv=>whnf
   refine ov_by (y:=1) (by decide) (cw_ ?_)
   refine ov_by (y:=1) (by decide) (cw_ ?_)
   refine val_by (y:=1) (by decide) (cw_ ?_)
   refine ov_by (y:=2) (by decide) ?_
   exact hk
  ·rw [show opSize 13=4 by decide] at hk
   refine fnv (args:=_) mixed [] [] [] Tryz.func178 rfl (by kernel_rfl) (cw_ ?_)
   refine class_x 13 ?_
   rw [hc]
   conv=>whnf
   refine ov_by (y:=2) (by decide) (cw_ ?_)
   refine ov_by (y:=2) (by decide) (cw_ ?_)
   refine val_by (y:=2) (by decide) (cw_ ?_)
   refine ov_by (y:=4) (by decide) ?_
   exact hk
  ·rw [show opSize 14=8 by decide] at hk
   refine fnv (args:=_) mixed [] [] [] Tryz.func178 rfl (by kernel_rfl) (cw_ ?_)
   refine class_x 14 ?_
   rw [hc]
   conv=>whnf
   refine ov_by (y:=3) (by decide) (cw_ ?_)
   refine ov_by (y:=3) (by decide) (cw_ ?_)
   refine val_by (y:=3) (by decide) (cw_ ?_)
   refine ov_by (y:=8) (by decide) ?_
   exact hk
  ·rw [show opSize 15=1 by decide] at hk
   refine fnv (args:=_) mixed [] [] [] Tryz.func178 rfl (by kernel_rfl) (cw_ ?_)
   refine class_x 15 ?_
   rw [hc]
   conv=>whnf
   refine ov_by (y:=4) (by decide) (cw_ ?_)
   refine ov_by (y:=4) (by decide) (cw_ ?_)
   refine val_by (y:=0) (by decide) (cw_ ?_)
   refine ov_by (y:=1) (by decide) ?_
   exact hk
  ·rw [show opSize 16=2 by decide] at hk
   refine fnv (args:=_) mixed [] [] [] Tryz.func178 rfl (by kernel_rfl) (cw_ ?_)
   refine class_x 16 ?_
   rw [hc]
   conv=>whnf
   refine ov_by (y:=5) (by decide) (cw_ ?_)
   refine ov_by (y:=5) (by decide) (cw_ ?_)
   refine val_by (y:=1) (by decide) (cw_ ?_)
   refine ov_by (y:=2) (by decide) ?_
   exact hk
  ·rw [show opSize 17=4 by decide] at hk
   refine fnv (args:=_) mixed [] [] [] Tryz.func178 rfl (by kernel_rfl) (cw_ ?_)
   refine class_x 17 ?_
   rw [hc]
   conv=>whnf
   refine ov_by (y:=6) (by decide) (cw_ ?_)
   refine ov_by (y:=6) (by decide) (cw_ ?_)
   refine val_by (y:=2) (by decide) (cw_ ?_)
   refine ov_by (y:=4) (by decide) ?_
   exact hk
 by_cases q6:18≤n∧n≤21
 ·have hcs:n=18∨n=19∨n=20∨n=21:=by omega
  have hc:=class6.2 q6
  clear q6
  rcases hcs with rfl | rfl | rfl | rfl
  ·rw [show opSize 18=1 by decide] at hk
   refine fnv (args:=_) mixed [] [] [] Tryz.func178 rfl (by kernel_rfl) (cw_ ?_)
   refine class_x 18 ?_
   rw [hc]
   conv=>whnf
   refine ov_by (y:=0) (by decide) (cw_ ?_)
   refine ov_by (y:=0) (by decide) (cw_ ?_)
   refine ov_by (y:=1) (by decide) ?_
   exact hk
  ·rw [show opSize 19=2 by decide] at hk
   refine fnv (args:=_) mixed [] [] [] Tryz.func178 rfl (by kernel_rfl) (cw_ ?_)
   refine class_x 19 ?_
   rw [hc]
   conv=>whnf
   refine ov_by (y:=1) (by decide) (cw_ ?_)
   refine ov_by (y:=1) (by decide) (cw_ ?_)
   refine ov_by (y:=2) (by decide) ?_
   exact hk
  ·rw [show opSize 20=4 by decide] at hk
   refine fnv (args:=_) mixed [] [] [] Tryz.func178 rfl (by kernel_rfl) (cw_ ?_)
   refine class_x 20 ?_
   rw [hc]
   conv=>whnf
   refine ov_by (y:=2) (by decide) (cw_ ?_)
   refine ov_by (y:=2) (by decide) (cw_ ?_)
   refine ov_by (y:=4) (by decide) ?_
   exact hk
  ·rw [show opSize 21=8 by decide] at hk
   refine fnv (args:=_) mixed [] [] [] Tryz.func178 rfl (by kernel_rfl) (cw_ ?_)
   refine class_x 21 ?_
   rw [hc]
   conv=>whnf
   refine ov_by (y:=3) (by decide) (cw_ ?_)
   refine ov_by (y:=3) (by decide) (cw_ ?_)
   refine ov_by (y:=8) (by decide) ?_
   exact hk
 have h5:=fun e=>q5 (class5.1 e)
 have h6:=fun e=>q6 (class6.1 e)
 have h7:=@class7 n
 unfold opSize at hk
 refine fnv (args:=_) mixed [] [] [] Tryz.func178 rfl (by kernel_rfl) (cw_ ?_)
 refine class_x n ?_
 generalize classN n=c at *
 conv=>whnf
 refine bf_ ?_ (by simpa using h5)
 refine bf_ ?_ (by simpa using h6)
 refine br_ (fun q7=>?_) fun q7=>?_
 ·have hr:=h7.1 (by omega)
  conv=>whnf
  refine kname_x n (cw_ ?_)
  refine hsuf_x (opName n) [46,100] (Nat.le_trans (len_name n) (by decide)) (by decide) ?_
  rw [suf_name hr]
  conv=>whnf
  refine br_ (fun q8=>?_) fun q8=>?_
  ·rw [if_neg (by omega),if_neg (by omega),if_neg (by omega),if_neg (by omega),if_neg (by omega),if_neg (by omega),if_neg (by omega),if_neg (by omega),if_neg (by omega),if_pos (by omega)] at hk
   conv=>whnf
   exact hk
  ·rw [if_neg (by omega),if_neg (by omega),if_neg (by omega),if_neg (by omega),if_neg (by omega),if_neg (by omega),if_neg (by omega),if_neg (by omega),if_pos (by omega)] at hk
   conv=>whnf
   exact hk
 ·have hr:¬ (67≤n∧n≤88):=fun e=>by have:=h7.2 e;omega
  repeat rw [if_neg (by omega)] at hk
  conv=>whnf
  exact hk
end
end Go.Proofs.YtdhlpighdlnohaaGreat
namespace Go.Proofs.YtdhlpighdlnohaaGreat
open Go Go.Mid Go.RowKit
attribute [local irreducible] mid
def fmtL:List Nat:=[0,5,5,6,2,4,4,4,4,4,4,2,2,2,2,2,2,2,3,3,3,3,2,2,2,2,2,2,7,7,7,1,1,1,1,1,1,1,1,1,1,2,8,8,8,1,1,1,1,1,2,2,13,13,1,1,1,1,1,1,1,1,1,1,1,1,1,12,11,11,11,11,11,11,11,11,11,11,12,11,11,11,11,11,11,11,11,11,11,9,9,9,10,10,10,13,13,13,14]
def fmtN (n:Int):Nat:=if 0≤n∧n<99 then fmtL.getD n.toNat 0 else 0
theorem fmt_lt:∀ f ∈ fmtL,f<15:=by decide
theorem fmtN_lt (n:Int):fmtN n<15:=by
 unfold fmtN
 split
 ·rw [List.getD_eq_getElem?_getD]
  cases h:fmtL[n.toNat]? with
  | none=>decide
  | some f=>exact fmt_lt f (List.mem_of_getElem? h)
 ·decide
section
variable {h:Hp} {K:Value→Hp→Prop} {E:List PanicEntry→Hp→Prop}
theorem fmtG0_x (n:Nat) (h1:0≤n) (h2:n<25) (hk:K (.int .i64 (fmtN n)) h):X Tryz.prog 169 #[.int .i64 n] h K:=by
 have:n=0∨n=1∨n=2∨n=3∨n=4∨n=5∨n=6∨n=7∨n=8∨n=9∨n=10∨n=11∨n=12∨n=13∨n=14∨n=15∨n=16∨n=17∨n=18∨n=19∨n=20∨n=21∨n=22∨n=23∨n=24:=by omega
 rcases this with rfl | rfl | rfl | rfl | rfl | rfl | rfl | rfl | rfl | rfl | rfl | rfl | rfl | rfl | rfl | rfl | rfl | rfl | rfl | rfl | rfl | rfl | rfl | rfl | rfl <;>
 ·refine fnv (args:=_) mixed [] [] [] Tryz.func169 rfl (by kernel_rfl) (cw_ ?_)
  exact hk
theorem fmtG25_x (n:Nat) (h1:25≤n) (h2:n<50) (hk:K (.int .i64 (fmtN n)) h):X Tryz.prog 169 #[.int .i64 n] h K:=by
 have:n=25∨n=26∨n=27∨n=28∨n=29∨n=30∨n=31∨n=32∨n=33∨n=34∨n=35∨n=36∨n=37∨n=38∨n=39∨n=40∨n=41∨n=42∨n=43∨n=44∨n=45∨n=46∨n=47∨n=48∨n=49:=by omega
 rcases this with rfl | rfl | rfl | rfl | rfl | rfl | rfl | rfl | rfl | rfl | rfl | rfl | rfl | rfl | rfl | rfl | rfl | rfl | rfl | rfl | rfl | rfl | rfl | rfl | rfl <;>
 ·refine fnv (args:=_) mixed [] [] [] Tryz.func169 rfl (by kernel_rfl) (cw_ ?_)
  exact hk
theorem fmtG50_x (n:Nat) (h1:50≤n) (h2:n<75) (hk:K (.int .i64 (fmtN n)) h):X Tryz.prog 169 #[.int .i64 n] h K:=by
 have:n=50∨n=51∨n=52∨n=53∨n=54∨n=55∨n=56∨n=57∨n=58∨n=59∨n=60∨n=61∨n=62∨n=63∨n=64∨n=65∨n=66∨n=67∨n=68∨n=69∨n=70∨n=71∨n=72∨n=73∨n=74:=by omega
 rcases this with rfl | rfl | rfl | rfl | rfl | rfl | rfl | rfl | rfl | rfl | rfl | rfl | rfl | rfl | rfl | rfl | rfl | rfl | rfl | rfl | rfl | rfl | rfl | rfl | rfl <;>
 ·refine fnv (args:=_) mixed [] [] [] Tryz.func169 rfl (by kernel_rfl) (cw_ ?_)
  exact hk
theorem fmtG75_x (n:Nat) (h1:75≤n) (h2:n<99) (hk:K (.int .i64 (fmtN n)) h):X Tryz.prog 169 #[.int .i64 n] h K:=by
 have:n=75∨n=76∨n=77∨n=78∨n=79∨n=80∨n=81∨n=82∨n=83∨n=84∨n=85∨n=86∨n=87∨n=88∨n=89∨n=90∨n=91∨n=92∨n=93∨n=94∨n=95∨n=96∨n=97∨n=98:=by omega
 rcases this with rfl | rfl | rfl | rfl | rfl | rfl | rfl | rfl | rfl | rfl | rfl | rfl | rfl | rfl | rfl | rfl | rfl | rfl | rfl | rfl | rfl | rfl | rfl | rfl <;>
 ·refine fnv (args:=_) mixed [] [] [] Tryz.func169 rfl (by kernel_rfl) (cw_ ?_)
  exact hk
theorem fmtO_x (n:Int) (hn:n<1∨98<n) (hk:K (.int .i64 0) h):X Tryz.prog 169 #[.int .i64 n] h K:=by
 refine fnv (args:=_) mixed [] [] [] Tryz.func169 rfl (by kernel_rfl) (cw_ ?_)
 iterate 98 (refine bsel_false (by simp;omega) ?_;conv=>whnf)
 exact hk
theorem fmt_x (n:Int) (hk:K (.int .i64 (fmtN n)) h):X Tryz.prog 169 #[.int .i64 n] h K:=by
 by_cases hn:n<1∨98<n
 ·refine fmtO_x n hn ?_
  have:fmtN n=0:=by
   unfold fmtN
   split
   ·rw [show n.toNat=0 by omega];rfl
   ·rfl
  rw [this] at hk
  exact hk
 ·obtain ⟨m,rfl⟩:∃ m:Nat,n=m:=⟨n.toNat,by omega⟩
  have hm:m<99:=by omega
  rcases Nat.lt_or_ge m 25 with h25 | h25
  ·exact fmtG0_x m (by omega) h25 hk
  rcases Nat.lt_or_ge m 50 with h50 | h50
  ·exact fmtG25_x m (by omega) h50 hk
  rcases Nat.lt_or_ge m 75 with h75 | h75
  ·exact fmtG50_x m (by omega) h75 hk
  exact fmtG75_x m (by omega) hm hk
end
end Go.Proofs.YtdhlpighdlnohaaGreat
