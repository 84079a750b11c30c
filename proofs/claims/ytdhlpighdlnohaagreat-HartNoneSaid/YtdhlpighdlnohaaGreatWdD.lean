/-
  Products of short words; what the instructions that reckon reckon.
-/
import Derived.Test.YtdhlpighdlnohaaGreatEvD
import Derived.Test.YtdhlpighdlnohaaGreatBitXg
import Derived.Test.YtdhlpighdlnohaaGreatCsF
import Derived.Test.YtdhlpighdlnohaaGreatCsC
set_option linter.unusedSimpArgs false
set_option linter.unusedVariables false
set_option maxHeartbeats 8000000
set_option maxRecDepth 10000
set_option linter.unusedSimpArgs false
set_option linter.unusedVariables false
namespace Go.Proofs.YtdhlpighdlnohaaGreat
open Go Go.Mid Go.RowKit Go.Bits
abbrev rfXWdA0:Go.Mid.RF:=[(2,2),(7,2),(13,2),(16,2),(3,3),(9,3),(18,3),(4,4)]
attribute [local irreducible] mid
theorem mulU {x y:Nat} (h:x*y<2 ^ 64):IntKind.u64.wrap ((x:Int)*(y:Int))=((x*y:Nat):Int):=by
 rw [← Int.natCast_mul];exact w64 h
theorem addU {x y:Nat} (h:x+y<2 ^ 64):IntKind.u64.wrap ((x:Int)+(y:Int))=((x+y:Nat):Int):=by
 rw [← Int.natCast_add];exact w64 h
theorem mulW (x y:Nat):IntKind.u64.wrap ((x:Int)*(y:Int))=((x*y % 18446744073709551616:Nat):Int):=by
 rw [← Int.natCast_mul,toU64];omega
theorem addW (x y:Nat):IntKind.u64.wrap ((x:Int)+(y:Int))=(((x+y) % 18446744073709551616:Nat):Int):=by
 rw [toU64];omega
theorem subW (x:Nat) {y:Nat} (h:y≤18446744073709551616):IntKind.u64.wrap ((x:Int) - (y:Int))=(((x+18446744073709551616 - y) % 18446744073709551616:Nat):Int):=by
 rw [toU64];omega
theorem half_mul {x y:Nat} (hx:x<4294967296) (hy:y<4294967296):x*y≤18446744065119617025 :=
 Nat.le_trans (Nat.mul_le_mul (show x≤4294967295 by omega) (show y≤4294967295 by omega)) (by decide)
theorem times_eq (a b:Nat):a*b=(a / 4294967296)*(b / 4294967296)*18446744073709551616+((a / 4294967296)*(b % 4294967296)+(a % 4294967296)*(b / 4294967296))*4294967296+(a % 4294967296)*(b % 4294967296):=by
 have ha:a=a / 4294967296*4294967296+a % 4294967296:=by omega
 have hb:b=b / 4294967296*4294967296+b % 4294967296:=by omega
 generalize a / 4294967296=p at *
 generalize a % 4294967296=q at *
 generalize b / 4294967296=r at *
 generalize b % 4294967296=s at *
 subst ha hb
 rw [Nat.add_mul,Nat.mul_add,Nat.mul_add]
 have e1:p*4294967296*(r*4294967296)=p*r*18446744073709551616:=by
  rw [Nat.mul_assoc,Nat.mul_left_comm 4294967296,← Nat.mul_assoc]
 have e2:p*4294967296*s=p*s*4294967296:=by rw [Nat.mul_assoc,Nat.mul_comm 4294967296,← Nat.mul_assoc]
 have e3:q*(r*4294967296)=q*r*4294967296:=by rw [Nat.mul_assoc]
 rw [e1,e2,e3]
 omega
section
variable {h:Hp} {K:Value→Hp→Prop}
abbrev wiC (a b:Nat):Value:=.agg #[ux a,ux b]
theorem half_x (w:Nat) (hw:w<2 ^ 64) (hk:K (.tuple #[ux (w / 4294967296),ux (w % 4294967296)]) h):X Tryz.prog 402 #[ux w] h K:=by
 refine fnv (args:=_) mixed [] [] [] Tryz.func402 rfl (by kernel_rfl) (cw_ ?_)
 refine val_by (shr64 w 32 (by decide)) (cw_ ?_)
 refine val_by ((and64 hw (show 4294967295<2 ^ 64 by decide)).trans (congrArg (fun x:Nat=>(x:Int)) (Nat.and_two_pow_sub_one_eq_mod w 32))) (cw_ ?_)
 exact hk
theorem times_x (a b:Nat) (ha:a<2 ^ 64) (hb:b<2 ^ 64) (hk:K (wiC (a*b / 18446744073709551616) (a*b % 18446744073709551616)) h):X Tryz.prog 379 #[ux a,ux b] h K:=by
 have e:=times_eq a b
 have ha1:a / 4294967296<4294967296:=by omega
 have ha2:a % 4294967296<4294967296:=Nat.mod_lt _ (by decide)
 have hb1:b / 4294967296<4294967296:=by omega
 have hb2:b % 4294967296<4294967296:=Nat.mod_lt _ (by decide)
 rw [e] at hk
 clear e
 refine fnv (args:=_) mixed [(4,4)] [] [] Tryz.func379 rfl (by kernel_rfl) (cw_ ?_)
 refine half_x a ha (cw_ ?_)
 refine half_x b hb ?_
 generalize a / 4294967296=p at *
 generalize a % 4294967296=q at *
 generalize b / 4294967296=r at *
 generalize b % 4294967296=s at *
 have m1:=half_mul ha1 hb1
 have m2:=half_mul ha1 hb2
 have m3:=half_mul ha2 hb1
 have m4:=half_mul ha2 hb2
 have u1:=mulU (x:=q) (y:=s) (by omega)
 have u2:=mulU (x:=p) (y:=s) (by omega)
 have u3:=mulU (x:=q) (y:=r) (by omega)
 have u4:=mulU (x:=p) (y:=r) (by omega)
 generalize p*r=P at *
 generalize p*s=Q at *
 generalize q*r=R at *
 generalize q*s=S at *
 conv=>whnf
 refine ov_by u1 (cw_ ?_)
 refine ov_by u2 (cw_ ?_)
 refine val_by (shr64 S 32 (by decide)) (cw_ ?_)
 refine ov_by (addU (x:=Q) (y:=S / 2 ^ 32) (by omega)) (cw_ ?_)
 refine half_x _ (by omega) (cw_ ?_)
 refine ov_by u3 (cw_ ?_)
 refine ov_by (addU (x:=R) (y:=(Q+S / 2 ^ 32) % 4294967296) (by omega)) (cw_ ?_)
 refine ov_by u4 (cw_ ?_)
 refine ov_by (addU (x:=P) (y:=(Q+S / 2 ^ 32) / 4294967296) (by omega)) (cw_ ?_)
 refine val_by (shr64 (R+(Q+S / 2 ^ 32) % 4294967296) 32 (by decide)) (cw_ ?_)
 refine ov_by (addU (x:=P+(Q+S / 2 ^ 32) / 4294967296) (y:=(R+(Q+S / 2 ^ 32) % 4294967296) / 2 ^ 32) (by omega)) (cw_ ?_)
 refine ov_by (shl64 (R+(Q+S / 2 ^ 32) % 4294967296) 32 (by decide)) (cw_ ?_)
 refine val_by ((and64 (show S<2 ^ 64 by omega) (show 4294967295<2 ^ 64 by decide)).trans (congrArg (fun x:Nat=>(x:Int)) (Nat.and_two_pow_sub_one_eq_mod S 32))) (cw_ ?_)
 have hor:((R+(Q+S / 2 ^ 32) % 4294967296)*2 ^ 32 % 18446744073709551616 ||| S % 2 ^ 32)=(R+(Q+S / 2 ^ 32) % 4294967296)*2 ^ 32 % 18446744073709551616+S % 2 ^ 32:=by
  rw [show (R+(Q+S / 2 ^ 32) % 4294967296)*2 ^ 32 % 18446744073709551616=(R+(Q+S / 2 ^ 32) % 4294967296) % 4294967296*2 ^ 32 by omega]
  rw [← Nat.shiftLeft_eq,← Nat.shiftLeft_add_eq_or_of_lt (Nat.mod_lt _ (by decide))]
 refine val_by (y:=(((P*18446744073709551616+(Q+R)*4294967296+S) % 18446744073709551616:Nat):Int)) ((or64 (Nat.mod_lt _ (by decide)) (show S % 2 ^ 32<2 ^ 64 by omega)).trans (by rw [hor];omega)) (cw_ ?_)
 exact kq hk (by
  show wiC _ _=wiC _ _
  rw [show P+(Q+S / 2 ^ 32) / 4294967296+(R+(Q+S / 2 ^ 32) % 4294967296) / 2 ^ 32=(P*18446744073709551616+(Q+R)*4294967296+S) / 18446744073709551616 by omega])
theorem wplus_x (a b c d:Nat) (ha:a<2 ^ 64) (hb:b<2 ^ 64) (hc:c<2 ^ 64) (hd:d<2 ^ 64) (hk:K (wiC ((a+c+(b+d) / 18446744073709551616) % 18446744073709551616) ((b+d) % 18446744073709551616)) h):X Tryz.prog 403 #[wiC a b,wiC c d] h K:=by
 refine fnv (args:=_) mixed rfXWdA0 [] [] Tryz.func403 rfl (by kernel_rfl) (cw_ ?_)
 refine ov_by (addW b d) (cw_ ?_)
 refine br_ (fun q1=>?_) fun q1=>?_
 ·conv=>whnf
  refine ov_by (addW a c) (cw_ ?_)
  refine ov_by (addW ((a+c) % 18446744073709551616) 1) (cw_ ?_)
  exact kq hk (by show wiC _ _=wiC _ _;rw [show ((a+c) % 18446744073709551616+1) % 18446744073709551616=(a+c+(b+d) / 18446744073709551616) % 18446744073709551616 by omega])
 ·conv=>whnf
  refine ov_by (addW a c) (cw_ ?_)
  refine ov_by (addW ((a+c) % 18446744073709551616) 0) (cw_ ?_)
  exact kq hk (by show wiC _ _=wiC _ _;rw [show ((a+c) % 18446744073709551616+0) % 18446744073709551616=(a+c+(b+d) / 18446744073709551616) % 18446744073709551616 by omega])
theorem notU {w:Nat} (hw:w<2 ^ 64):IntKind.u64.wrap ((BitVec.ofInt IntKind.u64.bits (if IntKind.u64.signed=true then -1 else IntKind.u64.max) ^^^ BitVec.ofInt IntKind.u64.bits (w:Int)).toNat:Int)=((18446744073709551615 - w:Nat):Int):=by
 have e1:(BitVec.ofInt IntKind.u64.bits (if IntKind.u64.signed=true then -1 else IntKind.u64.max) ^^^ BitVec.ofInt IntKind.u64.bits (w:Int)) = ~~~ BitVec.ofInt IntKind.u64.bits (w:Int):=by
  show (BitVec.ofInt 64 18446744073709551615 ^^^ BitVec.ofInt 64 w) = ~~~ (BitVec.ofInt 64 w)
  rw [show BitVec.ofInt 64 18446744073709551615=BitVec.allOnes 64 by decide,BitVec.allOnes_xor]
 rw [e1,BitVec.toNat_not,bv64 hw]
 exact w64 (show 18446744073709551616 - 1 - w<2 ^ 64 by omega)
def negHi (a b:Nat):Nat:=(18446744073709551615 - a+(18446744073709551615 - b+1) / 18446744073709551616) % 18446744073709551616
theorem wneg_x (a b:Nat) (ha:a<2 ^ 64) (hb:b<2 ^ 64) (hk:∀ lo,K (wiC (negHi a b) lo) h):X Tryz.prog 380 #[wiC a b] h K:=by
 refine fnv (args:=_) mixed [(1,1),(3,1),(6,1),(2,2)] [] [] Tryz.func380 rfl (by kernel_rfl) (cw_ ?_)
 show X Tryz.prog 403 #[.agg #[.int .u64 (IntKind.u64.wrap ((BitVec.ofInt IntKind.u64.bits (if IntKind.u64.signed=true then -1 else IntKind.u64.max) ^^^ BitVec.ofInt IntKind.u64.bits (a:Int)).toNat:Int)),.int .u64 (IntKind.u64.wrap ((BitVec.ofInt IntKind.u64.bits (if IntKind.u64.signed=true then -1 else IntKind.u64.max) ^^^ BitVec.ofInt IntKind.u64.bits (b:Int)).toNat:Int))],wiC 0 1] h _
 rw [notU ha,notU hb]
 refine wplus_x (18446744073709551615 - a) (18446744073709551615 - b) 0 1 (by omega) (by omega) (by decide) (by decide) (cw_ ?_)
 exact hk _
theorem wsize_x (a:Nat) (ha:a<2 ^ 64) (hk:K (.tuple #[ux (if a<9223372036854775808 then a else 18446744073709551616 - a),.bool (decide (¬ a<9223372036854775808))]) h):X Tryz.prog 378 #[ux a] h K:=by
 refine fnv (args:=_) mixed [] [] [] Tryz.func378 rfl (by kernel_rfl) (cw_ ?_)
 refine ov_by (wrapI64N a ha) ?_
 have hi:i64N a=if a<9223372036854775808 then (a:Int) else (a:Int) - 18446744073709551616:=by unfold i64N;split <;> rfl
 by_cases q:a<9223372036854775808
 ·rw [if_pos q,decide_eq_false (fun e=>e q)] at hk
  rw [hi,if_pos q]
  conv=>whnf
  exact hk
 ·rw [if_neg q,decide_eq_true q] at hk
  rw [hi,if_neg q]
  have hl:((a:Int) - 18446744073709551616)<0:=by omega
  conv=>whnf
  refine bt_ ?_ (by exact decide_eq_true hl)
  rw [show IntKind.u64.wrap (0 - (a:Int))=((18446744073709551616 - a:Nat):Int) by rw [toU64];omega]
  exact hk
end
end Go.Proofs.YtdhlpighdlnohaaGreat
namespace Go.Proofs.YtdhlpighdlnohaaGreat
open Go Go.Mid Go.RowKit Go.Bits
attribute [local irreducible] mid
theorem mayI (va:Nat):decide (((signN (va % 2 ^ 39) 39:Nat):Int)=(va:Int))=decide (mayN va):=by
 rw [Bool.eq_iff_iff,decide_eq_true_iff,decide_eq_true_iff]
 unfold mayN
 omega
theorem or_low {a b k:Nat} (h:b<2 ^ k):a*2 ^ k ||| b=a*2 ^ k+b:=by
 rw [← Nat.shiftLeft_eq,← Nat.shiftLeft_add_eq_or_of_lt h]
section
variable {h:Hp} {K:Value→Hp→Prop}
theorem bones0_x (hk:K (ux 0) h):X Tryz.prog 110 #[.int .i64 0,.int .i64 0] h K:=by
 refine fnv (args:=_) mixed [] [] [] Tryz.func110 rfl (by kernel_rfl) (cw_ ?_)
 have sp:X Tryz.prog 197 #[.int .i64 0,.int .i64 0] h (fun v h'=>v=.tuple #[.int .i64 0,.int .i64 0]∧h'=h):=by
  refine fnv (args:=_) mixed [] [] [] Tryz.func197 rfl (by kernel_rfl) (cw_ ?_)
  exact ⟨rfl,rfl⟩
 refine sp.mono ?_
 rintro _ _ ⟨rfl,rfl⟩
 conv=>whnf
 exact hk
theorem blow_x (w s:Nat) (hw:w<2 ^ 64) (hs:s≤64) (hk:K (ux (w % 2 ^ s)) h):X Tryz.prog 65 #[ux w,.int .i64 s] h K:=by
 refine fnv (args:=_) mixed [] [] [] Tryz.func65 rfl (by kernel_rfl) (cw_ ?_)
 by_cases h0:s=0
 ·subst h0
  refine bones0_x (cw_ ?_)
  refine val_by (and64 hw (show 0<2 ^ 64 by decide)) (cw_ ?_)
  rw [Nat.and_zero]
  rw [Nat.pow_zero,Nat.mod_one] at hk
  exact hk
 ·refine bones_x 0 s (by decide) ⟨by omega,by omega⟩ ?_
  rw [Nat.pow_zero,Nat.mul_one]
  conv=>whnf
  have h1:2 ^ s≤2 ^ 64:=Nat.pow_le_pow_right (by decide) hs
  have h2:0<2 ^ s:=Nat.pos_of_ne_zero (by simp)
  refine val_by (and64 hw (show 2 ^ s - 1<2 ^ 64 by omega)) (cw_ ?_)
  rw [Nat.and_two_pow_sub_one_eq_mod]
  exact hk
theorem pgppn_x (p:Nat) (hp:p<2 ^ 64) (hk:K (ux (ppnN p)) h):X Tryz.prog 66 #[ux p] h K:=by
 refine fnv (args:=_) mixed [] [] [] Tryz.func66 rfl (by kernel_rfl) (cw_ ?_)
 exact bcut_x p 10 44 hp (by decide) (by decide) hk
theorem pghas_x (p i:Nat) (hp:p<2 ^ 64) (hi:i≤63) (hk:K (.bool (decide (bitN p i=1))) h):X Tryz.prog 63 #[ux p,.int .i64 i] h K:=by
 have h1:p / 2 ^ i<2 ^ 64:=Nat.lt_of_le_of_lt (Nat.div_le_self _ _) hp
 refine fnv (args:=_) mixed [] [] [] Tryz.func63 rfl (by kernel_rfl) (cw_ ?_)
 refine ov_by (show IntKind.u64.wrap (i:Int)=(i:Int) from w64 (by omega)) (cw_ ?_)
 refine val_by (shr64 p i (by omega)) (cw_ ?_)
 refine val_by (and64 h1 (show 1<2 ^ 64 by decide)) (cw_ ?_)
 rw [Nat.and_one_is_mod]
 have e:p / 2 ^ i % 2=bitN p i:=rfl
 rw [e]
 exact kq hk (bI (by rw [Bool.eq_iff_iff];simp;omega))
theorem pgsome_x {b:Nat} {L:List Nat} {n:Nat} (p:Nat) (hp:p<2 ^ 64) (hb:h b=some (rowO 3 (L.map fun i=>.int .i64 (i:Nat)))) (hn:n=L.length) (hl:n≤64) (hL:∀ i ∈ L,i≤63) (hk:K (.bool (L.any fun i=>decide (bitN p i=1))) h):X Tryz.prog 64 #[ux p,.slice (some ⟨b,0,none⟩) n n] h K:=by
 subst hn
 refine fnv (args:=_) mixed [] [] [] Tryz.func64 rfl (by kernel_rfl) (cw_ ?_)
 refine loop_at [9] [] (fun q vs _ h'=>h=h'∧∃ i:Nat,i≤L.length∧q=L.length - i∧vs=[.v (.int .i64 i)]∧∀ x ∈ L.take i,bitN p x≠1) L.length ⟨rfl,0,by omega,by omega,rfl,by simp⟩ ?_
 rintro q vs cs mm bx _ ⟨rfl,i,hi,rfl,rfl,hno⟩
 conv=>whnf
 refine br_ (fun q1=>?_) fun q1=>?_
 ·have hiL:i<L.length:=by omega
  obtain ⟨x,hx⟩:∃ x,L[i]? = some x:=⟨_,List.getElem?_eq_getElem hiL⟩
  have hx63:=hL x (List.mem_of_getElem? hx)
  conv=>whnf
  refine n_ ?_
  refine ⟨_,loadI (j:=i) aggIn hb rfl (by rw [List.getElem?_map,hx];rfl),?_⟩;conv=>whnf
  refine pghas_x p x hp hx63 (cw_ ?_)
  refine br_ (fun q2=>?_) fun q2=>?_
  ·have e:(L.any fun i=>decide (bitN p i=1))=true:=List.any_eq_true.2 ⟨x,List.mem_of_getElem? hx,by simpa using q2⟩
   rw [e] at hk
   exact hk
  ·conv=>whnf
   refine n_ ?_
   refine ⟨L.length - (i+1),by omega,rfl,i+1,by omega,rfl,rfl,fun y hy=>?_⟩
   rw [List.take_add_one,hx] at hy
   rcases List.mem_append.1 hy with hy | hy
   ·exact hno y hy
   ·simp only [Option.toList_some,List.mem_singleton] at hy;subst hy;simpa using q2
 ·have e:(L.any fun i=>decide (bitN p i=1))=false:=by
   rw [List.any_eq_false]
   intro x hx
   have:=hno x (by rw [List.take_of_length_le (by omega)];exact hx)
   simpa using this
  rw [e] at hk
  exact hk
end
end Go.Proofs.YtdhlpighdlnohaaGreat
namespace Go.Proofs.YtdhlpighdlnohaaGreat
open Go Go.Mid Go.RowKit Go.Bits
attribute [local irreducible] mid
def absN (a:Nat):Nat:=if a<9223372036854775808 then a else 18446744073709551616 - a
theorem absN_le {a:Nat} (ha:a<2 ^ 64):absN a≤9223372036854775808:=by unfold absN;split <;> omega
theorem sg_pos {a:Nat} (h:a<9223372036854775808):sgN a=((absN a:Nat):Int):=by unfold sgN absN;rw [if_pos h,if_pos h]
theorem sg_neg {a:Nat} (ha:a<2 ^ 64) (h:¬ a<9223372036854775808):sgN a = -((absN a:Nat):Int):=by unfold sgN absN;rw [if_neg h,if_neg h];omega
theorem hi_pos {P:Nat} (h:P<340282366920938463463374607431768211456):ofI ((P:Int) / 18446744073709551616)=P / 18446744073709551616:=by unfold ofI;omega
theorem hi_neg {P:Nat} (h:P<340282366920938463463374607431768211456):ofI (-(P:Int) / 18446744073709551616)=negHi (P / 18446744073709551616) (P % 18446744073709551616):=by unfold ofI negHi;omega
theorem prod_lt {x y:Nat} (hx:x≤9223372036854775808) (hy:y≤18446744073709551615):x*y<340282366920938463463374607431768211456 :=
 Nat.lt_of_le_of_lt (Nat.mul_le_mul hx hy) (by decide)
theorem ofI_lt (n:Int):ofI n<2 ^ 64:=by unfold ofI;omega
theorem sg_i64 (a:Nat):i64N a=sgN a:=by unfold i64N sgN;split <;> rfl
theorem u64ofI (n:Int):IntKind.u64.wrap n=((ofI n:Nat):Int):=by rw [toU64];unfold ofI;omega
theorem u64i64 (n:Int):IntKind.u64.wrap (IntKind.i64.wrap n)=((ofI n:Nat):Int):=by rw [toU64,IntKind.wrap_i64];unfold ofI;omega
section
variable {h:Hp} {K:Value→Hp→Prop}
theorem high_x (a b:Nat) (ha:a<2 ^ 64) (hb:b<2 ^ 64) (hk:K (ux (ofI (sgN a*sgN b / 18446744073709551616))) h):X Tryz.prog 342 #[ux a,ux b] h K:=by
 have la:=absN_le ha
 have lb:=absN_le hb
 have pl:=prod_lt la (Nat.le_trans lb (by decide))
 refine fnv (args:=_) mixed [(9,9),(28,9)] [] [] Tryz.func342 rfl (by kernel_rfl) (cw_ ?_)
 refine wsize_x a ha (cw_ ?_)
 refine wsize_x b hb (cw_ ?_)
 refine times_x (absN a) (absN b) (by omega) (by omega) (cw_ ?_)
 by_cases qa:a<9223372036854775808 <;> by_cases qb:b<9223372036854775808
 ·rw [sg_pos qa,sg_pos qb,← Int.natCast_mul,hi_pos pl] at hk
  rw [decide_eq_false (fun e=>e qa),decide_eq_false (fun e=>e qb)]
  conv=>whnf
  exact hk
 ·rw [sg_pos qa,sg_neg hb qb,Int.mul_neg,← Int.natCast_mul,hi_neg pl] at hk
  rw [decide_eq_false (fun e=>e qa),decide_eq_true qb]
  generalize absN a*absN b=P at *
  conv=>whnf
  refine wneg_x (P / 18446744073709551616) (P % 18446744073709551616) (by omega) (by omega) (fun lo=>cw_ ?_)
  exact hk
 ·rw [sg_neg ha qa,sg_pos qb,Int.neg_mul,← Int.natCast_mul,hi_neg pl] at hk
  rw [decide_eq_true qa,decide_eq_false (fun e=>e qb)]
  generalize absN a*absN b=P at *
  conv=>whnf
  refine wneg_x (P / 18446744073709551616) (P % 18446744073709551616) (by omega) (by omega) (fun lo=>cw_ ?_)
  exact hk
 ·rw [sg_neg ha qa,sg_neg hb qb,Int.neg_mul_neg,← Int.natCast_mul,hi_pos pl] at hk
  rw [decide_eq_true qa,decide_eq_true qb]
  conv=>whnf
  exact hk
theorem highMixed_x (a b:Nat) (ha:a<2 ^ 64) (hb:b<2 ^ 64) (hk:K (ux (ofI (sgN a*b / 18446744073709551616))) h):X Tryz.prog 343 #[ux a,ux b] h K:=by
 have la:=absN_le ha
 have pl:=prod_lt la (show b≤18446744073709551615 by omega)
 refine fnv (args:=_) mixed [(7,7),(19,7)] [] [] Tryz.func343 rfl (by kernel_rfl) (cw_ ?_)
 refine wsize_x a ha (cw_ ?_)
 refine times_x (absN a) b (by omega) hb (cw_ ?_)
 by_cases qa:a<9223372036854775808
 ·rw [sg_pos qa,← Int.natCast_mul,hi_pos pl] at hk
  rw [decide_eq_false (fun e=>e qa)]
  conv=>whnf
  exact hk
 ·rw [sg_neg ha qa,Int.neg_mul,← Int.natCast_mul,hi_neg pl] at hk
  rw [decide_eq_true qa]
  generalize absN a*b=P at *
  conv=>whnf
  refine wneg_x (P / 18446744073709551616) (P % 18446744073709551616) (by omega) (by omega) (fun lo=>cw_ ?_)
  exact hk
theorem highPlain_x (a b:Nat) (ha:a<2 ^ 64) (hb:b<2 ^ 64) (hk:K (ux (a*b / 18446744073709551616)) h):X Tryz.prog 344 #[ux a,ux b] h K:=by
 refine fnv (args:=_) mixed [] [] [] Tryz.func344 rfl (by kernel_rfl) (cw_ ?_)
 refine times_x a b ha hb (cw_ ?_)
 exact hk
theorem wmul_x (a b:Nat) (hk:K (ux (mulN a b)) h):X Tryz.prog 341 #[ux a,ux b] h K:=by
 refine fnv (args:=_) mixed [] [] [] Tryz.func341 rfl (by kernel_rfl) (cw_ ?_)
 refine ov_by (mulW a b) ?_
 exact hk
theorem wdivu_x (a b:Nat) (ha:a<2 ^ 64) (hk:K (ux (divuN a b)) h):X Tryz.prog 346 #[ux a,ux b] h K:=by
 unfold divuN at hk
 refine fnv (args:=_) mixed [] [] [] Tryz.func346 rfl (by kernel_rfl) (cw_ ?_)
 refine br_ (fun q=>?_) fun q=>?_
 ·rw [if_pos (by omega)] at hk
  conv=>whnf
  exact hk
 ·rw [if_neg (by omega)] at hk
  conv=>whnf
  refine n_ ?_
  refine ov_by (show IntKind.u64.wrap ((a / b:Nat):Int)=((a / b:Nat):Int) from w64 (Nat.lt_of_le_of_lt (Nat.div_le_self _ _) ha)) ?_
  exact hk
theorem wdiv_x (a b:Nat) (ha:a<2 ^ 64) (hb:b<2 ^ 64) (hk:K (ux (divN a b)) h):X Tryz.prog 345 #[ux a,ux b] h K:=by
 unfold divN at hk
 refine fnv (args:=_) mixed [] [] [] Tryz.func345 rfl (by kernel_rfl) (cw_ ?_)
 refine br_ (fun q=>?_) fun q=>?_
 ·rw [if_pos (by omega)] at hk
  conv=>whnf
  exact hk
 ·rw [if_neg (by omega)] at hk
  conv=>whnf
  refine br_ (fun q1=>?_) fun q1=>?_
  ·have eb:b=18446744073709551615:=by omega
   subst eb
   conv=>whnf
   refine kq hk ?_
   rw [show sgN 18446744073709551615 = -1 by decide,Int.tdiv_neg,Int.tdiv_one]
   show Value.int .u64 _=ux _
   have:ofI (-sgN a)=(18446744073709551616 - a) % 18446744073709551616:=by unfold ofI sgN;split <;> omega
   rw [this,show IntKind.u64.wrap (0 - (a:Int))=(((18446744073709551616 - a) % 18446744073709551616:Nat):Int) by rw [toU64];omega]
  ·conv=>whnf
   refine ov_by ((wrapI64N a ha).trans (sg_i64 a)) (cw_ ?_)
   refine ov_by ((wrapI64N b hb).trans (sg_i64 b)) ?_
   have nz:sgN b≠0:=by unfold sgN;split <;> omega
   generalize sgN b=y at *
   generalize sgN a=x at *
   conv=>whnf
   refine n_ ?_ (hc:=by exact nz)
   refine ov_by rfl (cw_ ?_)
   refine ov_by (u64i64 _) ?_
   exact hk
theorem rem_tmod (x y:Int):x - y*x.tdiv y=x.tmod y:=by have:=Int.mul_tdiv_add_tmod x y;omega
theorem ofI_at (n:Int):∃ g:Int,((ofI n:Nat):Int)=n+18446744073709551616*g:=⟨-(n / 18446744073709551616),by unfold ofI;omega⟩
theorem sg_at (a:Nat):∃ g:Int,(a:Int)=sgN a+18446744073709551616*g:=by
 unfold sgN;split
 ·exact ⟨0,by omega⟩
 ·exact ⟨1,by omega⟩
theorem remN_eq (a b:Nat) (ha:a<2 ^ 64):(a+18446744073709551616 - b*divN a b % 18446744073709551616) % 18446744073709551616=remN a b:=by
 unfold remN divN
 by_cases q:b=0
 ·rw [if_pos q,if_pos q];subst q;rw [Nat.zero_mul];omega
 ·rw [if_neg q,if_neg q]
  obtain ⟨g,hg⟩:=ofI_at ((sgN a).tdiv (sgN b))
  obtain ⟨u,hu⟩:=sg_at a
  obtain ⟨v,hv⟩:=sg_at b
  have e:=rem_tmod (sgN a) (sgN b)
  generalize (sgN a).tdiv (sgN b)=d at *
  generalize (sgN a).tmod (sgN b)=m at *
  generalize ofI d=D at *
  have hp:((b*D:Nat):Int)=sgN b*d+18446744073709551616*(sgN b*g+v*d+18446744073709551616*(v*g)):=by
   rw [Int.natCast_mul,hv,hg,Int.add_mul,Int.mul_add,Int.mul_add,Int.mul_left_comm (sgN b),Int.mul_assoc,Int.mul_assoc,Int.mul_left_comm v]
   generalize sgN b*d=p1
   generalize sgN b*g=p2
   generalize v*d=p3
   generalize v*g=p4
   omega
  generalize sgN b*g+v*d+18446744073709551616*(v*g)=z at hp
  generalize sgN b*d=p1 at *
  generalize b*D=P at *
  unfold ofI
  omega
theorem remuN_eq (a b:Nat) (ha:a<2 ^ 64):(a+18446744073709551616 - b*divuN a b % 18446744073709551616) % 18446744073709551616=remuN a b:=by
 unfold remuN divuN
 by_cases q:b=0
 ·rw [if_pos q,if_pos q];subst q;rw [Nat.zero_mul];omega
 ·rw [if_neg q,if_neg q]
  have e:=Nat.div_add_mod a b
  generalize b*(a / b)=P at *
  generalize a % b=m at *
  omega
theorem wrem_x (a b:Nat) (ha:a<2 ^ 64) (hb:b<2 ^ 64) (hk:K (ux (remN a b)) h):X Tryz.prog 347 #[ux a,ux b] h K:=by
 rw [← remN_eq a b ha] at hk
 refine fnv (args:=_) mixed [] [] [] Tryz.func347 rfl (by kernel_rfl) (cw_ ?_)
 refine wdiv_x a b ha hb ?_
 generalize divN a b=D at *
 conv=>whnf
 refine ov_by (mulW b D) (cw_ ?_)
 refine ov_by (subW a (Nat.le_of_lt (Nat.mod_lt _ (by decide)))) ?_
 exact hk
theorem wremu_x (a b:Nat) (ha:a<2 ^ 64) (hb:b<2 ^ 64) (hk:K (ux (remuN a b)) h):X Tryz.prog 348 #[ux a,ux b] h K:=by
 rw [← remuN_eq a b ha] at hk
 refine fnv (args:=_) mixed [] [] [] Tryz.func348 rfl (by kernel_rfl) (cw_ ?_)
 refine wdivu_x a b ha ?_
 generalize divuN a b=D at *
 conv=>whnf
 refine ov_by (mulW b D) (cw_ ?_)
 refine ov_by (subW a (Nat.le_of_lt (Nat.mod_lt _ (by decide)))) ?_
 exact hk
end
end Go.Proofs.YtdhlpighdlnohaaGreat
namespace Go.Proofs.YtdhlpighdlnohaaGreat
open Go Go.Mid Go.RowKit Go.Bits
attribute [local irreducible] mid
theorem and63 {n:Nat} (hn:n<2 ^ 64):IntKind.u64.wrap ((BitVec.ofInt IntKind.u64.bits (n:Int) &&& BitVec.ofInt IntKind.u64.bits 63).toNat:Int)=((n % 64:Nat):Int):=(and64 hn (show 63<2 ^ 64 by decide)).trans (congrArg (fun x:Nat=>(x:Int)) (Nat.and_two_pow_sub_one_eq_mod n 6))
theorem and31 {n:Nat} (hn:n<2 ^ 64):IntKind.u64.wrap ((BitVec.ofInt IntKind.u64.bits (n:Int) &&& BitVec.ofInt IntKind.u64.bits 31).toNat:Int)=((n % 32:Nat):Int):=(and64 hn (show 31<2 ^ 64 by decide)).trans (congrArg (fun x:Nat=>(x:Int)) (Nat.and_two_pow_sub_one_eq_mod n 5))
theorem sg_32 (a:Nat):IntKind.i32.wrap ((a % 4294967296:Nat):Int)=sg32 (a % 4294967296):=by
 unfold sg32;rw [IntKind.wrap_i32];split <;> omega
theorem sra_any (x:Int) (k n:Nat) (hk:k≤n):x.fdiv (2 ^ (min ((k:Int)).toNat n))=x / 2 ^ k:=by
 rw [Int.toNat_natCast,Nat.min_eq_left hk,Int.fdiv_eq_ediv_of_nonneg _ (Int.le_of_lt (Int.pow_pos (by decide)))]
theorem word_mod (w:Nat):signN (w % 4294967296 % 2 ^ 32) 32=wordN w:=by unfold wordN;rw [show (2:Nat) ^ 32=4294967296 from rfl,Nat.mod_mod]
section
variable {h:Hp} {K:Value→Hp→Prop}
theorem bless_x (a b:Nat) (ha:a<2 ^ 64) (hb:b<2 ^ 64) (hk:K (.bool (decide (sgN a<sgN b))) h):X Tryz.prog 357 #[ux a,ux b] h K:=by
 refine fnv (args:=_) mixed [] [] [] Tryz.func357 rfl (by kernel_rfl) (cw_ ?_)
 refine ov_by ((wrapI64N a ha).trans (sg_i64 a)) (cw_ ?_)
 refine ov_by ((wrapI64N b hb).trans (sg_i64 b)) ?_
 exact hk
theorem bsll_x (a b:Nat) (hb:b<2 ^ 64) (hk:K (ux (a*2 ^ (b % 64) % 18446744073709551616)) h):X Tryz.prog 353 #[ux a,ux b] h K:=by
 have hlt:=Nat.mod_lt b (show 0<64 by decide)
 refine fnv (args:=_) mixed [] [] [] Tryz.func353 rfl (by kernel_rfl) (cw_ ?_)
 refine val_by (and63 hb) (cw_ ?_)
 refine ov_by (shl64 a (b % 64) (by omega)) ?_
 exact hk
theorem bsrl_x (a b:Nat) (ha:a<2 ^ 64) (hb:b<2 ^ 64) (hk:K (ux (a / 2 ^ (b % 64))) h):X Tryz.prog 354 #[ux a,ux b] h K:=by
 have hlt:=Nat.mod_lt b (show 0<64 by decide)
 refine fnv (args:=_) mixed [] [] [] Tryz.func354 rfl (by kernel_rfl) (cw_ ?_)
 refine val_by (and63 hb) (cw_ ?_)
 refine val_by (shr64 a (b % 64) (by omega)) (cw_ ?_)
 exact hk
theorem bsra_x (a b:Nat) (ha:a<2 ^ 64) (hb:b<2 ^ 64) (hk:K (ux (ofI (sgN a / 2 ^ (b % 64)))) h):X Tryz.prog 355 #[ux a,ux b] h K:=by
 have hlt:=Nat.mod_lt b (show 0<64 by decide)
 refine fnv (args:=_) mixed [] [] [] Tryz.func355 rfl (by kernel_rfl) (cw_ ?_)
 refine ov_by ((wrapI64N a ha).trans (sg_i64 a)) (cw_ ?_)
 refine val_by (and63 hb) (cw_ ?_)
 refine val_by (sra_any (sgN a) (b % 64) 64 (by omega)) (cw_ ?_)
 refine ov_by (u64ofI _) ?_
 exact hk
theorem bsllw_x (a b:Nat) (ha:a<2 ^ 64) (hb:b<2 ^ 64) (hk:K (ux (wordN (a % 4294967296*2 ^ (b % 32)))) h):X Tryz.prog 350 #[ux a,ux b] h K:=by
 have hlt:=Nat.mod_lt b (show 0<32 by decide)
 refine fnv (args:=_) mixed [] [] [] Tryz.func350 rfl (by kernel_rfl) (cw_ ?_)
 refine ov_by (toU32 a) (cw_ ?_)
 refine val_by (and31 hb) (cw_ ?_)
 refine ov_by (shl32 (a % 4294967296) (b % 32) (by omega)) ?_
 generalize a % 4294967296*2 ^ (b % 32)=w at *
 conv=>whnf
 refine ov_by (w64 (show w % 4294967296<2 ^ 64 by omega)) (cw_ ?_)
 refine bword_x _ (by omega) ?_
 rw [word_mod]
 exact hk
theorem bsrlw_x (a b:Nat) (ha:a<2 ^ 64) (hb:b<2 ^ 64) (hk:K (ux (wordN (a % 4294967296 / 2 ^ (b % 32)))) h):X Tryz.prog 351 #[ux a,ux b] h K:=by
 have hlt:=Nat.mod_lt b (show 0<32 by decide)
 refine fnv (args:=_) mixed [] [] [] Tryz.func351 rfl (by kernel_rfl) (cw_ ?_)
 refine ov_by (toU32 a) (cw_ ?_)
 refine val_by (and31 hb) (cw_ ?_)
 refine val_by (shr32 (a % 4294967296) (b % 32) (by omega)) (cw_ ?_)
 have hw:a % 4294967296 / 2 ^ (b % 32)<4294967296:=Nat.lt_of_le_of_lt (Nat.div_le_self _ _) (by omega)
 generalize a % 4294967296 / 2 ^ (b % 32)=w at *
 refine ov_by (w64 (show w<2 ^ 64 by omega)) (cw_ ?_)
 refine bword_x _ (by omega) ?_
 exact hk
theorem bsraw_x (a b:Nat) (ha:a<2 ^ 64) (hb:b<2 ^ 64) (hk:K (ux (ofI (sg32 (a % 4294967296) / 2 ^ (b % 32)))) h):X Tryz.prog 352 #[ux a,ux b] h K:=by
 have hlt:=Nat.mod_lt b (show 0<32 by decide)
 refine fnv (args:=_) mixed [] [] [] Tryz.func352 rfl (by kernel_rfl) (cw_ ?_)
 refine ov_by (toU32 a) (cw_ ?_)
 refine ov_by (sg_32 a) ?_
 generalize sg32 (a % 4294967296)=x at *
 conv=>whnf
 refine val_by (and31 hb) (cw_ ?_)
 refine val_by (sra_any x (b % 32) 32 (by omega)) (cw_ ?_)
 refine ov_by rfl (cw_ ?_)
 refine ov_by (u64i64 _) ?_
 exact hk
end
end Go.Proofs.YtdhlpighdlnohaaGreat
namespace Go.Proofs.YtdhlpighdlnohaaGreat
open Go Go.Mid Go.RowKit Go.Bits
attribute [local irreducible] mid
section
variable {h:Hp} {K:Value→Hp→Prop}
theorem bword'_x (w:Nat) (hw:w<2 ^ 64) (hk:K (ux (wordN w)) h):X Tryz.prog 278 #[ux w] h K:=bword_x w hw hk
theorem wlow_x (w:Nat) (hw:w<2 ^ 64) (hk:K (ux (w % 4294967296)) h):X Tryz.prog 381 #[ux w] h K:=by
 refine fnv (args:=_) mixed [] [] [] Tryz.func381 rfl (by kernel_rfl) (cw_ ?_)
 exact blow_x w 32 hw (by decide) hk
theorem word_lt64 (w:Nat):wordN w<2 ^ 64:=sign_lt _ _
theorem mulN_lt (a b:Nat):mulN a b<2 ^ 64:=Nat.mod_lt _ (by decide)
theorem divN_lt (a b:Nat):divN a b<2 ^ 64:=by unfold divN;split;decide;exact ofI_lt _
theorem remN_lt {a b:Nat} (ha:a<2 ^ 64):remN a b<2 ^ 64:=by unfold remN;split;exact ha;exact ofI_lt _
theorem divuN_lt {a b:Nat} (ha:a<2 ^ 64):divuN a b<2 ^ 64:=by unfold divuN;split;decide;exact Nat.lt_of_le_of_lt (Nat.div_le_self _ _) ha
theorem remuN_lt {a b:Nat} (ha:a<2 ^ 64):remuN a b<2 ^ 64:=by
 unfold remuN;split
 ·exact ha
 ·exact Nat.lt_of_le_of_lt (Nat.mod_le _ _) ha
theorem shortMul_x (a b:Nat) (ha:a<2 ^ 64) (hb:b<2 ^ 64) (hk:K (ux (wordN (mulN (wordN a) (wordN b)))) h):X Tryz.prog 349 #[.func (.func 341) #[] #[],.bool false,ux a,ux b] h K:=by
 have wa:=word_lt64 a
 have wb:=word_lt64 b
 refine fnv (args:=_) mixed [] [] [] Tryz.func349 rfl (by kernel_rfl) (cw_ ?_)
 refine bword'_x a ha (cw_ ?_)
 refine bword'_x b hb (cw_ ?_)
 refine wmul_x _ _ ?_
 have hF:mulN (wordN a) (wordN b)<2 ^ 64:=mulN_lt _ _
 generalize mulN (wordN a) (wordN b)=w at *
 conv=>whnf
 refine bword'_x w hF (cw_ ?_)
 exact hk
theorem shortDiv_x (a b:Nat) (ha:a<2 ^ 64) (hb:b<2 ^ 64) (hk:K (ux (wordN (divN (wordN a) (wordN b)))) h):X Tryz.prog 349 #[.func (.func 345) #[] #[],.bool false,ux a,ux b] h K:=by
 have wa:=word_lt64 a
 have wb:=word_lt64 b
 refine fnv (args:=_) mixed [] [] [] Tryz.func349 rfl (by kernel_rfl) (cw_ ?_)
 refine bword'_x a ha (cw_ ?_)
 refine bword'_x b hb (cw_ ?_)
 refine wdiv_x _ _ wa wb ?_
 have hF:divN (wordN a) (wordN b)<2 ^ 64:=divN_lt _ _
 generalize divN (wordN a) (wordN b)=w at *
 conv=>whnf
 refine bword'_x w hF (cw_ ?_)
 exact hk
theorem shortRem_x (a b:Nat) (ha:a<2 ^ 64) (hb:b<2 ^ 64) (hk:K (ux (wordN (remN (wordN a) (wordN b)))) h):X Tryz.prog 349 #[.func (.func 347) #[] #[],.bool false,ux a,ux b] h K:=by
 have wa:=word_lt64 a
 have wb:=word_lt64 b
 refine fnv (args:=_) mixed [] [] [] Tryz.func349 rfl (by kernel_rfl) (cw_ ?_)
 refine bword'_x a ha (cw_ ?_)
 refine bword'_x b hb (cw_ ?_)
 refine wrem_x _ _ wa wb ?_
 have hF:remN (wordN a) (wordN b)<2 ^ 64:=remN_lt wa
 generalize remN (wordN a) (wordN b)=w at *
 conv=>whnf
 refine bword'_x w hF (cw_ ?_)
 exact hk
theorem shortDivu_x (a b:Nat) (ha:a<2 ^ 64) (hb:b<2 ^ 64) (hk:K (ux (wordN (divuN (a % 4294967296) (b % 4294967296)))) h):X Tryz.prog 349 #[.func (.func 346) #[] #[],.bool true,ux a,ux b] h K:=by
 have wa:=word_lt64 a
 have wb:=word_lt64 b
 refine fnv (args:=_) mixed [] [] [] Tryz.func349 rfl (by kernel_rfl) (cw_ ?_)
 refine wlow_x a ha (cw_ ?_)
 refine wlow_x b hb (cw_ ?_)
 refine wdivu_x _ _ (by omega) ?_
 have hF:divuN (a % 4294967296) (b % 4294967296)<2 ^ 64:=divuN_lt (by omega)
 generalize divuN (a % 4294967296) (b % 4294967296)=w at *
 conv=>whnf
 refine bword'_x w hF (cw_ ?_)
 exact hk
theorem shortRemu_x (a b:Nat) (ha:a<2 ^ 64) (hb:b<2 ^ 64) (hk:K (ux (wordN (remuN (a % 4294967296) (b % 4294967296)))) h):X Tryz.prog 349 #[.func (.func 348) #[] #[],.bool true,ux a,ux b] h K:=by
 have wa:=word_lt64 a
 have wb:=word_lt64 b
 refine fnv (args:=_) mixed [] [] [] Tryz.func349 rfl (by kernel_rfl) (cw_ ?_)
 refine wlow_x a ha (cw_ ?_)
 refine wlow_x b hb (cw_ ?_)
 refine wremu_x _ _ (by omega) (by omega) ?_
 have hF:remuN (a % 4294967296) (b % 4294967296)<2 ^ 64:=remuN_lt (by omega)
 generalize remuN (a % 4294967296) (b % 4294967296)=w at *
 conv=>whnf
 refine bword'_x w hF (cw_ ?_)
 exact hk
end
end Go.Proofs.YtdhlpighdlnohaaGreat
