/-
  Words by their bits: the program's (package bits).
-/
import Derived.Test.YtdhlpighdlnohaaGreatCaA
import Derived.Test.YtdhlpighdlnohaaGreatBitP
import Derived.Test.YtdhlpighdlnohaaGreatEvD
import Derived.Lib.Join
import Derived.Test.YtdhlpighdlnohaaGreatCsC
set_option linter.unusedSimpArgs false
set_option linter.unusedVariables false
set_option maxHeartbeats 8000000
set_option maxRecDepth 10000
set_option linter.unusedSimpArgs false
set_option linter.unusedVariables false
namespace Go.Proofs.YtdhlpighdlnohaaGreat
open Go Go.Mid Go.RowKit Go.Bits
abbrev rfXCaB0:Go.Mid.RF:=[(6,6),(13,13),(26,13),(31,13),(37,13),(50,13)]
attribute [local irreducible] mid
theorem get_own {f:Csf} (n:Int) (hn:n≠256∧n≠260∧n≠324∧n≠836∧n≠769∧n≠3072∧n≠3074∧n≠3860):f.get n 0=f.at n:=by
 unfold Csf.get
 rw [if_neg hn.1,if_neg hn.2.1,if_neg hn.2.2.1,if_neg hn.2.2.2.1,if_neg hn.2.2.2.2.1,if_neg hn.2.2.2.2.2.1,if_neg hn.2.2.2.2.2.2.1,if_neg hn.2.2.2.2.2.2.2]
theorem cword_lt (c:Cau):c.word<2 ^ 64:=by
 unfold Cau.word
 refine Nat.or_lt_two_pow ?_ ?_
 ·split <;> omega
 ·split <;> decide
section
variable {h:Hp} {K:Value→Hp→Prop}
theorem fgetO_x {b o:Nat} {el:TypeId} {A B:List Value} {f:Csf} (p:Pa h b o el A f.cs B) (ok:f.ok) (n:Int) (hn:n≠256∧n≠260∧n≠324∧n≠836∧n≠769∧n≠3072∧n≠3074∧n≠3860) (hk:K (ux (f.at n)) h):X Tryz.prog 134 #[.pointer (some ⟨b,o,none⟩),.int .i64 n,ux 0] h K :=
 fget_x p ok n 0 (by decide) (by rw [get_own n hn];exact hk)
theorem tgroup_x (a:Int) (hk:K (.agg #[.int .i64 (if a=1 then 321 else 833),.int .i64 (if a=1 then 322 else 834),.int .i64 (if a=1 then 323 else 835),.int .i64 (if a=1 then 261 else 773)]) h):X Tryz.prog 263 #[.int .i64 a] h K:=by
 refine fnv (args:=_) mixed [(2,2)] [] [] Tryz.func263 rfl (by kernel_rfl) (cw_ ?_)
 refine br_ (fun q1=>?_) fun q1=>?_
 ·rw [if_pos q1,if_pos q1,if_pos q1,if_pos q1] at hk
  conv=>whnf
  exact hk
 ·rw [if_neg q1,if_neg q1,if_neg q1,if_neg q1] at hk
  conv=>whnf
  exact hk
theorem tvector_x (t:Nat) (c:Cau) (ht:t<2 ^ 64) (hk:K (ux (vecN t c)) h):X Tryz.prog 267 #[ux t,.agg c.cs.toArray] h K:=by
 obtain ⟨ci,code⟩:=c
 unfold vecN at hk
 simp only at hk
 have e4:andN t 3=t / 4*4:=by
  have hlt:t / 4*4<2 ^ 64:=Nat.lt_of_le_of_lt (Nat.div_mul_le_self _ _) ht
  refine eq_bits (andN_lt _ _) hlt fun i hi=>?_
  rw [andN_bit,if_pos hi,show t / 4*4=t / 2 ^ 2*2 ^ 2 from rfl,bit_mul]
  by_cases h2:2≤i
  ·have:bitN 3 i=0:=bit_high (show 3<2 ^ 2 by decide) h2
   rw [this,if_neg (by decide),if_pos h2,bit_div]
   congr 1;omega
  ·have:bitN 3 i=1:=by
    match i,h2 with
    | 0,_ | 1,_=>decide
    | _+2,h=>exact absurd (by omega) h
   rw [this,if_pos rfl,if_neg h2]
 refine fnv (args:=_) mixed [(3,3),(12,3),(16,3),(21,3),(26,3)] [] [] Tryz.func267 rfl (by kernel_rfl) (cw_ ?_)
 refine val_by (andNot64 ht (show 3<2 ^ 64 by decide)) (cw_ ?_)
 rw [e4]
 refine val_by ((and64 ht (show 1<2 ^ 64 by decide)).trans (congrArg (fun x:Nat=>(x:Int)) (Nat.and_one_is_mod _))) (cw_ ?_)
 have hb4:t / 4*4<2 ^ 64:=Nat.lt_of_le_of_lt (Nat.div_mul_le_self _ _) ht
 generalize t / 4*4=base at hk hb4 ⊢
 generalize t % 2=u at hk ⊢
 have no:¬ (u=1∧ci=true∧0≤code∧code≤63)→K (ux base) h:=fun e=>by rw [if_neg e] at hk;exact hk
 refine br_ (fun q1=>?_) fun q1=>?_
 ·cases ci with
  | false =>
   conv=>whnf
   exact no (fun e=>by cases e.2.1)
  | true =>
   conv=>whnf
   refine br_ (fun q2=>?_) fun q2=>?_
   ·conv=>whnf
    refine br_ (fun q3=>?_) fun q3=>?_
    ·rw [if_pos ⟨by omega,rfl,by omega,by omega⟩] at hk
     conv=>whnf
     refine ov_by (show IntKind.u64.wrap code=((code.toNat:Nat):Int) by rw [toU64];omega) ?_
     conv=>whnf
     refine ov_by (show IntKind.u64.wrap (4*((code.toNat:Nat):Int))=((4*code.toNat:Nat):Int) by rw [toU64];omega) ?_
     conv=>whnf
     refine ov_by (show IntKind.u64.wrap ((base:Int)+((4*code.toNat:Nat):Int))=(((base+4*code.toNat) % 18446744073709551616:Nat):Int) by rw [toU64];omega) ?_
     conv=>whnf
     exact hk
    ·conv=>whnf
     exact no (by omega)
   ·conv=>whnf
    exact no (by omega)
 ·conv=>whnf
  exact no (by omega)
theorem iwait_x {b o:Nat} {el:TypeId} {A B:List Value} {f:Csf} (p:Pa h b o el A f.cs B) (ok:f.ok) (lines:Nat) (hl:lines<2 ^ 64) (hk:K (ux (waitN f lines)) h):X Tryz.prog 135 #[.pointer (some ⟨b,o,none⟩),ux lines] h K:=by
 have ha:=ok.at_lt
 have told:toldN f lines<2 ^ 64:=Nat.or_lt_two_pow (ha _) (and_lt hl)
 refine fnv (args:=_) mixed [] [] [] Tryz.func135 rfl (by kernel_rfl) (cw_ ?_)
 refine fget_x p ok 836 lines hl ?_
 rw [show f.get 836 lines=toldN f lines from rfl]
 conv=>whnf
 refine fgetO_x p ok 772 (by decide) (cw_ ?_)
 refine val_by (and64 told (ha 772)) (cw_ ?_)
 exact hk
theorem iwakes_x {b o:Nat} {el:TypeId} {A B:List Value} {f:Csf} (p:Pa h b o el A f.cs B) (ok:f.ok) (lines:Nat) (hl:lines<2 ^ 64) (hk:K (.bool (decide (waitN f lines≠0))) h):X Tryz.prog 72 #[.pointer (some ⟨b,o,none⟩),ux lines] h K:=by
 refine fnv (args:=_) mixed [] [] [] Tryz.func72 rfl (by kernel_rfl) (cw_ ?_)
 refine iwait_x p ok lines hl ?_
 generalize waitN f lines=w at hk ⊢
 conv=>whnf
 exact kq hk (bI (by rw [Bool.eq_iff_iff];simp))
theorem enter_lt {w:Nat} {fr to:Int} (hw:w<2 ^ 64):enterN w fr to<2 ^ 64:=by
 unfold enterN
 split
 ·exact hw
 ·rename_i hp
  have hp:=Classical.not_not.1 hp
  split
  ·refine Nat.or_lt_two_pow (andN_lt _ _) ?_
   rcases hp with rfl | rfl | rfl <;> decide
  ·split
   ·exact with_lt (with_lt (with_lt hw (by decide)) (by decide)) (by decide)
   ·exact hw
theorem tlay_x {b o:Nat} {el:TypeId} {A B:List Value} {f:Csf} (p:Pa h b o el A f.cs B) (ok:f.ok) (w:Nat) (hw:w<2 ^ 64) (hk:∀ h',Pa h' b o el A (f.set 768 w).cs B→(∀ d,d≠b→h' d=h d)→K (.tuple #[]) h'):X Tryz.prog 265 #[.pointer (some ⟨b,o,none⟩),ux w] h K:=by
 refine fnv (args:=_) mixed [] [] [] Tryz.func265 rfl (by kernel_rfl) (cw_ ?_)
 refine fset_x p ok 768 w hw fun h1 p1 o1=>?_
 exact hk h1 p1 o1
theorem tenter_x {b o:Nat} {el:TypeId} {A B:List Value} {f:Csf} (p:Pa h b o el A f.cs B) (ok:f.ok) (c:Cau) (priv:Int) (pc tval:Nat) (hpc:pc<2 ^ 64) (htv:tval<2 ^ 64) (hk:∀ h',Pa h' b o el A (trapF f c priv pc tval).cs B→(trapF f c priv pc tval).ok→(∀ d,d≠b→h' d=h d)→K (.tuple #[.int .i64 (trapTo f c priv),ux (trapPc f c priv pc tval)]) h'):X Tryz.prog 156 #[.pointer (some ⟨b,o,none⟩),.agg c.cs.toArray,.int .i64 priv,ux pc,ux tval] h K:=by
 have ha:=ok.at_lt
 have hcw:=cword_lt c
 unfold trapPc trapF trapTo at hk
 simp only at hk
 refine fnv (args:=_) mixed rfXCaB0 [] [] Tryz.func156 rfl (by kernel_rfl) (cw_ ?_)
 refine fgetO_x p ok 770 (by decide) ?_
 refine ⟨trivial,cw_ ?_⟩
 refine fgetO_x p ok 771 (by decide) ?_
 refine ⟨trivial,cw_ ?_⟩
 refine cto_x c priv (f.at 770) (f.at 771) (ha _) (ha _) ?_
 generalize c.to priv (f.at 770) (f.at 771)=to at hk ⊢
 refine ⟨trivial,cw_ ?_⟩
 by_cases q:to=1
 ·simp only [if_pos q] at hk
  refine tgroup_x to ?_
  rw [if_pos q,if_pos q,if_pos q,if_pos q]
  conv=>whnf
  refine fset_x p ok 321 pc hpc fun h1 p1 o1=>?_
  have ok1:=ok.set 321 hpc
  conv=>whnf
  refine cword_x c ?_
  refine ⟨trivial,cw_ ?_⟩
  refine fset_x p1 ok1 322 _ hcw fun h2 p2 o2=>?_
  have ok2:=ok1.set 322 hcw
  refine ⟨trivial,cw_ ?_⟩
  refine fset_x p2 ok2 323 tval htv fun h3 p3 o3=>?_
  have ok3:=ok2.set 323 htv
  generalize ((f.set 321 pc).set 322 c.word).set 323 tval=f3 at hk p3 ok3
  conv=>whnf
  refine fgetO_x p3 ok3 768 (by decide) (cw_ ?_)
  have he:=enter_lt (fr:=priv) (to:=to) (ok3.at_lt 768)
  refine senter_x (f3.at 768) priv to (ok3.at_lt 768) ?_
  generalize enterN (f3.at 768) priv to=w at hk he ⊢
  conv=>whnf
  refine tlay_x p3 ok3 w he fun h4 p4 o4=>?_
  have ok4:=ok3.set 768 he
  generalize f3.set 768 w=f4 at hk p4 ok4
  conv=>whnf
  refine fgetO_x p4 ok4 261 (by decide) ?_
  refine ⟨trivial,cw_ ?_⟩
  refine tvector_x _ c (ok4.at_lt _) ?_
  refine ⟨trivial,cw_ ?_⟩
  exact hk h4 p4 ok4 fun d hd=>by rw [o4 d hd,o3 d hd,o2 d hd,o1 d hd]
 ·simp only [if_neg q] at hk
  refine tgroup_x to ?_
  rw [if_neg q,if_neg q,if_neg q,if_neg q]
  conv=>whnf
  refine fset_x p ok 833 pc hpc fun h1 p1 o1=>?_
  have ok1:=ok.set 833 hpc
  conv=>whnf
  refine cword_x c ?_
  refine ⟨trivial,cw_ ?_⟩
  refine fset_x p1 ok1 834 _ hcw fun h2 p2 o2=>?_
  have ok2:=ok1.set 834 hcw
  refine ⟨trivial,cw_ ?_⟩
  refine fset_x p2 ok2 835 tval htv fun h3 p3 o3=>?_
  have ok3:=ok2.set 835 htv
  generalize ((f.set 833 pc).set 834 c.word).set 835 tval=f3 at hk p3 ok3
  conv=>whnf
  refine fgetO_x p3 ok3 768 (by decide) (cw_ ?_)
  have he:=enter_lt (fr:=priv) (to:=to) (ok3.at_lt 768)
  refine senter_x (f3.at 768) priv to (ok3.at_lt 768) ?_
  generalize enterN (f3.at 768) priv to=w at hk he ⊢
  conv=>whnf
  refine tlay_x p3 ok3 w he fun h4 p4 o4=>?_
  have ok4:=ok3.set 768 he
  generalize f3.set 768 w=f4 at hk p4 ok4
  conv=>whnf
  refine fgetO_x p4 ok4 773 (by decide) ?_
  refine ⟨trivial,cw_ ?_⟩
  refine tvector_x _ c (ok4.at_lt _) ?_
  refine ⟨trivial,cw_ ?_⟩
  exact hk h4 p4 ok4 fun d hd=>by rw [o4 d hd,o3 d hd,o2 d hd,o1 d hd]
theorem leave_lt {w:Nat} {a:Int} (hw:w<2 ^ 64):leaveW w a<2 ^ 64:=by
 unfold leaveW
 split
 ·split
  ·exact with_lt (andN_lt _ _) (by decide)
  ·exact andN_lt _ _
 ·split
  ·exact with_lt (with_lt (with_lt (with_lt hw (by decide)) (by decide)) (by decide)) (by decide)
  ·exact hw
theorem tleave_x {b o:Nat} {el:TypeId} {A B:List Value} {f:Csf} (p:Pa h b o el A f.cs B) (ok:f.ok) (a:Int) (hA:a=1∨a=3) (hk:∀ h',Pa h' b o el A (f.set 768 (leaveW (f.at 768) a)).cs B→(∀ d,d≠b→h' d=h d)→K (.tuple #[.int .i64 (leaveP (f.at 768) a),ux ((f.set 768 (leaveW (f.at 768) a)).at (if a=1 then 321 else 833))]) h'):X Tryz.prog 295 #[.pointer (some ⟨b,o,none⟩),.int .i64 a] h K:=by
 have hl:=leave_lt (a:=a) (ok.at_lt 768)
 have ok1:=ok.set 768 hl
 rcases hA with rfl | rfl
 all_goals
  refine fnv (args:=_) mixed [] [] [] Tryz.func295 rfl (by kernel_rfl) (cw_ ?_)
  refine fgetO_x p ok 768 (by decide) (cw_ ?_)
  refine sleave_x (f.at 768) _ (ok.at_lt 768) ?_
  generalize leaveP (f.at 768) _=lp at hk ⊢
  generalize leaveW (f.at 768) _=w at hk hl ok1 ⊢
  conv=>whnf
  refine tlay_x p ok w hl fun h1 p1 o1=>?_
  generalize f.set 768 w=f1 at hk p1 ok1
  conv=>whnf
  refine tgroup_x _ (cw_ ?_)
  refine fgetO_x p1 ok1 _ (by decide) ?_
  exact hk h1 p1 o1
end
end Go.Proofs.YtdhlpighdlnohaaGreat
namespace Go.Proofs.YtdhlpighdlnohaaGreat
open Go Go.Mid Go.RowKit Go.Bits
attribute [local irreducible] mid
theorem andX64 {w d:Nat} (hw:w<2 ^ 64) (hd:d<2 ^ 64):IntKind.u64.wrap ((BitVec.ofInt IntKind.u64.bits (w:Int) &&& BitVec.ofInt IntKind.u64.bits (IntKind.u64.wrap ((BitVec.ofInt IntKind.u64.bits (if IntKind.u64.signed=true then -1 else IntKind.u64.max) ^^^ BitVec.ofInt IntKind.u64.bits (d:Int)).toNat:Int))).toNat:Int)=((andN w d:Nat):Int):=by
 have e1:(BitVec.ofInt IntKind.u64.bits (if IntKind.u64.signed=true then -1 else IntKind.u64.max) ^^^ BitVec.ofInt IntKind.u64.bits (d:Int)) = ~~~ BitVec.ofInt IntKind.u64.bits (d:Int):=by
  show (BitVec.ofInt 64 18446744073709551615 ^^^ BitVec.ofInt 64 d) = ~~~ (BitVec.ofInt 64 d)
  rw [show BitVec.ofInt 64 18446744073709551615=BitVec.allOnes 64 by decide,BitVec.allOnes_xor]
 rw [e1]
 have e2:BitVec.ofInt IntKind.u64.bits (IntKind.u64.wrap ((~~~ BitVec.ofInt IntKind.u64.bits (d:Int)).toNat:Int)) = ~~~ BitVec.ofInt IntKind.u64.bits (d:Int):=by
  rw [w64 (show (~~~ BitVec.ofInt IntKind.u64.bits (d:Int)).toNat<2 ^ 64 from (~~~ BitVec.ofInt IntKind.u64.bits (d:Int)).isLt)]
  show BitVec.ofInt 64 (((~~~ BitVec.ofInt 64 (d:Int)).toNat:Nat):Int) = ~~~ BitVec.ofInt 64 (d:Int)
  apply BitVec.eq_of_toNat_eq
  rw [BitVec.toNat_ofInt]
  have:=(~~~ BitVec.ofInt 64 (d:Int)).isLt
  omega
 rw [e2]
 exact andNot64 hw hd
section
variable {h:Hp} {K:Value→Hp→Prop}
theorem inext_x {b o:Nat} {el:TypeId} {A B:List Value} {f:Csf} (p:Pa h b o el A f.cs B) (ok:f.ok) (priv:Int) (lines:Nat) (hl:lines<2 ^ 64) (hk:K (firV (irqN f priv lines)) h):X Tryz.prog 91 #[.pointer (some ⟨b,o,none⟩),.int .i64 priv,ux lines] h K:=by
 have ha:=ok.at_lt
 have hw:waitN f lines<2 ^ 64:=and_lt (Nat.or_lt_two_pow (ha _) (and_lt hl))
 unfold irqN at hk
 refine fnv (args:=_) mixed [(6,6),(12,12),(36,12),(42,12),(13,13)] [] [] Tryz.func91 rfl (by kernel_rfl) (cw_ ?_)
 refine iwait_x p ok lines hl ?_
 generalize waitN f lines=w at hk hw ⊢
 conv=>whnf
 refine br_ (fun q0=>?_) fun q0=>?_
 ·rw [if_pos (by omega)] at hk
  conv=>whnf
  exact hk
 rw [if_neg (by omega)] at hk
 conv=>whnf
 refine fgetO_x p ok 771 (by decide) (cw_ ?_)
 refine fgetO_x p ok 768 (by decide) ?_
 have hd:=ha 771
 have hs:=ha 768
 generalize f.at 771=d at hk hd ⊢
 generalize f.at 768=s at hk hs ⊢
 conv=>whnf
 refine loop_step (cw_ ?_)
 refine slets_x s priv 3 hs ?_
 generalize letsB s priv 3=l3 at hk ⊢
 cases l3 with
 | false =>
  simp only [Bool.false_eq_true,if_false] at hk
  conv=>whnf
  refine n_ ?_
  refine loop_step (cw_ ?_)
  refine slets_x s priv 1 hs ?_
  generalize letsB s priv 1=l1 at hk ⊢
  cases l1 with
  | false =>
   simp only [Bool.false_eq_true,if_false] at hk
   conv=>whnf
   refine n_ ?_
   refine loop_step (cw_ ?_)
   exact hk
  | true =>
   simp only [if_true] at hk
   conv=>whnf
   refine val_by (and64 hw hd) (cw_ ?_)
   refine cfirst_x (w &&& d) (and_lt hw) ?_
   generalize firstC (w &&& d)=c1 at hk ⊢
   cases c1 with
   | none =>
    conv=>whnf
    refine n_ ?_
    refine loop_step (cw_ ?_)
    exact hk
   | some c =>
    conv=>whnf
    exact hk
 | true =>
  simp only [if_true] at hk
  conv=>whnf
  refine val_by (andX64 hw hd) (cw_ ?_)
  refine cfirst_x (andN w d) (andN_lt _ _) ?_
  generalize firstC (andN w d)=c3 at hk ⊢
  cases c3 with
  | some c =>
   conv=>whnf
   exact hk
  | none =>
   simp only at hk
   conv=>whnf
   refine n_ ?_
   refine loop_step (cw_ ?_)
   refine slets_x s priv 1 hs ?_
   generalize letsB s priv 1=l1 at hk ⊢
   cases l1 with
   | false =>
    simp only [Bool.false_eq_true,if_false] at hk
    conv=>whnf
    refine n_ ?_
    refine loop_step (cw_ ?_)
    exact hk
   | true =>
    simp only [if_true] at hk
    conv=>whnf
    refine val_by (and64 hw hd) (cw_ ?_)
    refine cfirst_x (w &&& d) (and_lt hw) ?_
    generalize firstC (w &&& d)=c1 at hk ⊢
    cases c1 with
    | none =>
     conv=>whnf
     refine n_ ?_
     refine loop_step (cw_ ?_)
     exact hk
    | some c =>
     conv=>whnf
     exact hk
end
end Go.Proofs.YtdhlpighdlnohaaGreat
namespace Go.Proofs.YtdhlpighdlnohaaGreat
open Go Go.Mid Go.RowKit
abbrev sv (x:Str):Value:=.string (bs x)
theorem aggStr:isAggT Tryz.prog 9 = some false:=by kernel_rfl
end Go.Proofs.YtdhlpighdlnohaaGreat
namespace Go.Proofs.YtdhlpighdlnohaaGreat
open Go Go.Mid Go.RowKit
attribute [local irreducible] mid
section
variable {h:Hp} {K:Value→Hp→Prop}
def opNames:List Str:=[[108,117,105],[97,117,105,112,99],[106,97,108],[106,97,108,114],[98,101,113],[98,110,101],[98,108,116],[98,103,101],[98,108,116,117],[98,103,101,117],[108,98],[108,104],[108,119],[108,100],[108,98,117],[108,104,117],[108,119,117],[115,98],[115,104],[115,119],[115,100],[97,100,100,105],[115,108,116,105],[115,108,116,105,117],[120,111,114,105],[111,114,105],[97,110,100,105],[115,108,108,105],[115,114,108,105],[115,114,97,105],[97,100,100],[115,117,98],[115,108,108],[115,108,116],[115,108,116,117],[120,111,114],[115,114,108],[115,114,97],[111,114],[97,110,100],[97,100,100,105,119],[115,108,108,105,119],[115,114,108,105,119],[115,114,97,105,119],[97,100,100,119],[115,117,98,119],[115,108,108,119],[115,114,108,119],[115,114,97,119],[102,101,110,99,101],[102,101,110,99,101,46,105],[101,99,97,108,108],[101,98,114,101,97,107],[109,117,108],[109,117,108,104],[109,117,108,104,115,117],[109,117,108,104,117],[100,105,118],[100,105,118,117],[114,101,109],[114,101,109,117],[109,117,108,119],[100,105,118,119],[100,105,118,117,119],[114,101,109,119],[114,101,109,117,119],[108,114,46,119],[115,99,46,119],[97,109,111,115,119,97,112,46,119],[97,109,111,97,100,100,46,119],[97,109,111,120,111,114,46,119],[97,109,111,97,110,100,46,119],[97,109,111,111,114,46,119],[97,109,111,109,105,110,46,119],[97,109,111,109,97,120,46,119],[97,109,111,109,105,110,117,46,119],[97,109,111,109,97,120,117,46,119],[108,114,46,100],[115,99,46,100],[97,109,111,115,119,97,112,46,100],[97,109,111,97,100,100,46,100],[97,109,111,120,111,114,46,100],[97,109,111,97,110,100,46,100],[97,109,111,111,114,46,100],[97,109,111,109,105,110,46,100],[97,109,111,109,97,120,46,100],[97,109,111,109,105,110,117,46,100],[97,109,111,109,97,120,117,46,100],[99,115,114,114,119],[99,115,114,114,115],[99,115,114,114,99],[99,115,114,114,119,105],[99,115,114,114,115,105],[99,115,114,114,99,105],[109,114,101,116],[115,114,101,116],[119,102,105],[115,102,101,110,99,101,46,118,109,97]]
def opWords:Str:=[108,117,105,32,97,117,105,112,99,32,106,97,108,32,106,97,108,114,32,98,101,113,32,98,110,101,32,98,108,116,32,98,103,101,32,98,108,116,117,32,98,103,101,117,32,108,98,32,108,104,32,108,119,32,108,100,32,108,98,117,32,108,104,117,32,108,119,117,32,115,98,32,115,104,32,115,119,32,115,100,32,97,100,100,105,32,115,108,116,105,32,115,108,116,105,117,32,120,111,114,105,32,111,114,105,32,97,110,100,105,32,115,108,108,105,32,115,114,108,105,32,115,114,97,105,32,97,100,100,32,115,117,98,32,115,108,108,32,115,108,116,32,115,108,116,117,32,120,111,114,32,115,114,108,32,115,114,97,32,111,114,32,97,110,100,32,97,100,100,105,119,32,115,108,108,105,119,32,115,114,108,105,119,32,115,114,97,105,119,32,97,100,100,119,32,115,117,98,119,32,115,108,108,119,32,115,114,108,119,32,115,114,97,119,32,102,101,110,99,101,32,102,101,110,99,101,46,105,32,101,99,97,108,108,32,101,98,114,101,97,107,32,109,117,108,32,109,117,108,104,32,109,117,108,104,115,117,32,109,117,108,104,117,32,100,105,118,32,100,105,118,117,32,114,101,109,32,114,101,109,117,32,109,117,108,119,32,100,105,118,119,32,100,105,118,117,119,32,114,101,109,119,32,114,101,109,117,119,32,108,114,46,119,32,115,99,46,119,32,97,109,111,115,119,97,112,46,119,32,97,109,111,97,100,100,46,119,32,97,109,111,120,111,114,46,119,32,97,109,111,97,110,100,46,119,32,97,109,111,111,114,46,119,32,97,109,111,109,105,110,46,119,32,97,109,111,109,97,120,46,119,32,97,109,111,109,105,110,117,46,119,32,97,109,111,109,97,120,117,46,119,32,108,114,46,100,32,115,99,46,100,32,97,109,111,115,119,97,112,46,100,32,97,109,111,97,100,100,46,100,32,97,109,111,120,111,114,46,100,32,97,109,111,97,110,100,46,100,32,97,109,111,111,114,46,100,32,97,109,111,109,105,110,46,100,32,97,109,111,109,97,120,46,100,32,97,109,111,109,105,110,117,46,100,32,97,109,111,109,97,120,117,46,100,32,99,115,114,114,119,32,99,115,114,114,115,32,99,115,114,114,99,32,99,115,114,114,119,105,32,99,115,114,114,115,105,32,99,115,114,114,99,105,32,109,114,101,116,32,115,114,101,116,32,119,102,105,32,115,102,101,110,99,101,46,118,109,97]
def splitSp:Str→List Str
 | []=>[[]]
 | c :: r=>if c=32 then [] :: splitSp r else match splitSp r with
  | []=>[[c]]
  | x :: l=>(c :: x) :: l
theorem splitSp_at:∀ (u r:Str),(∀ c ∈ u,c≠32)→splitSp (u++32 :: r)=u :: splitSp r
 | [],r,_=>by simp [splitSp]
 | c :: u,r,hu=>by
  show splitSp (c :: (u++32 :: r))=_
  rw [splitSp,if_neg (hu c (by simp)),splitSp_at u r (fun x hx=>hu x (by simp [hx]))]
theorem splitSp_last:∀ (u:Str),(∀ c ∈ u,c≠32)→splitSp u=[u]
 | [],_=>by simp [splitSp]
 | c :: u,hu=>by
  rw [splitSp,if_neg (hu c (by simp)),splitSp_last u (fun x hx=>hu x (by simp [hx]))]
theorem opWords_split:splitSp opWords=opNames:=by decide +kernel
theorem opWords_len:opWords.length=558:=by decide +kernel
theorem opNames_len:opNames.length=98:=by decide +kernel
theorem opWords_ascii:∀ c ∈ opWords,c.toNat<128:=by decide +kernel
theorem dec_ascii {l:Str} {i:Nat} {c:UInt8} (hc:l[i]? = some c) (ha:c.toNat<128):Utf8.decode (bs l) i=(c.toNat,1):=by
 obtain ⟨hi,e⟩:=List.getElem?_eq_some_iff.1 hc
 have e0:((bs l).get! (i+0)).toNat=c.toNat:=by
  congr 1
  show (bs l).data[i+0]! = c
  rw [Nat.add_zero,getElem!_pos (bs l).data i (by show i<l.toArray.size;simpa using hi)]
  show l.toArray[i]=c
  rw [List.getElem_toArray];exact e
 unfold Utf8.decode
 simp only [e0]
 rw [if_pos (by omega)]
theorem aggY0:isAggT Tryz.prog 76 = some false:=by kernel_rfl
theorem nextW {h:Hp} {it p:Nat} {l:Str} {c:UInt8} (hi:h it=some (.stringIter (bs l) p)) (hc:l[p]? = some c) (ha:c.toNat<128) :
  nextH h (.pointer (some ⟨it,0,none⟩))=some (.tuple #[.bool true,.int .i64 p,.int .i32 c.toNat],some (it,.stringIter (bs l) (p+1))):=by
 unfold nextH
 simp only [hi,dec_ascii hc ha]
 rw [if_pos (by rw [bs_size];exact (List.getElem?_eq_some_iff.1 hc).1)]
theorem nextE {h:Hp} {it:Nat} {l:Str} (hi:h it=some (.stringIter (bs l) l.length)):nextH h (.pointer (some ⟨it,0,none⟩))=some (.tuple #[.bool false],none):=by
 unfold nextH
 simp only [hi]
 rw [if_neg (by rw [bs_size];omega)]
attribute [irreducible] opNames
theorem all1_x (y:Value)
  (hs:∀ it,h it=none→∃ I:Nat→Hp→Prop,(∀ o,I 0 (h.set it o))∧(∀ i h' o,I i h'→I i (h'.set it o)) ∧
   (∀ i x h',opNames[i]? = some x→I i h'→YV Tryz.prog y [.int .i64 (i+1:Nat),sv x] h' fun v h''=>∃ go:Bool,v=.bool go∧(go=true→I (i+1) h''∧h'' it=h' it)∧(go=false→K (.tuple #[]) h''))∧(∀ h',I 98 h'→K (.tuple #[]) h')):X Tryz.prog 382 #[y] h K:=by
 have hasc:∀ (i:Nat) (c:UInt8),opWords[i]? = some c→c.toNat<128:=fun i c hc=>opWords_ascii c (List.mem_of_getElem? hc)
 have hlen:=opWords_len
 have hnl:=opNames_len
 have hspl:=opWords_split
 refine fnv (args:=_) mixed [] [] [] Tryz.func382 rfl (by kernel_rfl) (cw_ ?_)
 intro it hit
 obtain ⟨I,i0,i1,i2,i3⟩:=hs it hit
 have hi0:=i0 (.stringIter (bs opWords) 0)
 clear i0
 refine loop_at [2,3] [] (fun r vs _ h'=>∃ p f k:Nat,h' it=some (.stringIter (bs opWords) p)∧p≤558∧f≤p∧r=558 - p∧vs=[.v (.int .i64 (k+1:Nat)),.v (.int .i64 f)]∧opNames.drop k=splitSp (opWords.drop f)∧(∀ c ∈ (opWords.take p).drop f,c≠32)∧I k h') 558 ⟨0,0,0,Hp.set_same _ _ _,by omega,by omega,by omega,rfl,by rw [List.drop_zero,List.drop_zero,hspl],by simp,hi0⟩ ?_
 rintro r vs cs mm bx h1 ⟨p,f,k,hI,hp,hf,rfl,rfl,hsp,hno,hIk⟩
 by_cases hpl:p=558
 ·subst hpl
  rw [show (558:Nat)=opWords.length from hlen.symm] at hI
  have hu:(opWords.take 558).drop f=opWords.drop f:=by rw [List.take_of_length_le (Nat.le_of_eq hlen)]
  rw [hu] at hno
  rw [splitSp_last _ hno] at hsp
  have hk1:k+1=98:=by
   have:=congrArg List.length hsp
   simp [hnl] at this
   omega
  have hnk:opNames[k]? = some (opWords.drop f):=by
   have:=congrArg (fun l=>l[0]?) hsp
   simpa using this
  have hyk:=i2 k _ h1 hnk hIk
  conv=>whnf
  refine io_none (nextE hI) (cw_ ?_)
  refine n_ ?_ (hc:=by exact ⟨by omega,by show _≤((558:Nat):Int);omega⟩)
  refine sub_by (l:=opWords) (m:=opWords.drop f) (by rw [show ((f:Int)).toNat=f by omega];exact hu) (cw_ ?_)
  refine aRunK_yv rfl rfl rfl (hyk.mono ?_)
  rintro v h2 ⟨go,rfl,g1,g2⟩
  cases go with
  | true =>
   conv=>whnf
   exact i3 _ (by rw [← hk1];exact (g1 rfl).1)
  | false =>
   conv=>whnf
   exact g2 rfl
 ·obtain ⟨c,hc⟩:∃ c,opWords[p]? = some c:=⟨_,List.getElem?_eq_getElem (by omega)⟩
  have hsplit:opWords.drop f=(opWords.take p).drop f++c :: opWords.drop (p+1):=by
   obtain ⟨hp2,rfl⟩:=List.getElem?_eq_some_iff.1 hc
   rw [← List.drop_eq_getElem_cons hp2,← List.drop_append_of_le_length (by rw [List.length_take];omega),List.take_append_drop]
  conv=>whnf
  refine io_intro (by exact nextW hI hc (hasc p c hc)) (fun h2 at_h2 ot_h2=>cw_ ?_)
  have e2:=Hp.eq_set at_h2 ot_h2
  have hI2:I k h2:=by rw [e2];exact i1 _ _ _ hIk
  refine br_ (fun q1=>?_) fun q1=>?_
  ·have hc32:c≠32:=fun e=>by subst e;exact q1 rfl
   conv=>whnf
   refine ⟨558 - (p+1),by omega,p+1,f,k,at_h2,by omega,by omega,rfl,rfl,hsp,fun d hd=>?_,hI2⟩
   rw [List.take_add_one,hc,List.drop_append_of_le_length (by rw [List.length_take];omega)] at hd
   rcases List.mem_append.1 hd with hd | hd
   ·exact hno d hd
   ·simp at hd;subst hd;exact hc32
  ·have hc32:c=32:=by
    apply UInt8.toNat_inj.1
    show c.toNat=32
    omega
   subst hc32
   rw [hsplit,splitSp_at _ _ hno] at hsp
   have hnk:opNames[k]? = some ((opWords.take p).drop f):=by
    have:=congrArg (fun l=>l[0]?) hsp
    simpa using this
   have hyk:=i2 k _ h2 hnk hI2
   have hsp2:opNames.drop (k+1)=splitSp (opWords.drop (p+1)):=by
    have:=congrArg (fun l=>l.drop 1) hsp
    simpa [List.drop_drop] using this
   have hk98:k<98:=by
    have:=(List.getElem?_eq_some_iff.1 hnk).1
    omega
   conv=>whnf
   refine n_ ?_ (hc:=by exact ⟨by omega,by show _≤((558:Nat):Int);omega⟩)
   refine n_ ?_
   refine sub_by (l:=opWords) (m:=(opWords.take p).drop f) (by rw [show ((f:Int)).toNat=f by omega,show ((p:Int)).toNat=p by omega]) (cw_ ?_)
   refine aRunK_yv rfl rfl rfl (hyk.mono ?_)
   rintro v h3 ⟨go,rfl,g1,g2⟩
   cases go with
   | true =>
    obtain ⟨g3,g4⟩:=g1 rfl
    conv=>whnf
    refine n_ ?_
    refine n_ ?_
    refine ⟨558 - (p+1),by omega,p+1,p+1,k+1,g4.trans at_h2,by omega,by omega,rfl,rfl,hsp2,fun d hd=>?_,g3⟩
    rw [List.drop_eq_nil_of_le (by rw [List.length_take];omega)] at hd
    cases hd
   | false =>
    conv=>whnf
    exact g2 rfl
theorem all_x (hk:K (.func (.func 382) #[] #[]) h):X Tryz.prog 359 #[] h K:=by
 refine fnv (args:=_) mixed [] [] [] Tryz.func359 rfl (by kernel_rfl) (cw_ ?_)
 exact hk
def opName (n:Int):Str:=if 1≤n∧n≤98 then opNames.getD (n.toNat - 1) [] else []
theorem aggSt:isAggT Tryz.prog 9 = some false:=by kernel_rfl
theorem sizSt:sizeT Tryz.prog 9 = some 1:=by kernel_rfl
end
end Go.Proofs.YtdhlpighdlnohaaGreat
namespace Go.Proofs.YtdhlpighdlnohaaGreat
open Go Go.Mid Go.RowKit
attribute [local irreducible] mid
section
variable {h:Hp} {K:Value→Hp→Prop}
theorem kname_x (n:Int) (hk:K (.string (bs (opName n))) h):X Tryz.prog 288 #[.int .i64 n] h K:=by
 refine X.forget ?_
 have hk':∀ h':Hp,h.le h'→(∃ g:Hp,g.le h'∧K (.string (bs (opName n))) g):=fun h' hle=>⟨h,hle,hk⟩
 clear hk
 refine fnv (args:=_) mixed [] [] [] Tryz.func288 rfl (by kernel_rfl) (cw_ ?_)
 refine new_intro (o:=rowO 76 [.int .i64 n]) (fun b h1 n_b le_b at_b ot_b=>cw_ ?_)
 refine new_intro (o:=rowO 9 [.string ⟨#[]⟩]) (fun r h2 n_r le_r at_r ot_r=>cw_ ?_)
 have b2:=le_r b _ at_b
 have hbr:b≠r:=Hp.ne n_r at_b
 have l2:h.le h2:=Hp.le_trans le_b le_r
 have nr:h r=none:=Hp.none_le le_b n_r
 refine all_x (cw_ ?_)
 refine ⟨fun lp lc hl hy=>?_⟩
 have dlb:b≠lp:=Hp.ne hl b2
 have dlr:r≠lp:=Hp.ne hl at_r
 have nl:h lp=none:=Hp.none_le l2 hl
 refine all1_x (yieldV lp) fun it hit=>?_
 have dit:it≠lp:=fun e=>by subst e;rw [Hp.set_same] at hit;cases hit
 have hit2:h2 it=none:=by rw [Hp.set_other _ _ dit] at hit;exact hit
 have ditb:b≠it:=Hp.ne hit2 b2
 have ditr:r≠it:=Hp.ne hit2 at_r
 have niit:h it=none:=Hp.none_le l2 hit2
 refine ⟨fun i h'=>h' lp=some (lob lc .ready none)∧h' b=some (rowO 76 [.int .i64 n])∧h' r=some (rowO 9 [.string ⟨#[]⟩])∧h.le h'∧¬ (1≤n∧n≤i),fun o=>?_,fun i h' o hI=>?_,fun i x h' hx hI=>?_,fun h' hI=>?_⟩
 ·exact ⟨by rw [Hp.set_other _ _ (Ne.symm dit),Hp.set_same],by rw [Hp.set_other _ _ ditb,Hp.set_other _ _ dlb];exact b2,by rw [Hp.set_other _ _ ditr,Hp.set_other _ _ dlr];exact at_r,Hp.le_keep (Hp.le_keep l2 nl) niit,by omega⟩
 ·obtain ⟨a1,a2,a3,a4,a5⟩:=hI
  exact ⟨by rw [Hp.set_other _ _ (Ne.symm dit)];exact a1,by rw [Hp.set_other _ _ ditb];exact a2,by rw [Hp.set_other _ _ ditr];exact a3,Hp.le_keep a4 niit,a5⟩
 ·obtain ⟨a1,a2,a3,a4,a5⟩:=hI
  have b2':(h'.set lp (lob lc .busy none)) b=some (rowO 76 [.int .i64 n]):=by rw [Hp.set_other _ _ dlb];exact a2
  have r2':(h'.set lp (lob lc .busy none)) r=some (rowO 9 [.string ⟨#[]⟩]):=by rw [Hp.set_other _ _ dlr];exact a3
  have lp2:(h'.set lp (lob lc .busy none)) lp=some (lob lc .busy none):=Hp.set_same _ _ _
  have le2:h.le (h'.set lp (lob lc .busy none)):=Hp.le_keep a4 nl
  have it2:(h'.set lp (lob lc .busy none)) it=h' it:=Hp.set_other _ _ dit
  have hil:=(List.getElem?_eq_some_iff.1 hx).1
  have hx2:opNames.getD i []=x:=by rw [List.getD_eq_getElem?_getD,hx];rfl
  rw [opNames_len] at hil
  refine hy _ _ _ ⟨rfl,a1,cw_ ?_⟩
  refine ⟨a1,?_⟩
  generalize h'.set lp (lob lc .busy none)=hb at b2' r2' lp2 le2 it2 ⊢
  conv=>whnf
  refine ⟨_,loadC0 aggY0 b2' rfl,cw_ ?_⟩
  refine br_ (fun q1=>?_) fun q1=>?_
  ·have hn:opName n=x:=by
    unfold opName
    rw [if_pos (by omega),show n.toNat - 1=i by omega];exact hx2
   conv=>whnf
   refine wr_intro (by exact storeC0 sizSt r2' (Nat.zero_lt_succ 0) rfl rfl) (fun h5 at_h5 ot_h5=>cw_ ?_)
   have lp5:h5 lp=some (lob lc .busy none):=by rw [ot_h5 lp (Ne.symm dlr)];exact lp2
   have r5:(h5.set lp (lob lc .done (some .ret))) r=some (rowO 9 [sv x]):=by rw [Hp.set_other _ _ dlr];exact at_h5
   have le5:h.le h5:=fun c o e=>by rw [ot_h5 c (Hp.ne nr e)];exact le2 _ _ e
   refine ⟨lp5,?_⟩
   refine ⟨false,rfl,⟨(fun e=>by cases e),fun _=>?_⟩⟩
   refine ⟨.done,some .ret,Hp.set_same _ _ _,by simp,?_⟩
   rw [Hp.set_set]
   have r6:(h5.set lp (lob lc .exhausted (some .ret))) r=some (rowO 9 [sv x]):=by rw [Hp.set_other _ _ dlr];exact at_h5
   have le6:=hk' (h5.set lp (lob lc .exhausted (some .ret))) (Hp.le_keep le5 nl)
   rw [hn] at le6
   conv=>whnf
   refine ⟨_,loadC0 aggSt r6 rfl,cw_ ?_⟩
   exact le6
  ·conv=>whnf
   refine ⟨lp2,true,rfl,fun _=>⟨⟨Hp.set_same _ _ _,by rw [Hp.set_other _ _ dlb];exact b2',by rw [Hp.set_other _ _ dlr];exact r2',Hp.le_keep le2 nl,by omega⟩,by rw [Hp.set_other _ _ dit];exact it2⟩,fun e=>by cases e⟩
 ·obtain ⟨a1,a2,a3,a4,a5⟩:=hI
  have hn:opName n=[]:=if_neg a5
  refine ⟨.ready,none,a1,by simp,?_⟩
  have r6:(h'.set lp (lob lc .exhausted none)) r=some (rowO 9 [.string ⟨#[]⟩]):=by rw [Hp.set_other _ _ dlr];exact a3
  have le6:=Hp.le_keep (b:=lp) (o:=lob lc .exhausted none) a4 nl
  generalize h'.set lp (lob lc .exhausted none)=h6 at r6 le6 ⊢
  conv=>whnf
  refine wr_intro (by exact storeC0 sizSt r6 (Nat.zero_lt_succ 0) rfl rfl) (fun h7 at_h7 ot_h7=>cw_ ?_)
  have r7:h7 r=some (rowO 9 [.string ⟨#[]⟩]):=at_h7
  have k7:=hk' h7 (fun c o e=>by rw [ot_h7 c (Hp.ne nr e)];exact le6 _ _ e)
  rw [hn] at k7
  conv=>whnf
  refine ⟨_,loadC0 aggSt r7 rfl,cw_ ?_⟩
  exact k7
end
end Go.Proofs.YtdhlpighdlnohaaGreat
namespace Go.Proofs.YtdhlpighdlnohaaGreat
open Go Go.Mid Go.RowKit Go.Bits
attribute [local irreducible] mid
section
variable {h:Hp} {K:Value→Hp→Prop}
theorem word_eq (w:Nat):IntKind.u64.wrap (IntKind.i64.wrap (IntKind.i32.wrap ((w % 4294967296:Nat):Int)))=((signN (w % 2 ^ 32) 32:Nat):Int):=by
 have hm:w % 2 ^ 32<2 ^ 32:=Nat.mod_lt _ (by decide)
 rw [sign_eq hm (by decide) (by decide),toU64,IntKind.wrap_i64,IntKind.wrap_i32]
 rw [show (2:Nat) ^ 32=4294967296 from rfl,show (2:Nat) ^ (32 - 1)=2147483648 from rfl,show (2:Nat) ^ 64=18446744073709551616 from rfl]
 split <;> omega
theorem bword_x (w:Nat) (hw:w<2 ^ 64) (hk:K (ux (signN (w % 2 ^ 32) 32)) h):X Tryz.prog 278 #[ux w] h K:=by
 refine fnv (args:=_) mixed [] [] [] Tryz.func278 rfl (by kernel_rfl) (cw_ ?_)
 refine ov_by (toU32 w) (cw_ ?_)
 refine ov_wrap (cw_ ?_)
 refine ov_wrap (cw_ ?_)
 refine ov_by (word_eq w) (cw_ ?_)
 exact hk
def gath (w:Nat):List (Nat×Nat)→Nat→Nat
 | [],out=>out
 | p :: l,out=>gath w l ((out*2 ^ p.2 % 18446744073709551616) ||| (w / 2 ^ p.1 % 2 ^ p.2))
def partC (p:Nat×Nat):List Value:=[.int .i64 p.1,.int .i64 p.2]
theorem aggPt:isAggT Tryz.prog 366 = some true:=by kernel_rfl
theorem sizPt:sizeT Tryz.prog 366 = some 2:=by kernel_rfl
theorem bgather_x (w:Nat) (hw:w<2 ^ 64) (L:List (Nat×Nat)) (b cap:Nat) (hb:h b=some (rowO 366 (L.flatMap partC))) (hL:∀ p ∈ L,p.1≤63∧1≤p.2∧p.2≤63) (hl:L.length≤64) (hk:K (ux (gath w L 0)) h):X Tryz.prog 277 #[ux w,.slice (some ⟨b,0,none⟩) L.length cap] h K:=by
 refine fnv (args:=_) mixed [(7,7),(14,7),(18,7),(23,7),(25,7)] [] [] Tryz.func277 rfl (by kernel_rfl) (cw_ ?_)
 refine loop_at [10,5] [] (fun r vs _ h'=>h=h'∧∃ (i o:Nat),i≤L.length∧r=L.length - i∧vs=[.v (.int .i64 i),.v (ux o)]∧o<2 ^ 64∧gath w (L.drop i) o=gath w L 0) L.length ⟨rfl,0,0,by omega,by omega,rfl,by decide,rfl⟩ ?_
 rintro r vs cs mm bx _ ⟨rfl,i,o,hi,rfl,rfl,ho,hR⟩
 conv=>whnf
 refine br_ (fun q1=>?_) fun q1=>?_
 ·have hi2:i<L.length:=by omega
  obtain ⟨p,hp⟩:∃ p,L[i]? = some p:=⟨_,List.getElem?_eq_getElem hi2⟩
  have hpp:=hL p (List.mem_of_getElem? hp)
  have hd:L.drop i=p :: L.drop (i+1):=by
   rw [List.drop_eq_getElem_cons hi2]
   congr 1
   exact (List.getElem?_eq_some_iff.1 hp).2
  rw [hd] at hR
  have hR:gath w (L.drop (i+1)) ((o*2 ^ p.2 % 18446744073709551616) ||| (w / 2 ^ p.1 % 2 ^ p.2))=gath w L 0:=hR
  have hl1:=loadH_agg (n:=2) (f:=partC) aggPt sizPt (fun _=>rfl) (rest:=[]) (show h b=some (rowO 366 (L.flatMap partC++[])) by rw [List.append_nil];exact hb) hp
  have h1:o*2 ^ p.2 % 18446744073709551616<2 ^ 64:=Nat.mod_lt _ (by decide)
  have h2:w / 2 ^ p.1 % 2 ^ p.2<2 ^ 64:=Nat.lt_of_le_of_lt (Nat.mod_le _ _) (Nat.lt_of_le_of_lt (Nat.div_le_self _ _) hw)
  conv=>whnf
  refine n_ ?_
  refine ⟨_,hl1,cw_ ?_⟩
  refine bf_ ?_
  have em:(if (64:Int)<(p.2:Int) then (64:Int) else (p.2:Int))=(p.2:Int):=if_neg (by omega)
  rw [em]
  refine bup_x o p.2 (by omega) ?_
  refine ⟨trivial,cw_ ?_⟩
  refine bcut_x w p.1 p.2 hw (by omega) (by omega) ?_
  refine ⟨trivial,cw_ ?_⟩
  refine val_by (or64 h1 h2) (cw_ ?_)
  refine n_ ?_
  exact ⟨L.length - (i+1),by omega,rfl,i+1,_,by omega,rfl,rfl,Nat.or_lt_two_pow h1 h2,hR⟩
 ·obtain rfl:i=L.length:=by omega
  rw [List.drop_length] at hR
  have hR:o=gath w L 0:=hR
  subst hR
  conv=>whnf
  exact hk
end
end Go.Proofs.YtdhlpighdlnohaaGreat
