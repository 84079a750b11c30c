/-
  Images: what is parsed, plainly.
-/
import Derived.Test.YtdhkjcdneidgaaaGreatDoorBitX
import Derived.Test.YtdhkjcdneidgaaaGreatDoorRgRegA
import Derived.Test.YtdhkjcdneidgaaaGreatDoorInsF
import Derived.Test.YtdhkjcdneidgaaaGreatDoorAsP
import Derived.Test.YtdhkjcdneidgaaaGreatDoorAsI
import Derived.Test.YtdhkjcdneidgaaaGreatDoorInsDe
import Derived.Test.YtdhkjcdneidgaaaGreatDoorPgC
import Derived.Test.YtdhkjcdneidgaaaGreatDoorPgL
import Derived.Test.YtdhkjcdneidgaaaGreatDoorAsE
namespace Go.Proofs.YtdhkjcdneidgaaaGreatDoor
set_option linter.unusedSimpArgs false
set_option linter.unusedVariables false
set_option linter.unusedSimpArgs false
set_option linter.unusedVariables false
open Go Go.Mid Go.RowKit
attribute [local irreducible] mid
def NumR (s:Str) (k:Int) (ok:Bool):Prop:=(ok=true→Lib.itoa k=s ∧ -9223372036854775808≤k∧k≤9223372036854775807)∧∀ n:Nat,n<9223372036854775808→s=Lib.decDigits n→ok=true∧k=n
theorem NumR.no {s:Str} {k:Int} (h:∀ n:Nat,n<9223372036854775808→s≠Lib.decDigits n):NumR s k false:=⟨fun e=>(by cases e),fun n hn e=>absurd e (h n hn)⟩
section
set_option maxHeartbeats 8000000
set_option maxRecDepth 10000
variable {h:Hp} {K:Value→Hp→Prop}
theorem numF_x (s t:Str) (below:Bool) (hb:below=true→s=45 :: t) (hn:below=false→t=s∧∀ c r,s=c :: r→c≠45):(∀ n:Nat,n<9223372036854775808→s=Lib.decDigits n→below=false∧t=s∧digs t∧dv t=n∧t≠[]∧t.length≤19):=fun n h e=>by
 obtain ⟨h1,h2⟩:=dec_dv n
 cases below with
 | true =>
  have h3:=hb rfl
  rw [e] at h3
  have:=h2 45 (by rw [h3];simp)
  exact absurd this.1 (by decide)
 | false =>
  obtain ⟨h3,_⟩:=hn rfl
  rw [h3,e]
  exact ⟨rfl,rfl,h2,h1,dec_ne n,dec_len19 h⟩
theorem wrapI64 (x:Int):IntKind.i64.wrap x=(x+9223372036854775808) % 18446744073709551616 - 9223372036854775808:=by
 unfold IntKind.wrap
 simp [IntKind.signed,IntKind.bits]
 split <;> omega
theorem number_x (s:Str) (hs:s.length≤2 ^ 40) (hk:∀ k ok,NumR s k ok→K (.tuple #[.int .i64 k,.bool ok]) h):X Tryz.prog 83 #[sv s] h K:=by
 have hno:∀ k:Int,(∀ n:Nat,n<9223372036854775808→s≠Lib.decDigits n)→K (.tuple #[.int .i64 k,.bool false]) h:=fun k hh=>hk k false (NumR.no hh)
 refine fnv (args:=_) mixed [] [] [] Tryz.func83 rfl (by kernel_rfl) ?_;conv=>whnf
 by_cases hc:∃ r,s=45 :: r
 ·obtain ⟨t,rfl⟩:=hc
  have hnum:=numF_x (45 :: t) t true (fun _=>rfl) (fun e=>by cases e)
  conv=>whnf
  refine bsel_true (by rw [bs_size];simp) ?_;conv=>whnf
  refine ch_intro ((45:UInt8)) (by omega) (rfl) ?_;conv=>whnf
  refine need_intro (by rw [bs_size,List.length_cons];omega) ?_
  conv=>whnf
  refine sub_from (m:=t) rfl ?_
  conv=>whnf
  conv=>whnf
  refine bsel_intro (fun q1=>?_) (fun q1=>?_) <;> try simp only [bsL] at q1
  ·conv=>whnf
   exact hno _ fun n hn e=>(hnum n hn e).2.2.2.2.1 (List.eq_nil_of_length_eq_zero (by omega))
  conv=>whnf
  refine bsel_intro (fun q2=>?_) (fun q2=>?_) <;> try simp only [bsL] at q2
  ·conv=>whnf
   exact hno _ fun n hn e=>by have:=(hnum n hn e).2.2.2.2.2;omega
  conv=>whnf
  refine loop_at [7,6] [] (fun r vs _ h'=>h=h'∧∃ i:Nat,i≤t.length∧r=t.length - i∧vs=[.v (.int .i64 i),.v (.int .u64 (dv (t.take i):Nat))]∧digs (t.take i)) t.length ⟨rfl,0,by omega,by omega,rfl,by simp [digs]⟩ ?_
  rintro r vs cs mm bx _ ⟨rfl,i,hi,rfl,rfl,hdg⟩
  conv=>whnf
  refine bsel_intro (fun q3=>?_) (fun q3=>?_) <;> try simp only [bsL] at q3
  ·have hiT:i<t.length:=by omega
   obtain ⟨b,hb⟩:∃ b,t[i]? = some b:=⟨_,List.getElem?_eq_getElem hiT⟩
   have hb':t[((i:Nat):Int).toNat]? = some b:=by rw [Int.toNat_natCast];exact hb
   have hdv:=dv_lt 18 (t.take i) (by rw [List.length_take];omega) hdg
   have hb8:=b.toNat_lt
   have htk:t.take (i+1)=t.take i++[b]:=by rw [List.take_add_one,hb];rfl
   have hdv2:=dv_snoc (t.take i) b
   rw [← htk] at hdv2
   have hbd:∀ n:Nat,n<9223372036854775808→_=Lib.decDigits n→48≤b.toNat∧b.toNat≤57:=fun n hn e=>(hnum n hn e).2.2.1 b (List.mem_of_getElem? hb)
   generalize dv (t.take i)=D at *
   conv=>whnf
   refine ch_intro (b) (by omega) (hb') ?_;conv=>whnf
   refine bsel_intro (fun q4=>?_) (fun q4=>?_) <;> try simp only [bsL] at q4
   ·conv=>whnf
    exact hno _ fun n hn e=>by have:=hbd n hn e;omega
   conv=>whnf
   refine ch_intro (b) (by omega) (hb') ?_;conv=>whnf
   refine bsel_intro (fun q5=>?_) (fun q5=>?_) <;> try simp only [bsL] at q5
   ·conv=>whnf
    exact hno _ fun n hn e=>by have:=hbd n hn e;omega
   conv=>whnf
   (first | refine ov_c (by simp only [loK,hiK];omega) ?_ | refine ov_c (by decide) ?_);conv=>whnf
   refine ch_intro (b) (by omega) (hb') ?_;conv=>whnf
   (first | refine ov_c (by simp only [loK,hiK];omega) ?_ | refine ov_c (by decide) ?_);conv=>whnf
   (first | refine ov_c (by simp only [loK,hiK];omega) ?_ | refine ov_c (by decide) ?_);conv=>whnf
   (first | refine ov_c (by simp only [loK,hiK];omega) ?_ | refine ov_c (by decide) ?_);conv=>whnf
   (first | refine ov_c (by simp only [loK,hiK];omega) ?_ | refine ov_c (by decide) ?_);conv=>whnf
   refine ⟨t.length - (i+1),by omega,rfl,i+1,by omega,rfl,?_,?_⟩
   ·show [MV.v (.int .i64 ((i:Int)+1)),MV.v (.int .u64 (10*(D:Int)+((b.toNat:Int) - 48)))]=_
    rw [show 10*(D:Int)+((b.toNat:Int) - 48)=((dv (t.take (i+1)):Nat):Int) by omega]
    rfl
   ·intro x hx
    rw [htk] at hx
    rcases List.mem_append.1 hx with hx | hx
    ·exact hdg x hx
    ·simp only [List.mem_singleton] at hx;subst hx;omega
  have hin:i=t.length:=by omega
  subst hin
  rw [List.take_length] at hdg ⊢
  have hdv:=dv_lt 19 t (by omega) hdg
  have hnn:∀ n:Nat,n<9223372036854775808→_=Lib.decDigits n→dv t=n:=fun n hn e=>(hnum n hn e).2.2.2.1
  generalize dv t=D at *
  conv=>whnf
  refine bsel_intro (fun q6=>?_) (fun q6=>?_) <;> try simp only [bsL] at q6
  ·conv=>whnf
   exact hno _ fun n hn e=>by have:=hnn n hn e;omega
  conv=>whnf
  refine ov_by (y:=if D=9223372036854775808 then -9223372036854775808 else (D:Int)) (by rw [wrapI64];split <;> omega) ?_
  conv=>whnf
  refine ov_by (y:=if D=0 then 0 else 18446744073709551616 - (D:Int)) (by rw [wrap_u64];split <;> omega) ?_
  conv=>whnf
  refine ov_by (y := -(D:Int)) (by rw [wrapI64];split <;> omega) ?_
  conv=>whnf
  refine rDigits_x (-(D:Int)) (by omega) (by omega) ?_
  have hno2:∀ k:Int,K (.tuple #[.int .i64 k,.bool false]) h:=fun k=>hno k fun n hn e=>by have:=(hnum n hn e).1;cases this
  conv=>whnf
  refine seq_intro ?_
  conv=>whnf
  refine bsel_intro (fun q9=>?_) (fun q9=>?_) <;> try simp only [bsL] at q9
  ·conv=>whnf
   exact hno2 _
  ·conv=>whnf
   exact hk _ true ⟨fun _=>⟨q9,by omega,by omega⟩,fun n hn e=>by have:=(hnum n hn e).1;cases this⟩
 ·obtain ⟨t,hts⟩:∃ t,t=s:=⟨s,rfl⟩
  subst hts
  have hnum:=numF_x t t false (fun e=>by cases e) (fun _=>⟨rfl,fun c r e e2=>hc ⟨r,by rw [e,e2]⟩⟩)
  refine bsel_intro (fun q0=>?_) (fun q0=>?_) <;> try simp only [bsL] at q0
  ·obtain ⟨b0,hb0⟩:∃ b,t[0]? = some b:=⟨_,List.getElem?_eq_getElem (by omega)⟩
   have hb45:b0.toNat≠45:=fun e=>hc ⟨t.drop 1,by
    have e2:b0=45:=UInt8.toNat_inj.1 e
    cases t with
    | nil=>simp at hb0
    | cons x y=>simp at hb0;rw [hb0,e2];rfl⟩
   conv=>whnf
   refine ch_intro (b0) (by omega) (hb0) ?_;conv=>whnf
   refine bsel_false (by simp;omega) ?_;conv=>whnf
   conv=>whnf
   refine bsel_intro (fun q1=>?_) (fun q1=>?_) <;> try simp only [bsL] at q1
   ·conv=>whnf
    exact hno _ fun n hn e=>(hnum n hn e).2.2.2.2.1 (List.eq_nil_of_length_eq_zero (by omega))
   conv=>whnf
   refine bsel_intro (fun q2=>?_) (fun q2=>?_) <;> try simp only [bsL] at q2
   ·conv=>whnf
    exact hno _ fun n hn e=>by have:=(hnum n hn e).2.2.2.2.2;omega
   conv=>whnf
   refine loop_at [7,6] [] (fun r vs _ h'=>h=h'∧∃ i:Nat,i≤t.length∧r=t.length - i∧vs=[.v (.int .i64 i),.v (.int .u64 (dv (t.take i):Nat))]∧digs (t.take i)) t.length ⟨rfl,0,by omega,by omega,rfl,by simp [digs]⟩ ?_
   rintro r vs cs mm bx _ ⟨rfl,i,hi,rfl,rfl,hdg⟩
   conv=>whnf
   refine bsel_intro (fun q3=>?_) (fun q3=>?_) <;> try simp only [bsL] at q3
   ·have hiT:i<t.length:=by omega
    obtain ⟨b,hb⟩:∃ b,t[i]? = some b:=⟨_,List.getElem?_eq_getElem hiT⟩
    have hb':t[((i:Nat):Int).toNat]? = some b:=by rw [Int.toNat_natCast];exact hb
    have hdv:=dv_lt 18 (t.take i) (by rw [List.length_take];omega) hdg
    have hb8:=b.toNat_lt
    have htk:t.take (i+1)=t.take i++[b]:=by rw [List.take_add_one,hb];rfl
    have hdv2:=dv_snoc (t.take i) b
    rw [← htk] at hdv2
    have hbd:∀ n:Nat,n<9223372036854775808→_=Lib.decDigits n→48≤b.toNat∧b.toNat≤57:=fun n hn e=>(hnum n hn e).2.2.1 b (List.mem_of_getElem? hb)
    generalize dv (t.take i)=D at *
    conv=>whnf
    refine ch_intro (b) (by omega) (hb') ?_;conv=>whnf
    refine bsel_intro (fun q4=>?_) (fun q4=>?_) <;> try simp only [bsL] at q4
    ·conv=>whnf
     exact hno _ fun n hn e=>by have:=hbd n hn e;omega
    conv=>whnf
    refine ch_intro (b) (by omega) (hb') ?_;conv=>whnf
    refine bsel_intro (fun q5=>?_) (fun q5=>?_) <;> try simp only [bsL] at q5
    ·conv=>whnf
     exact hno _ fun n hn e=>by have:=hbd n hn e;omega
    conv=>whnf
    (first | refine ov_c (by simp only [loK,hiK];omega) ?_ | refine ov_c (by decide) ?_);conv=>whnf
    refine ch_intro (b) (by omega) (hb') ?_;conv=>whnf
    (first | refine ov_c (by simp only [loK,hiK];omega) ?_ | refine ov_c (by decide) ?_);conv=>whnf
    (first | refine ov_c (by simp only [loK,hiK];omega) ?_ | refine ov_c (by decide) ?_);conv=>whnf
    (first | refine ov_c (by simp only [loK,hiK];omega) ?_ | refine ov_c (by decide) ?_);conv=>whnf
    (first | refine ov_c (by simp only [loK,hiK];omega) ?_ | refine ov_c (by decide) ?_);conv=>whnf
    refine ⟨t.length - (i+1),by omega,rfl,i+1,by omega,rfl,?_,?_⟩
    ·show [MV.v (.int .i64 ((i:Int)+1)),MV.v (.int .u64 (10*(D:Int)+((b.toNat:Int) - 48)))]=_
     rw [show 10*(D:Int)+((b.toNat:Int) - 48)=((dv (t.take (i+1)):Nat):Int) by omega]
     rfl
    ·intro x hx
     rw [htk] at hx
     rcases List.mem_append.1 hx with hx | hx
     ·exact hdg x hx
     ·simp only [List.mem_singleton] at hx;subst hx;omega
   have hin:i=t.length:=by omega
   subst hin
   rw [List.take_length] at hdg ⊢
   have hdv:=dv_lt 19 t (by omega) hdg
   have hnn:∀ n:Nat,n<9223372036854775808→_=Lib.decDigits n→dv t=n:=fun n hn e=>(hnum n hn e).2.2.2.1
   generalize dv t=D at *
   conv=>whnf
   refine bsel_intro (fun q6=>?_) (fun q6=>?_) <;> try simp only [bsL] at q6
   ·conv=>whnf
    exact hno _ fun n hn e=>by have:=hnn n hn e;omega
   conv=>whnf
   refine bsel_intro (fun q7=>?_) (fun q7=>?_) <;> try simp only [bsL] at q7
   ·conv=>whnf
    exact hno _ fun n hn e=>by have:=hnn n hn e;omega
   conv=>whnf
   (first | refine ov_c (by simp only [loK,hiK];omega) ?_ | refine ov_c (by decide) ?_);conv=>whnf
   refine rDigits_x (D:Int) (by omega) (by omega) ?_
   conv=>whnf
   refine seq_intro ?_
   conv=>whnf
   refine bsel_intro (fun q9=>?_) (fun q9=>?_) <;> try simp only [bsL] at q9
   ·conv=>whnf
    exact hno _ fun n hn e=>by
     have h1:=hnn n hn e
     rw [h1,Lib.itoa_nonneg] at q9
     exact q9 e.symm
   ·conv=>whnf
    exact hk _ true ⟨fun _=>⟨q9,by omega,by omega⟩,fun n hn e=>⟨rfl,by rw [hnn n hn e]⟩⟩
  ·have ht0:t=[]:=List.eq_nil_of_length_eq_zero (by omega)
   conv=>whnf
   conv=>whnf
   refine bsel_intro (fun q1=>?_) (fun q1=>?_) <;> try simp only [bsL] at q1
   ·conv=>whnf
    exact hno _ fun n hn e=>(hnum n hn e).2.2.2.2.1 (List.eq_nil_of_length_eq_zero (by omega))
   conv=>whnf
   refine bsel_intro (fun q2=>?_) (fun q2=>?_) <;> try simp only [bsL] at q2
   ·conv=>whnf
    exact hno _ fun n hn e=>by have:=(hnum n hn e).2.2.2.2.2;omega
   conv=>whnf
   refine loop_at [7,6] [] (fun r vs _ h'=>h=h'∧∃ i:Nat,i≤t.length∧r=t.length - i∧vs=[.v (.int .i64 i),.v (.int .u64 (dv (t.take i):Nat))]∧digs (t.take i)) t.length ⟨rfl,0,by omega,by omega,rfl,by simp [digs]⟩ ?_
   rintro r vs cs mm bx _ ⟨rfl,i,hi,rfl,rfl,hdg⟩
   conv=>whnf
   refine bsel_intro (fun q3=>?_) (fun q3=>?_) <;> try simp only [bsL] at q3
   ·have hiT:i<t.length:=by omega
    obtain ⟨b,hb⟩:∃ b,t[i]? = some b:=⟨_,List.getElem?_eq_getElem hiT⟩
    have hb':t[((i:Nat):Int).toNat]? = some b:=by rw [Int.toNat_natCast];exact hb
    have hdv:=dv_lt 18 (t.take i) (by rw [List.length_take];omega) hdg
    have hb8:=b.toNat_lt
    have htk:t.take (i+1)=t.take i++[b]:=by rw [List.take_add_one,hb];rfl
    have hdv2:=dv_snoc (t.take i) b
    rw [← htk] at hdv2
    have hbd:∀ n:Nat,n<9223372036854775808→_=Lib.decDigits n→48≤b.toNat∧b.toNat≤57:=fun n hn e=>(hnum n hn e).2.2.1 b (List.mem_of_getElem? hb)
    generalize dv (t.take i)=D at *
    conv=>whnf
    refine ch_intro (b) (by omega) (hb') ?_;conv=>whnf
    refine bsel_intro (fun q4=>?_) (fun q4=>?_) <;> try simp only [bsL] at q4
    ·conv=>whnf
     exact hno _ fun n hn e=>by have:=hbd n hn e;omega
    conv=>whnf
    refine ch_intro (b) (by omega) (hb') ?_;conv=>whnf
    refine bsel_intro (fun q5=>?_) (fun q5=>?_) <;> try simp only [bsL] at q5
    ·conv=>whnf
     exact hno _ fun n hn e=>by have:=hbd n hn e;omega
    conv=>whnf
    (first | refine ov_c (by simp only [loK,hiK];omega) ?_ | refine ov_c (by decide) ?_);conv=>whnf
    refine ch_intro (b) (by omega) (hb') ?_;conv=>whnf
    (first | refine ov_c (by simp only [loK,hiK];omega) ?_ | refine ov_c (by decide) ?_);conv=>whnf
    (first | refine ov_c (by simp only [loK,hiK];omega) ?_ | refine ov_c (by decide) ?_);conv=>whnf
    (first | refine ov_c (by simp only [loK,hiK];omega) ?_ | refine ov_c (by decide) ?_);conv=>whnf
    (first | refine ov_c (by simp only [loK,hiK];omega) ?_ | refine ov_c (by decide) ?_);conv=>whnf
    refine ⟨t.length - (i+1),by omega,rfl,i+1,by omega,rfl,?_,?_⟩
    ·show [MV.v (.int .i64 ((i:Int)+1)),MV.v (.int .u64 (10*(D:Int)+((b.toNat:Int) - 48)))]=_
     rw [show 10*(D:Int)+((b.toNat:Int) - 48)=((dv (t.take (i+1)):Nat):Int) by omega]
     rfl
    ·intro x hx
     rw [htk] at hx
     rcases List.mem_append.1 hx with hx | hx
     ·exact hdg x hx
     ·simp only [List.mem_singleton] at hx;subst hx;omega
   have hin:i=t.length:=by omega
   subst hin
   rw [List.take_length] at hdg ⊢
   have hdv:=dv_lt 19 t (by omega) hdg
   have hnn:∀ n:Nat,n<9223372036854775808→_=Lib.decDigits n→dv t=n:=fun n hn e=>(hnum n hn e).2.2.2.1
   generalize dv t=D at *
   conv=>whnf
   refine bsel_intro (fun q6=>?_) (fun q6=>?_) <;> try simp only [bsL] at q6
   ·conv=>whnf
    exact hno _ fun n hn e=>by have:=hnn n hn e;omega
   conv=>whnf
   refine bsel_intro (fun q7=>?_) (fun q7=>?_) <;> try simp only [bsL] at q7
   ·conv=>whnf
    exact hno _ fun n hn e=>by have:=hnn n hn e;omega
   conv=>whnf
   (first | refine ov_c (by simp only [loK,hiK];omega) ?_ | refine ov_c (by decide) ?_);conv=>whnf
   refine rDigits_x (D:Int) (by omega) (by omega) ?_
   conv=>whnf
   refine seq_intro ?_
   conv=>whnf
   refine bsel_intro (fun q9=>?_) (fun q9=>?_) <;> try simp only [bsL] at q9
   ·conv=>whnf
    exact hno _ fun n hn e=>by
     have h1:=hnn n hn e
     rw [h1,Lib.itoa_nonneg] at q9
     exact q9 e.symm
   ·conv=>whnf
    exact hk _ true ⟨fun _=>⟨q9,by omega,by omega⟩,fun n hn e=>⟨rfl,by rw [hnn n hn e]⟩⟩
end
end Go.Proofs.YtdhkjcdneidgaaaGreatDoor

namespace Go.Proofs.YtdhkjcdneidgaaaGreatDoor
set_option linter.unusedSimpArgs false
set_option linter.unusedVariables false
set_option linter.unusedSimpArgs false
set_option linter.unusedVariables false
open Go Go.Mid Go.RowKit
attribute [local irreducible] mid
def NumS (s:Str) (k:Int) (ok:Bool):Prop:=(ok=true→Lib.itoa k=s ∧ -9223372036854775808≤k∧k≤9223372036854775807)∧(∀ v:Int,-9223372036854775808≤v→v≤9223372036854775807→Lib.itoa v=s→ok=true∧k=v)∧(ok=false→k=0)
theorem NumS.no {s:Str} (h:∀ v:Int,-9223372036854775808≤v→v≤9223372036854775807→Lib.itoa v≠s):NumS s 0 false:=⟨fun e=>(by cases e),fun v v1 v2 e=>absurd e (h v v1 v2),fun _=>rfl⟩
theorem numA_itoa {v:Int} (h1 : -9223372036854775808≤v) (h2:v≤9223372036854775807):numA (Lib.itoa v)=some v:=by
 unfold numA
 rw [parse_itoa h1 h2]
 simp
theorem numA_some {s:Str} {v:Int} (h:numA s=some v):Lib.itoa v=s:=by
 unfold numA at h
 split at h
 ·split at h
  ·rename_i h2;cases h;exact h2
  ·cases h
 ·cases h
theorem NumS.eq {s:Str} {k:Int} {ok:Bool} (h:NumS s k ok):k=(numA s).getD 0∧ok=(numA s).isSome:=by
 obtain ⟨h1,h2,h3⟩:=h
 cases hn:numA s with
 | some v =>
  have:=h2 v (numA_rng hn).1 (numA_rng hn).2 (numA_some hn)
  exact ⟨this.2,this.1⟩
 | none =>
  cases ok with
  | true =>
   obtain ⟨e,r1,r2⟩:=h1 rfl
   rw [← e,numA_itoa r1 r2] at hn;cases hn
  | false=>exact ⟨h3 rfl,rfl⟩
section
set_option maxHeartbeats 8000000
set_option maxRecDepth 10000
variable {h:Hp} {K:Value→Hp→Prop}
end
end Go.Proofs.YtdhkjcdneidgaaaGreatDoor

namespace Go.Proofs.YtdhkjcdneidgaaaGreatDoor
set_option linter.unusedSimpArgs false
set_option linter.unusedVariables false
set_option linter.unusedSimpArgs false
set_option linter.unusedVariables false
open Go Go.Mid Go.RowKit
attribute [local irreducible] mid
section
set_option maxHeartbeats 8000000
set_option maxRecDepth 10000
variable {h:Hp} {K:Value→Hp→Prop}
def okK (i k:Nat):Prop:=k=0∨classN (i+1:Nat)=7
instance (i k:Nat):Decidable (okK i k):=by unfold okK;infer_instance
end
end Go.Proofs.YtdhkjcdneidgaaaGreatDoor

namespace Go.Proofs.YtdhkjcdneidgaaaGreatDoor
set_option linter.unusedSimpArgs false
set_option linter.unusedVariables false
set_option linter.unusedSimpArgs false
set_option linter.unusedVariables false
open Go Go.Mid Go.RowKit
attribute [local irreducible] mid
section
set_option maxHeartbeats 8000000
set_option maxRecDepth 10000
variable {h:Hp} {K:Value→Hp→Prop}
theorem linesA_len (t:Str):(linesA t).length≤t.length+1:=by
 unfold linesA
 have:=sp_length [10] t (by decide)
 split
 ·rw [List.length_dropLast];omega
 ·exact this
end
end Go.Proofs.YtdhkjcdneidgaaaGreatDoor

namespace Go.Proofs.YtdhkjcdneidgaaaGreatDoor
set_option linter.unusedSimpArgs false
set_option linter.unusedVariables false
set_option linter.unusedSimpArgs false
set_option linter.unusedVariables false
open Go Go.Mid Go.RowKit Go.Bits
attribute [local irreducible] mid
theorem nameB_iff (w:Str):nameB w=true↔0<w.length∧w.length<17∧(∀ c,w[0]? = some c→isLo c=true)∧∀ (i:Nat) (c:UInt8),w[i]? = some c→isNm c=true:=by
 cases w with
 | nil=>simp [nameB]
 | cons a r =>
  unfold nameB
  simp only [Bool.and_eq_true,decide_eq_true_eq,List.length_cons,List.getElem?_cons_zero,Option.some.injEq,forall_eq',List.all_eq_true]
  constructor
  ·rintro ⟨⟨h1,h2⟩,h3⟩
   exact ⟨by omega,by omega,h2,fun i c h=>h3 c (List.mem_of_getElem? h)⟩
  ·rintro ⟨h1,h2,h3,h4⟩
   exact ⟨⟨by omega,h3⟩,fun c hc=>by obtain ⟨i,hi,e⟩:=List.getElem_of_mem hc;exact h4 i c (by rw [← e];exact List.getElem?_eq_getElem hi)⟩
section
set_option maxHeartbeats 8000000
set_option maxRecDepth 10000
variable {h:Hp} {K:Value→Hp→Prop}
theorem numsI_some:∀ (l:List Str) (o:List Nat),numsI l=some o→o.length=l.length∧∀ k ∈ o,k<2 ^ 63
 | [],o,h=>by cases h;exact ⟨rfl,fun k hk=>by cases hk⟩
 | w :: r,o,h=>by
  unfold numsI at h
  cases hn:numA w with
  | none=>rw [hn] at h;cases h
  | some k =>
   rw [hn] at h
   simp only at h
   split at h
   ·cases h
   ·cases hr:numsI r with
    | none=>rw [hr] at h;cases h
    | some l =>
     rw [hr] at h
     cases h
     obtain ⟨h1,h2⟩:=numsI_some r l hr
     have:=(numA_rng hn).2
     refine ⟨by simp [h1],fun x hx=>?_⟩
     rcases List.mem_cons.1 hx with rfl | hx
     ·omega
     ·exact h2 x hx
theorem numsI_app:∀ (l m:List Str),numsI (l++m)=(numsI l).bind fun a=>(numsI m).map fun b=>a++b
 | [],m=>by unfold numsI;cases hm:numsI m <;> simp [numsI,hm]
 | w :: r,m=>by
  show (match numA w with
   | none=>none
   | some k=>if k<0 then none else (numsI (r++m)).map fun l=>k.toNat :: l)=(match numA w with
   | none=>none
   | some k=>if k<0 then none else (numsI r).map fun l=>k.toNat :: l).bind _
  rw [numsI_app r m]
  cases numA w with
  | none=>rfl
  | some k =>
   simp only
   split
   ·rfl
   ·cases numsI r with
    | none=>rfl
    | some a=>cases numsI m <;> rfl
end
end Go.Proofs.YtdhkjcdneidgaaaGreatDoor

namespace Go.Proofs.YtdhkjcdneidgaaaGreatDoor
set_option linter.unusedSimpArgs false
set_option linter.unusedVariables false
set_option linter.unusedSimpArgs false
set_option linter.unusedVariables false
open Go Go.Mid Go.RowKit Go.Bits
theorem im_fits_rng {f:Nat} {m:Int} (h:2≤f∧f≤8) (hf:Go.Bits.fits f m=true) : -9223372036854775808≤m∧m≤9223372036854775807:=by
 have hcs:f=2∨f=3∨f=4∨f=5∨f=6∨f=7∨f=8:=by omega
 rcases hcs with rfl | rfl | rfl | rfl | rfl | rfl | rfl <;> (have hf:=of_decide_eq_true hf;omega)
theorem im_parse_chk {s:Str} {x:Ins} (h:parseA s=.ok x):x.chk=0:=by
 unfold parseA at h
 split at h
 ·cases h
 split at h
 ·cases h
 split at h
 ·cases h
 split at h
 ·cases h
 ·unfold lineP at h
  split at h
  ·cases h
  ·split at h
   ·cases h
   ·split at h
    ·cases h
    ·rename_i y _
     split at h
     ·rename_i hc
      obtain rfl:y=x:=by injection h
      exact hc
     ·cases h
theorem im_chk_rng {x:Ins} (h:x.chk=0) : -9223372036854775808≤x.m∧x.m≤9223372036854775807:=by
 obtain ⟨_,_,_,_,_,_,_,hfit,hbad⟩:=chk_ok h
 have hf15:=fmtN_lt x.op
 have rng:∀ f:Nat,f<15→(2≤f∧f≤8)∨(fieldsL.getD f []).getD 3 false=false:=by decide
 rcases rng _ hf15 with hr | hr
 ·rw [fits_eq] at hfit
  exact im_fits_rng hr hfit
 ·have:=(bad_fld hbad (flds_len _ hf15)).2.2.2.1 hr
  rw [this];decide
theorem im_field_err {x:Ins} {c:UInt8} {w:Str} {e:Int} (h:fieldP x c w=.error e):e≠0:=by
 unfold fieldP at h
 repeat' split at h
 all_goals first | (cases h;done) | (cases h;decide)
theorem im_fields_err:∀ (fs:Str) (r:List Str) (x:Ins) {e:Int},fieldsP x fs r=.error e→e≠0
 | [],r,x,e,h=>by cases r <;> cases h
 | c :: fs,[],x,e,h=>by cases h
 | c :: fs,w :: r,x,e,h=>by
  rw [fieldsP_cons] at h
  split at h
  ·exact im_fields_err fs r _ h
  ·rename_i e' he
   obtain rfl:e'=e:=by injection h
   exact im_field_err he
theorem im_parse_err {s:Str} {e:Int} (h:parseA s=.error e):e≠0:=by
 unfold parseA at h
 split at h
 ·cases h;decide
 split at h
 ·cases h;decide
 split at h
 ·cases h;decide
 split at h
 ·cases h;decide
 ·unfold lineP at h
  split at h
  ·cases h;decide
  ·split at h
   ·cases h;decide
   ·split at h
    ·rename_i e' he
     obtain rfl:e'=e:=by injection h
     exact im_fields_err _ _ _ he
    ·split at h
     ·cases h
     ·rename_i hc
      cases h;exact hc
end Go.Proofs.YtdhkjcdneidgaaaGreatDoor
