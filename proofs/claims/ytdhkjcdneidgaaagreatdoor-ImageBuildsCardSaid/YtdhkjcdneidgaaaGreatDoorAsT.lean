/-
  Numbers that are written: the document's and the program's are one.
-/
import Derived.Test.YtdhkjcdneidgaaaGreatDoorImmP
import Derived.Test.YtdhkjcdneidgaaaGreatDoorRgRegA
import Derived.Test.YtdhkjcdneidgaaaGreatDoorAsO
import Derived.Test.YtdhkjcdneidgaaaGreatDoorInsP
set_option linter.unusedSimpArgs false
set_option linter.unusedVariables false
set_option maxHeartbeats 8000000
set_option maxRecDepth 10000
set_option linter.unusedSimpArgs false
set_option linter.unusedVariables false
namespace Go.Proofs.YtdhkjcdneidgaaaGreatDoor
open Go Go.Mid Go.RowKit
attribute [local irreducible] mid
def NumR (s:Str) (k:Int) (ok:Bool):Prop:=(ok=true→Lib.itoa k=s ∧ -9223372036854775808≤k∧k≤9223372036854775807)∧∀ n:Nat,n<9223372036854775808→s=Lib.decDigits n→ok=true∧k=n
theorem NumR.no {s:Str} {k:Int} (h:∀ n:Nat,n<9223372036854775808→s≠Lib.decDigits n):NumR s k false:=⟨fun e=>(by cases e),fun n hn e=>absurd e (h n hn)⟩
section
variable {h:Hp} {K:Value→Hp→Prop}
theorem rsplit_x (s:Str) (hs:s.length≤2 ^ 29) (hk:∀ sl h',Owns h h' 9 1 sl (sp [32] s).length ((sp [32] s).map sv)→K sl h'):X Tryz.prog 48 #[sv s] h K:=by
 refine fnv (args:=_) mixed [] [] [] Tryz.func48 rfl (by kernel_rfl) (cw_ ?_)
 refine loop_at [5,3,4] [] (fun r vs _ h'=>∃ (i:Nat) (sl:Value) (acc:List Str) (w:Str),i≤s.length∧r=s.length - i∧vs=[.v ((.int .i64 i)),.v sl,.v (sv w)]∧Owns h h' 9 1 sl acc.length (acc.map sv)∧acc.length≤i∧w.length≤i∧(32:UInt8) ∉ w∧acc++sp [32] (w++s.drop i)=sp [32] s) s.length
  ⟨0,.slice none 0 0,[],[],by omega,by omega,rfl,Owns.nil (Hp.le_refl _),by simp,by simp,by simp,by simp⟩ ?_
 rintro r vs cs mm bx h1 ⟨i,sl,acc,w,hi,rfl,rfl,hO,ha,hw,hw32,hsp⟩
 obtain ⟨sa,sc,rfl⟩:=hO.shape
 conv=>whnf
 refine br_ (fun q1=>?_) fun q1=>?_
 ·have hiS:i<s.length:=by omega
  obtain ⟨b,hb⟩:∃ b,s[i]? = some b:=⟨_,List.getElem?_eq_getElem hiS⟩
  have hd:s.drop i=b :: s.drop (i+1):=by
   rw [List.drop_eq_getElem_cons hiS]
   congr 1
   exact (List.getElem?_eq_some_iff.1 hb).2
  rw [hd] at hsp
  conv=>whnf
  refine ch_intro (b) (by omega) (by rw [Int.toNat_natCast];exact hb) (cw_ ?_)
  refine br_ (fun q2=>?_) fun q2=>?_
  ·have hb32:b=32:=UInt8.toNat_inj.1 (by have:(32:UInt8).toNat=32:=rfl;omega)
   subst hb32
   rw [sp_one hw32] at hsp
   conv=>whnf
   refine new_intro (o:=rowO 9 [sv w]) (fun y h2 n_y le_y at_y ot_y=>cw_ ?_)
   refine Owns.app1 (z:=.string ⟨#[]⟩) (by kernel_rfl) infS (by kernel_rfl) (by kernel_rfl) (by kernel_rfl) rfl (bytes:=16) (by decide) rfl rfl rfl (hO.up le_y) at_y rfl rfl (by omega) fun s3 h3 hO3=>(cw_ ?_)
   refine n_ ?_
   refine ⟨s.length - (i+1),by omega,i+1,s3,acc++[w],[],by omega,rfl,rfl,?_,by simp;omega,by simp,by simp,by rw [← hsp];simp⟩
   rw [List.length_append,List.map_append]
   exact hO3
  ·have hb32:b≠32:=fun e=>q2 (by rw [e];rfl)
   conv=>whnf
   refine n_ ?_
   refine n_ ?_ (hc:=by exact ⟨by omega,by rw [bs_size];omega⟩)
   refine n_ ?_
   refine sub_by (m:=[b]) ?_ ?_
   ·rw [show ((i:Int)+1).toNat=i+1 by omega,Int.toNat_natCast,List.take_add_one,hb]
    exact List.drop_left' (by rw [List.length_take];omega)
   conv=>whnf
   refine cat_intro (by simp;omega) (cw_ ?_)
   refine n_ ?_
   refine ⟨s.length - (i+1),by omega,i+1,_,acc,w++[b],by omega,rfl,rfl,hO,by omega,by simp;omega,?_,by rw [← hsp];simp⟩
   intro hm
   rcases List.mem_append.1 hm with hm | hm
   ·exact hw32 hm
   ·simp only [List.mem_singleton] at hm;exact hb32 hm.symm
 ·have hin:i=s.length:=by omega
  subst hin
  rw [List.drop_length,List.append_nil,sp_end hw32] at hsp
  conv=>whnf
  refine new_intro (o:=rowO 9 [sv w]) (fun y h2 n_y le_y at_y ot_y=>cw_ ?_)
  refine Owns.app1 (z:=.string ⟨#[]⟩) (by kernel_rfl) infS (by kernel_rfl) (by kernel_rfl) (by kernel_rfl) rfl (bytes:=16) (by decide) rfl rfl rfl (hO.up le_y) at_y rfl rfl (by omega) fun s3 h3 hO3=>(cw_ ?_)
  refine hk _ _ ?_
  rw [← hsp,List.length_append,List.map_append]
  exact hO3
theorem numF_x (s t:Str) (below:Bool) (hb:below=true→s=45 :: t) (hn:below=false→t=s∧∀ c r,s=c :: r→c≠45):(∀ n:Nat,n<9223372036854775808→s=Lib.decDigits n→below=false∧t=s∧digs t∧dv t=n∧t≠[]∧t.length≤19):=fun n h e=>by
 obtain ⟨h1,h2⟩:=dec_dv n
 cases below with
 | true =>
  have h3:=hb rfl
  rw [e] at h3
  have:=h2 45 (by rw [h3];simp)
  exact absurd this.1 (by decide)
 | false =>
  obtain ⟨h3,_⟩:=hn rfl
  rw [h3,e]
  exact ⟨rfl,rfl,h2,h1,dec_ne n,dec_len19 h⟩
theorem wrapI64 (x:Int):IntKind.i64.wrap x=(x+9223372036854775808) % 18446744073709551616 - 9223372036854775808:=by
 unfold IntKind.wrap
 simp [IntKind.signed,IntKind.bits]
 split <;> omega
theorem number_x (s:Str) (hs:s.length≤2 ^ 40) (hk:∀ k ok,NumR s k ok→K (.tuple #[.int .i64 k,.bool ok]) h):X Tryz.prog 83 #[sv s] h K:=by
 have hno:∀ k:Int,(∀ n:Nat,n<9223372036854775808→s≠Lib.decDigits n)→K (.tuple #[.int .i64 k,.bool false]) h:=fun k hh=>hk k false (NumR.no hh)
 refine fnv (args:=_) mixed [] [] [] Tryz.func83 rfl (by kernel_rfl) (cw_ ?_)
 by_cases hc:∃ r,s=45 :: r
 ·obtain ⟨t,rfl⟩:=hc
  have hnum:=numF_x (45 :: t) t true (fun _=>rfl) (fun e=>by cases e)
  conv=>whnf
  refine bt_ ?_ (by rw [bs_size];simp)
  refine ch_intro ((45:UInt8)) (by omega) (rfl) (cw_ ?_)
  refine need_intro (by rw [bs_size,List.length_cons];omega) (cw_ ?_)
  refine sub_from (m:=t) rfl (cw_ ?_)
  conv=>whnf
  refine br_ (fun q1=>?_) fun q1=>?_
  ·conv=>whnf
   exact hno _ fun n hn e=>(hnum n hn e).2.2.2.2.1 (List.eq_nil_of_length_eq_zero (by omega))
  conv=>whnf
  refine br_ (fun q2=>?_) fun q2=>?_
  ·conv=>whnf
   exact hno _ fun n hn e=>by have:=(hnum n hn e).2.2.2.2.2;omega
  conv=>whnf
  refine loop_at [7,6] [] (fun r vs _ h'=>h=h'∧∃ i:Nat,i≤t.length∧r=t.length - i∧vs=[.v (.int .i64 i),.v (.int .u64 (dv (t.take i):Nat))]∧digs (t.take i)) t.length ⟨rfl,0,by omega,by omega,rfl,by simp [digs]⟩ ?_
  rintro r vs cs mm bx _ ⟨rfl,i,hi,rfl,rfl,hdg⟩
  conv=>whnf
  refine br_ (fun q3=>?_) fun q3=>?_
  ·have hiT:i<t.length:=by omega
   obtain ⟨b,hb⟩:∃ b,t[i]? = some b:=⟨_,List.getElem?_eq_getElem hiT⟩
   have hb':t[((i:Nat):Int).toNat]? = some b:=by rw [Int.toNat_natCast];exact hb
   have hdv:=dv_lt 18 (t.take i) (by rw [List.length_take];omega) hdg
   have hb8:=b.toNat_lt
   have htk:t.take (i+1)=t.take i++[b]:=by rw [List.take_add_one,hb];rfl
   have hdv2:=dv_snoc (t.take i) b
   rw [← htk] at hdv2
   have hbd:∀ n:Nat,n<9223372036854775808→_=Lib.decDigits n→48≤b.toNat∧b.toNat≤57:=fun n hn e=>(hnum n hn e).2.2.1 b (List.mem_of_getElem? hb)
   generalize dv (t.take i)=D at *
   conv=>whnf
   refine ch_intro (b) (by omega) (hb') (cw_ ?_)
   refine br_ (fun q4=>?_) fun q4=>?_
   ·conv=>whnf
    exact hno _ fun n hn e=>by have:=hbd n hn e;omega
   conv=>whnf
   refine ch_intro (b) (by omega) (hb') (cw_ ?_)
   refine br_ (fun q5=>?_) fun q5=>?_
   ·conv=>whnf
    exact hno _ fun n hn e=>by have:=hbd n hn e;omega
   conv=>whnf
   refine n_ ?_
   refine ch_intro (b) (by omega) (hb') (cw_ ?_)
   refine n_ ?_
   refine n_ ?_
   refine n_ ?_
   refine n_ ?_
   refine ⟨t.length - (i+1),by omega,rfl,i+1,by omega,rfl,?_,?_⟩
   ·show [MV.v (.int .i64 ((i:Int)+1)),MV.v (.int .u64 (10*(D:Int)+((b.toNat:Int) - 48)))]=_
    rw [show 10*(D:Int)+((b.toNat:Int) - 48)=((dv (t.take (i+1)):Nat):Int) by omega]
    rfl
   ·intro x hx
    rw [htk] at hx
    rcases List.mem_append.1 hx with hx | hx
    ·exact hdg x hx
    ·simp only [List.mem_singleton] at hx;subst hx;omega
  have hin:i=t.length:=by omega
  subst hin
  rw [List.take_length] at hdg ⊢
  have hdv:=dv_lt 19 t (by omega) hdg
  have hnn:∀ n:Nat,n<9223372036854775808→_=Lib.decDigits n→dv t=n:=fun n hn e=>(hnum n hn e).2.2.2.1
  generalize dv t=D at *
  conv=>whnf
  refine br_ (fun q6=>?_) fun q6=>?_
  ·conv=>whnf
   exact hno _ fun n hn e=>by have:=hnn n hn e;omega
  conv=>whnf
  refine ov_by (y:=if D=9223372036854775808 then -9223372036854775808 else (D:Int)) (by rw [wrapI64];split <;> omega) ?_
  conv=>whnf
  refine ov_by (y:=if D=0 then 0 else 18446744073709551616 - (D:Int)) (by rw [wrap_u64];split <;> omega) ?_
  conv=>whnf
  refine ov_by (y := -(D:Int)) (by rw [wrapI64];split <;> omega) ?_
  conv=>whnf
  refine rDigits_x (-(D:Int)) (by omega) (by omega) ?_
  have hno2:∀ k:Int,K (.tuple #[.int .i64 k,.bool false]) h:=fun k=>hno k fun n hn e=>by have:=(hnum n hn e).1;cases this
  conv=>whnf
  refine seq_intro (cw_ ?_)
  refine br_ (fun q9=>?_) fun q9=>?_
  ·conv=>whnf
   exact hno2 _
  ·conv=>whnf
   exact hk _ true ⟨fun _=>⟨q9,by omega,by omega⟩,fun n hn e=>by have:=(hnum n hn e).1;cases this⟩
 ·obtain ⟨t,hts⟩:∃ t,t=s:=⟨s,rfl⟩
  subst hts
  have hnum:=numF_x t t false (fun e=>by cases e) (fun _=>⟨rfl,fun c r e e2=>hc ⟨r,by rw [e,e2]⟩⟩)
  refine br_ (fun q0=>?_) fun q0=>?_
  ·obtain ⟨b0,hb0⟩:∃ b,t[0]? = some b:=⟨_,List.getElem?_eq_getElem (by omega)⟩
   have hb45:b0.toNat≠45:=fun e=>hc ⟨t.drop 1,by
    have e2:b0=45:=UInt8.toNat_inj.1 e
    cases t with
    | nil=>simp at hb0
    | cons x y=>simp at hb0;rw [hb0,e2];rfl⟩
   conv=>whnf
   refine ch_intro (b0) (by omega) (hb0) (cw_ ?_)
   refine bf_ (cw_ ?_)
   refine br_ (fun q1=>?_) fun q1=>?_
   ·conv=>whnf
    exact hno _ fun n hn e=>(hnum n hn e).2.2.2.2.1 (List.eq_nil_of_length_eq_zero (by omega))
   conv=>whnf
   refine br_ (fun q2=>?_) fun q2=>?_
   ·conv=>whnf
    exact hno _ fun n hn e=>by have:=(hnum n hn e).2.2.2.2.2;omega
   conv=>whnf
   refine loop_at [7,6] [] (fun r vs _ h'=>h=h'∧∃ i:Nat,i≤t.length∧r=t.length - i∧vs=[.v (.int .i64 i),.v (.int .u64 (dv (t.take i):Nat))]∧digs (t.take i)) t.length ⟨rfl,0,by omega,by omega,rfl,by simp [digs]⟩ ?_
   rintro r vs cs mm bx _ ⟨rfl,i,hi,rfl,rfl,hdg⟩
   conv=>whnf
   refine br_ (fun q3=>?_) fun q3=>?_
   ·have hiT:i<t.length:=by omega
    obtain ⟨b,hb⟩:∃ b,t[i]? = some b:=⟨_,List.getElem?_eq_getElem hiT⟩
    have hb':t[((i:Nat):Int).toNat]? = some b:=by rw [Int.toNat_natCast];exact hb
    have hdv:=dv_lt 18 (t.take i) (by rw [List.length_take];omega) hdg
    have hb8:=b.toNat_lt
    have htk:t.take (i+1)=t.take i++[b]:=by rw [List.take_add_one,hb];rfl
    have hdv2:=dv_snoc (t.take i) b
    rw [← htk] at hdv2
    have hbd:∀ n:Nat,n<9223372036854775808→_=Lib.decDigits n→48≤b.toNat∧b.toNat≤57:=fun n hn e=>(hnum n hn e).2.2.1 b (List.mem_of_getElem? hb)
    generalize dv (t.take i)=D at *
    conv=>whnf
    refine ch_intro (b) (by omega) (hb') (cw_ ?_)
    refine br_ (fun q4=>?_) fun q4=>?_
    ·conv=>whnf
     exact hno _ fun n hn e=>by have:=hbd n hn e;omega
    conv=>whnf
    refine ch_intro (b) (by omega) (hb') (cw_ ?_)
    refine br_ (fun q5=>?_) fun q5=>?_
    ·conv=>whnf
     exact hno _ fun n hn e=>by have:=hbd n hn e;omega
    conv=>whnf
    refine n_ ?_
    refine ch_intro (b) (by omega) (hb') (cw_ ?_)
    refine n_ ?_
    refine n_ ?_
    refine n_ ?_
    refine n_ ?_
    refine ⟨t.length - (i+1),by omega,rfl,i+1,by omega,rfl,?_,?_⟩
    ·show [MV.v (.int .i64 ((i:Int)+1)),MV.v (.int .u64 (10*(D:Int)+((b.toNat:Int) - 48)))]=_
     rw [show 10*(D:Int)+((b.toNat:Int) - 48)=((dv (t.take (i+1)):Nat):Int) by omega]
     rfl
    ·intro x hx
     rw [htk] at hx
     rcases List.mem_append.1 hx with hx | hx
     ·exact hdg x hx
     ·simp only [List.mem_singleton] at hx;subst hx;omega
   have hin:i=t.length:=by omega
   subst hin
   rw [List.take_length] at hdg ⊢
   have hdv:=dv_lt 19 t (by omega) hdg
   have hnn:∀ n:Nat,n<9223372036854775808→_=Lib.decDigits n→dv t=n:=fun n hn e=>(hnum n hn e).2.2.2.1
   generalize dv t=D at *
   conv=>whnf
   refine br_ (fun q6=>?_) fun q6=>?_
   ·conv=>whnf
    exact hno _ fun n hn e=>by have:=hnn n hn e;omega
   conv=>whnf
   refine br_ (fun q7=>?_) fun q7=>?_
   ·conv=>whnf
    exact hno _ fun n hn e=>by have:=hnn n hn e;omega
   conv=>whnf
   refine n_ ?_
   refine rDigits_x (D:Int) (by omega) (by omega) (cw_ ?_)
   refine seq_intro (cw_ ?_)
   refine br_ (fun q9=>?_) fun q9=>?_
   ·conv=>whnf
    exact hno _ fun n hn e=>by
     have h1:=hnn n hn e
     rw [h1,Lib.itoa_nonneg] at q9
     exact q9 e.symm
   ·conv=>whnf
    exact hk _ true ⟨fun _=>⟨q9,by omega,by omega⟩,fun n hn e=>⟨rfl,by rw [hnn n hn e]⟩⟩
  ·have ht0:t=[]:=List.eq_nil_of_length_eq_zero (by omega)
   conv=>whnf
   conv=>whnf
   refine br_ (fun q1=>?_) fun q1=>?_
   ·conv=>whnf
    exact hno _ fun n hn e=>(hnum n hn e).2.2.2.2.1 (List.eq_nil_of_length_eq_zero (by omega))
   conv=>whnf
   refine br_ (fun q2=>?_) fun q2=>?_
   ·conv=>whnf
    exact hno _ fun n hn e=>by have:=(hnum n hn e).2.2.2.2.2;omega
   conv=>whnf
   refine loop_at [7,6] [] (fun r vs _ h'=>h=h'∧∃ i:Nat,i≤t.length∧r=t.length - i∧vs=[.v (.int .i64 i),.v (.int .u64 (dv (t.take i):Nat))]∧digs (t.take i)) t.length ⟨rfl,0,by omega,by omega,rfl,by simp [digs]⟩ ?_
   rintro r vs cs mm bx _ ⟨rfl,i,hi,rfl,rfl,hdg⟩
   conv=>whnf
   refine br_ (fun q3=>?_) fun q3=>?_
   ·have hiT:i<t.length:=by omega
    obtain ⟨b,hb⟩:∃ b,t[i]? = some b:=⟨_,List.getElem?_eq_getElem hiT⟩
    have hb':t[((i:Nat):Int).toNat]? = some b:=by rw [Int.toNat_natCast];exact hb
    have hdv:=dv_lt 18 (t.take i) (by rw [List.length_take];omega) hdg
    have hb8:=b.toNat_lt
    have htk:t.take (i+1)=t.take i++[b]:=by rw [List.take_add_one,hb];rfl
    have hdv2:=dv_snoc (t.take i) b
    rw [← htk] at hdv2
    have hbd:∀ n:Nat,n<9223372036854775808→_=Lib.decDigits n→48≤b.toNat∧b.toNat≤57:=fun n hn e=>(hnum n hn e).2.2.1 b (List.mem_of_getElem? hb)
    generalize dv (t.take i)=D at *
    conv=>whnf
    refine ch_intro (b) (by omega) (hb') (cw_ ?_)
    refine br_ (fun q4=>?_) fun q4=>?_
    ·conv=>whnf
     exact hno _ fun n hn e=>by have:=hbd n hn e;omega
    conv=>whnf
    refine ch_intro (b) (by omega) (hb') (cw_ ?_)
    refine br_ (fun q5=>?_) fun q5=>?_
    ·conv=>whnf
     exact hno _ fun n hn e=>by have:=hbd n hn e;omega
    conv=>whnf
    refine n_ ?_
    refine ch_intro (b) (by omega) (hb') (cw_ ?_)
    refine n_ ?_
    refine n_ ?_
    refine n_ ?_
    refine n_ ?_
    refine ⟨t.length - (i+1),by omega,rfl,i+1,by omega,rfl,?_,?_⟩
    ·show [MV.v (.int .i64 ((i:Int)+1)),MV.v (.int .u64 (10*(D:Int)+((b.toNat:Int) - 48)))]=_
     rw [show 10*(D:Int)+((b.toNat:Int) - 48)=((dv (t.take (i+1)):Nat):Int) by omega]
     rfl
    ·intro x hx
     rw [htk] at hx
     rcases List.mem_append.1 hx with hx | hx
     ·exact hdg x hx
     ·simp only [List.mem_singleton] at hx;subst hx;omega
   have hin:i=t.length:=by omega
   subst hin
   rw [List.take_length] at hdg ⊢
   have hdv:=dv_lt 19 t (by omega) hdg
   have hnn:∀ n:Nat,n<9223372036854775808→_=Lib.decDigits n→dv t=n:=fun n hn e=>(hnum n hn e).2.2.2.1
   generalize dv t=D at *
   conv=>whnf
   refine br_ (fun q6=>?_) fun q6=>?_
   ·conv=>whnf
    exact hno _ fun n hn e=>by have:=hnn n hn e;omega
   conv=>whnf
   refine br_ (fun q7=>?_) fun q7=>?_
   ·conv=>whnf
    exact hno _ fun n hn e=>by have:=hnn n hn e;omega
   conv=>whnf
   refine n_ ?_
   refine rDigits_x (D:Int) (by omega) (by omega) (cw_ ?_)
   refine seq_intro (cw_ ?_)
   refine br_ (fun q9=>?_) fun q9=>?_
   ·conv=>whnf
    exact hno _ fun n hn e=>by
     have h1:=hnn n hn e
     rw [h1,Lib.itoa_nonneg] at q9
     exact q9 e.symm
   ·conv=>whnf
    exact hk _ true ⟨fun _=>⟨q9,by omega,by omega⟩,fun n hn e=>⟨rfl,by rw [hnn n hn e]⟩⟩
end
end Go.Proofs.YtdhkjcdneidgaaaGreatDoor
namespace Go.Proofs.YtdhkjcdneidgaaaGreatDoor
open Go Go.Mid Go.RowKit
attribute [local irreducible] mid
def NumS (s:Str) (k:Int) (ok:Bool):Prop:=(ok=true→Lib.itoa k=s ∧ -9223372036854775808≤k∧k≤9223372036854775807)∧(∀ v:Int,-9223372036854775808≤v→v≤9223372036854775807→Lib.itoa v=s→ok=true∧k=v)∧(ok=false→k=0)
theorem NumS.no {s:Str} (h:∀ v:Int,-9223372036854775808≤v→v≤9223372036854775807→Lib.itoa v≠s):NumS s 0 false:=⟨fun e=>(by cases e),fun v v1 v2 e=>absurd e (h v v1 v2),fun _=>rfl⟩
theorem numA_itoa {v:Int} (h1 : -9223372036854775808≤v) (h2:v≤9223372036854775807):numA (Lib.itoa v)=some v:=by
 unfold numA
 rw [parse_itoa h1 h2]
 simp
theorem numA_some {s:Str} {v:Int} (h:numA s=some v):Lib.itoa v=s:=by
 unfold numA at h
 split at h
 ·split at h
  ·rename_i h2;cases h;exact h2
  ·cases h
 ·cases h
theorem NumS.eq {s:Str} {k:Int} {ok:Bool} (h:NumS s k ok):k=(numA s).getD 0∧ok=(numA s).isSome:=by
 obtain ⟨h1,h2,h3⟩:=h
 cases hn:numA s with
 | some v =>
  have:=h2 v (numA_rng hn).1 (numA_rng hn).2 (numA_some hn)
  exact ⟨this.2,this.1⟩
 | none =>
  cases ok with
  | true =>
   obtain ⟨e,r1,r2⟩:=h1 rfl
   rw [← e,numA_itoa r1 r2] at hn;cases hn
  | false=>exact ⟨h3 rfl,rfl⟩
theorem numF2 (s t:Str) (below:Bool) (hb:below=true→s=45 :: t) (hn:below=false→t=s∧∀ c r,s=c :: r→c≠45) (v:Int) (h1 : -9223372036854775808≤v) (h2:v≤9223372036854775807) (e:Lib.itoa v=s) :
  (below=true↔v<0)∧digs t∧dv t=v.natAbs∧t≠[]∧t.length≤19:=by
 have l19:∀ n:Nat,n≤9223372036854775808→(Lib.decDigits n).length≤19:=fun n hn=>by
  rw [Lib.decDigits_length]
  exact nDig_le 18 n (by omega)
 rcases Int.lt_or_le v 0 with h | h
 ·obtain ⟨u,rfl⟩:∃ u:Nat,v = -(u:Int):=⟨v.natAbs,by omega⟩
  rw [Lib.itoa_neg u (by omega)] at e
  obtain ⟨d1,d2⟩:=dec_dv u
  cases below with
  | true =>
   have:=hb rfl
   rw [← e] at this
   obtain rfl:Lib.decDigits u=t:=(List.cons.inj this).2
   exact ⟨⟨fun _=>h,fun _=>rfl⟩,d2,by rw [d1];omega,dec_ne u,l19 u (by omega)⟩
  | false=>exact absurd rfl ((hn rfl).2 45 _ e.symm)
 ·obtain ⟨u,rfl⟩:∃ u:Nat,v=u:=⟨v.toNat,by omega⟩
  rw [Lib.itoa_nonneg] at e
  obtain ⟨d1,d2⟩:=dec_dv u
  cases below with
  | true =>
   have:=hb rfl
   rw [← e] at this
   have:=d2 45 (by rw [this];simp)
   exact absurd this.1 (by decide)
  | false =>
   obtain ⟨rfl,_⟩:=hn rfl
   subst e
   exact ⟨⟨fun e=>(by cases e),fun hh=>by omega⟩,d2,by rw [d1];omega,dec_ne u,l19 u (by omega)⟩
section
variable {h:Hp} {K:Value→Hp→Prop}
theorem number2_x (s:Str) (hs:s.length≤2 ^ 40) (hk:∀ k ok,NumS s k ok→K (.tuple #[.int .i64 k,.bool ok]) h):X Tryz.prog 83 #[sv s] h K:=by
 have hno:(∀ v:Int,-9223372036854775808≤v→v≤9223372036854775807→Lib.itoa v≠s)→K (.tuple #[.int .i64 0,.bool false]) h:=fun hh=>hk 0 false (NumS.no hh)
 refine fnv (args:=_) mixed [] [] [] Tryz.func83 rfl (by kernel_rfl) (cw_ ?_)
 by_cases hc:∃ r,s=45 :: r
 ·obtain ⟨t,rfl⟩:=hc
  have hnum:=numF2 (45 :: t) t true (fun _=>rfl) (fun e=>by cases e)
  conv=>whnf
  refine bt_ ?_ (by rw [bs_size];simp)
  refine ch_intro ((45:UInt8)) (by omega) (rfl) (cw_ ?_)
  refine need_intro (by rw [bs_size,List.length_cons];omega) (cw_ ?_)
  refine sub_from (m:=t) rfl (cw_ ?_)
  conv=>whnf
  refine br_ (fun q1=>?_) fun q1=>?_
  ·conv=>whnf
   exact hno fun v v1 v2 e=>(hnum v v1 v2 e).2.2.2.1 (List.eq_nil_of_length_eq_zero (by omega))
  conv=>whnf
  refine br_ (fun q2=>?_) fun q2=>?_
  ·conv=>whnf
   exact hno fun v v1 v2 e=>by have:=(hnum v v1 v2 e).2.2.2.2;omega
  conv=>whnf
  refine loop_at [7,6] [] (fun r vs _ h'=>h=h'∧∃ i:Nat,i≤t.length∧r=t.length - i∧vs=[.v (.int .i64 i),.v (.int .u64 (dv (t.take i):Nat))]∧digs (t.take i)) t.length ⟨rfl,0,by omega,by omega,rfl,by simp [digs]⟩ ?_
  rintro r vs cs mm bx _ ⟨rfl,i,hi,rfl,rfl,hdg⟩
  conv=>whnf
  refine br_ (fun q3=>?_) fun q3=>?_
  ·have hiT:i<t.length:=by omega
   obtain ⟨b,hb⟩:∃ b,t[i]? = some b:=⟨_,List.getElem?_eq_getElem hiT⟩
   have hb':t[((i:Nat):Int).toNat]? = some b:=by rw [Int.toNat_natCast];exact hb
   have hdv:=dv_lt 18 (t.take i) (by rw [List.length_take];omega) hdg
   have hb8:=b.toNat_lt
   have htk:t.take (i+1)=t.take i++[b]:=by rw [List.take_add_one,hb];rfl
   have hdv2:=dv_snoc (t.take i) b
   rw [← htk] at hdv2
   have hbd:∀ v:Int,-9223372036854775808≤v→v≤9223372036854775807→Lib.itoa v=_→48≤b.toNat∧b.toNat≤57:=fun v v1 v2 e=>(hnum v v1 v2 e).2.1 b (List.mem_of_getElem? hb)
   generalize dv (t.take i)=D at *
   conv=>whnf
   refine ch_intro (b) (by omega) (hb') (cw_ ?_)
   refine br_ (fun q4=>?_) fun q4=>?_
   ·conv=>whnf
    exact hno fun v v1 v2 e=>by have:=hbd v v1 v2 e;omega
   conv=>whnf
   refine ch_intro (b) (by omega) (hb') (cw_ ?_)
   refine br_ (fun q5=>?_) fun q5=>?_
   ·conv=>whnf
    exact hno fun v v1 v2 e=>by have:=hbd v v1 v2 e;omega
   conv=>whnf
   refine n_ ?_
   refine ch_intro (b) (by omega) (hb') (cw_ ?_)
   refine n_ ?_
   refine n_ ?_
   refine n_ ?_
   refine n_ ?_
   refine ⟨t.length - (i+1),by omega,rfl,i+1,by omega,rfl,?_,?_⟩
   ·show [MV.v (.int .i64 ((i:Int)+1)),MV.v (.int .u64 (10*(D:Int)+((b.toNat:Int) - 48)))]=_
    rw [show 10*(D:Int)+((b.toNat:Int) - 48)=((dv (t.take (i+1)):Nat):Int) by omega]
    rfl
   ·intro x hx
    rw [htk] at hx
    rcases List.mem_append.1 hx with hx | hx
    ·exact hdg x hx
    ·simp only [List.mem_singleton] at hx;subst hx;omega
  have hin:i=t.length:=by omega
  subst hin
  rw [List.take_length] at hdg ⊢
  have hdv:=dv_lt 19 t (by omega) hdg
  have hnn:∀ v:Int,-9223372036854775808≤v→v≤9223372036854775807→Lib.itoa v=_→dv t=v.natAbs∧(v<0):=fun v v1 v2 e=>⟨(hnum v v1 v2 e).2.2.1,(hnum v v1 v2 e).1.1 rfl⟩
  generalize dv t=D at *
  conv=>whnf
  refine br_ (fun q6=>?_) fun q6=>?_
  ·conv=>whnf
   exact hno fun v v1 v2 e=>by have:=hnn v v1 v2 e;omega
  conv=>whnf
  refine ov_by (y:=if D=9223372036854775808 then -9223372036854775808 else (D:Int)) (by rw [wrapI64];split <;> omega) ?_
  conv=>whnf
  refine ov_by (y:=if D=0 then 0 else 18446744073709551616 - (D:Int)) (by rw [wrap_u64];split <;> omega) ?_
  conv=>whnf
  refine ov_by (y := -(D:Int)) (by rw [wrapI64];split <;> omega) ?_
  conv=>whnf
  refine rDigits_x (-(D:Int)) (by omega) (by omega) (cw_ ?_)
  refine seq_intro (cw_ ?_)
  refine br_ (fun q9=>?_) fun q9=>?_
  ·conv=>whnf
   exact hno fun v v1 v2 e=>by
    have h1:=hnn v v1 v2 e
    obtain rfl:v = -(D:Int):=by omega
    exact q9 e
  ·conv=>whnf
   exact hk _ true ⟨fun _=>⟨q9,by omega,by omega⟩,fun v v1 v2 e=>⟨rfl,by have:=hnn v v1 v2 e;omega⟩,fun e=>by cases e⟩
 ·obtain ⟨t,hts⟩:∃ t,t=s:=⟨s,rfl⟩
  subst hts
  have hnum:=numF2 t t false (fun e=>by cases e) (fun _=>⟨rfl,fun c r e e2=>hc ⟨r,by rw [e,e2]⟩⟩)
  refine br_ (fun q0=>?_) fun q0=>?_
  ·obtain ⟨b0,hb0⟩:∃ b,t[0]? = some b:=⟨_,List.getElem?_eq_getElem (by omega)⟩
   have hb45:b0.toNat≠45:=fun e=>hc ⟨t.drop 1,by
    have e2:b0=45:=UInt8.toNat_inj.1 e
    cases t with
    | nil=>simp at hb0
    | cons x y=>simp at hb0;rw [hb0,e2];rfl⟩
   conv=>whnf
   refine ch_intro (b0) (by omega) (hb0) (cw_ ?_)
   refine bf_ (cw_ ?_)
   refine br_ (fun q1=>?_) fun q1=>?_
   ·conv=>whnf
    exact hno fun v v1 v2 e=>(hnum v v1 v2 e).2.2.2.1 (List.eq_nil_of_length_eq_zero (by omega))
   conv=>whnf
   refine br_ (fun q2=>?_) fun q2=>?_
   ·conv=>whnf
    exact hno fun v v1 v2 e=>by have:=(hnum v v1 v2 e).2.2.2.2;omega
   conv=>whnf
   refine loop_at [7,6] [] (fun r vs _ h'=>h=h'∧∃ i:Nat,i≤t.length∧r=t.length - i∧vs=[.v (.int .i64 i),.v (.int .u64 (dv (t.take i):Nat))]∧digs (t.take i)) t.length ⟨rfl,0,by omega,by omega,rfl,by simp [digs]⟩ ?_
   rintro r vs cs mm bx _ ⟨rfl,i,hi,rfl,rfl,hdg⟩
   conv=>whnf
   refine br_ (fun q3=>?_) fun q3=>?_
   ·have hiT:i<t.length:=by omega
    obtain ⟨b,hb⟩:∃ b,t[i]? = some b:=⟨_,List.getElem?_eq_getElem hiT⟩
    have hb':t[((i:Nat):Int).toNat]? = some b:=by rw [Int.toNat_natCast];exact hb
    have hdv:=dv_lt 18 (t.take i) (by rw [List.length_take];omega) hdg
    have hb8:=b.toNat_lt
    have htk:t.take (i+1)=t.take i++[b]:=by rw [List.take_add_one,hb];rfl
    have hdv2:=dv_snoc (t.take i) b
    rw [← htk] at hdv2
    have hbd:∀ v:Int,-9223372036854775808≤v→v≤9223372036854775807→Lib.itoa v=_→48≤b.toNat∧b.toNat≤57:=fun v v1 v2 e=>(hnum v v1 v2 e).2.1 b (List.mem_of_getElem? hb)
    generalize dv (t.take i)=D at *
    conv=>whnf
    refine ch_intro (b) (by omega) (hb') (cw_ ?_)
    refine br_ (fun q4=>?_) fun q4=>?_
    ·conv=>whnf
     exact hno fun v v1 v2 e=>by have:=hbd v v1 v2 e;omega
    conv=>whnf
    refine ch_intro (b) (by omega) (hb') (cw_ ?_)
    refine br_ (fun q5=>?_) fun q5=>?_
    ·conv=>whnf
     exact hno fun v v1 v2 e=>by have:=hbd v v1 v2 e;omega
    conv=>whnf
    refine n_ ?_
    refine ch_intro (b) (by omega) (hb') (cw_ ?_)
    refine n_ ?_
    refine n_ ?_
    refine n_ ?_
    refine n_ ?_
    refine ⟨t.length - (i+1),by omega,rfl,i+1,by omega,rfl,?_,?_⟩
    ·show [MV.v (.int .i64 ((i:Int)+1)),MV.v (.int .u64 (10*(D:Int)+((b.toNat:Int) - 48)))]=_
     rw [show 10*(D:Int)+((b.toNat:Int) - 48)=((dv (t.take (i+1)):Nat):Int) by omega]
     rfl
    ·intro x hx
     rw [htk] at hx
     rcases List.mem_append.1 hx with hx | hx
     ·exact hdg x hx
     ·simp only [List.mem_singleton] at hx;subst hx;omega
   have hin:i=t.length:=by omega
   subst hin
   rw [List.take_length] at hdg ⊢
   have hdv:=dv_lt 19 t (by omega) hdg
   have hnn:∀ v:Int,-9223372036854775808≤v→v≤9223372036854775807→Lib.itoa v=_→dv t=v.natAbs∧(0≤v):=fun v v1 v2 e=>⟨(hnum v v1 v2 e).2.2.1,by have:=(hnum v v1 v2 e).1;have h9:¬ v<0:=fun hh=>(by cases this.2 hh);omega⟩
   generalize dv t=D at *
   conv=>whnf
   refine br_ (fun q6=>?_) fun q6=>?_
   ·conv=>whnf
    exact hno fun v v1 v2 e=>by have:=hnn v v1 v2 e;omega
   conv=>whnf
   refine br_ (fun q7=>?_) fun q7=>?_
   ·conv=>whnf
    exact hno fun v v1 v2 e=>by have:=hnn v v1 v2 e;omega
   conv=>whnf
   refine n_ ?_
   refine rDigits_x (D:Int) (by omega) (by omega) (cw_ ?_)
   refine seq_intro (cw_ ?_)
   refine br_ (fun q9=>?_) fun q9=>?_
   ·conv=>whnf
    exact hno fun v v1 v2 e=>by
     have h1:=hnn v v1 v2 e
     obtain rfl:v=(D:Int):=by omega
     exact q9 e
   ·conv=>whnf
    exact hk _ true ⟨fun _=>⟨q9,by omega,by omega⟩,fun v v1 v2 e=>⟨rfl,by have:=hnn v v1 v2 e;omega⟩,fun e=>by cases e⟩
  ·have ht0:t=[]:=List.eq_nil_of_length_eq_zero (by omega)
   conv=>whnf
   conv=>whnf
   refine br_ (fun q1=>?_) fun q1=>?_
   ·conv=>whnf
    exact hno fun v v1 v2 e=>(hnum v v1 v2 e).2.2.2.1 (List.eq_nil_of_length_eq_zero (by omega))
   conv=>whnf
   refine br_ (fun q2=>?_) fun q2=>?_
   ·conv=>whnf
    exact hno fun v v1 v2 e=>by have:=(hnum v v1 v2 e).2.2.2.2;omega
   conv=>whnf
   refine loop_at [7,6] [] (fun r vs _ h'=>h=h'∧∃ i:Nat,i≤t.length∧r=t.length - i∧vs=[.v (.int .i64 i),.v (.int .u64 (dv (t.take i):Nat))]∧digs (t.take i)) t.length ⟨rfl,0,by omega,by omega,rfl,by simp [digs]⟩ ?_
   rintro r vs cs mm bx _ ⟨rfl,i,hi,rfl,rfl,hdg⟩
   conv=>whnf
   refine br_ (fun q3=>?_) fun q3=>?_
   ·have hiT:i<t.length:=by omega
    obtain ⟨b,hb⟩:∃ b,t[i]? = some b:=⟨_,List.getElem?_eq_getElem hiT⟩
    have hb':t[((i:Nat):Int).toNat]? = some b:=by rw [Int.toNat_natCast];exact hb
    have hdv:=dv_lt 18 (t.take i) (by rw [List.length_take];omega) hdg
    have hb8:=b.toNat_lt
    have htk:t.take (i+1)=t.take i++[b]:=by rw [List.take_add_one,hb];rfl
    have hdv2:=dv_snoc (t.take i) b
    rw [← htk] at hdv2
    have hbd:∀ v:Int,-9223372036854775808≤v→v≤9223372036854775807→Lib.itoa v=_→48≤b.toNat∧b.toNat≤57:=fun v v1 v2 e=>(hnum v v1 v2 e).2.1 b (List.mem_of_getElem? hb)
    generalize dv (t.take i)=D at *
    conv=>whnf
    refine ch_intro (b) (by omega) (hb') (cw_ ?_)
    refine br_ (fun q4=>?_) fun q4=>?_
    ·conv=>whnf
     exact hno fun v v1 v2 e=>by have:=hbd v v1 v2 e;omega
    conv=>whnf
    refine ch_intro (b) (by omega) (hb') (cw_ ?_)
    refine br_ (fun q5=>?_) fun q5=>?_
    ·conv=>whnf
     exact hno fun v v1 v2 e=>by have:=hbd v v1 v2 e;omega
    conv=>whnf
    refine n_ ?_
    refine ch_intro (b) (by omega) (hb') (cw_ ?_)
    refine n_ ?_
    refine n_ ?_
    refine n_ ?_
    refine n_ ?_
    refine ⟨t.length - (i+1),by omega,rfl,i+1,by omega,rfl,?_,?_⟩
    ·show [MV.v (.int .i64 ((i:Int)+1)),MV.v (.int .u64 (10*(D:Int)+((b.toNat:Int) - 48)))]=_
     rw [show 10*(D:Int)+((b.toNat:Int) - 48)=((dv (t.take (i+1)):Nat):Int) by omega]
     rfl
    ·intro x hx
     rw [htk] at hx
     rcases List.mem_append.1 hx with hx | hx
     ·exact hdg x hx
     ·simp only [List.mem_singleton] at hx;subst hx;omega
   have hin:i=t.length:=by omega
   subst hin
   rw [List.take_length] at hdg ⊢
   have hdv:=dv_lt 19 t (by omega) hdg
   have hnn:∀ v:Int,-9223372036854775808≤v→v≤9223372036854775807→Lib.itoa v=_→dv t=v.natAbs∧(0≤v):=fun v v1 v2 e=>⟨(hnum v v1 v2 e).2.2.1,by have:=(hnum v v1 v2 e).1;have h9:¬ v<0:=fun hh=>(by cases this.2 hh);omega⟩
   generalize dv t=D at *
   conv=>whnf
   refine br_ (fun q6=>?_) fun q6=>?_
   ·conv=>whnf
    exact hno fun v v1 v2 e=>by have:=hnn v v1 v2 e;omega
   conv=>whnf
   refine br_ (fun q7=>?_) fun q7=>?_
   ·conv=>whnf
    exact hno fun v v1 v2 e=>by have:=hnn v v1 v2 e;omega
   conv=>whnf
   refine n_ ?_
   refine rDigits_x (D:Int) (by omega) (by omega) (cw_ ?_)
   refine seq_intro (cw_ ?_)
   refine br_ (fun q9=>?_) fun q9=>?_
   ·conv=>whnf
    exact hno fun v v1 v2 e=>by
     have h1:=hnn v v1 v2 e
     obtain rfl:v=(D:Int):=by omega
     exact q9 e
   ·conv=>whnf
    exact hk _ true ⟨fun _=>⟨q9,by omega,by omega⟩,fun v v1 v2 e=>⟨rfl,by have:=hnn v v1 v2 e;omega⟩,fun e=>by cases e⟩
theorem rnumber_x (s:Str) (hs:s.length≤2 ^ 40) (hk:K (okV (numA s)) h):X Tryz.prog 83 #[sv s] h K :=
 number2_x s hs fun k ok hn=>by
  obtain ⟨rfl,rfl⟩:=hn.eq
  exact hk
end
end Go.Proofs.YtdhkjcdneidgaaaGreatDoor
